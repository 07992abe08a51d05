/-
  Parts of the proof, in their order: PLayers, FitsI, FillC, Alv, NewW, NewF, NumE, PNum.
-/
import Derived.Test.YtcaikaflpmaocaaPk8
import Derived.Test.YtcaikaflpmaocaaPk9
import Derived.Test.YtcaikaflpmaocaaPk10
import Derived.Deep.CutBlock
import Derived.Test.YtcaikaflpmaocaaPk7
namespace Go.Proofs.Ytcaikaflpmaocaa
open Go Go.RowKit Go.Proofs Go.Proofs.YtcaikaflpmaocaaW.PrintWords Go.Proofs.YtcaikaflpmaocaaW.PrintMore Go.Proofs.Ytcaikaflpmaocaa.Q
set_option linter.unusedVariables false
set_option linter.unusedSimpArgs false
theorem power_all : ∀ c : Fin 7, ∀ n : Fin 7, spec_l03Power.f 60 (c.val : Int) (n.val : Int) = some ((c.val ^ n.val : Nat) : Int) := by decide +kernel
theorem power_ev (c n : Nat) (hc : c ≤ 6) (hn : n ≤ 6) : Ev (fun k => spec_l03Power.f k (c : Int) (n : Int)) ((c ^ n : Nat) : Int) :=
  Ev.of (fun k => spec_l03Power.mono _ _ k) (power_all ⟨c, by omega⟩ ⟨n, by omega⟩)
theorem pow_le (c n : Nat) (hc : c ≤ 6) (hn : n ≤ 6) : c ^ n ≤ 46656 := by
  calc c ^ n ≤ 6 ^ n := Nat.pow_le_pow_left hc n
    _ ≤ 6 ^ 6 := Nat.pow_le_pow_right (by decide) hn
theorem mul6 {a b : Nat} (ha : a ≤ 6) (hb : b ≤ 46656) : a * b ≤ 279936 := Nat.mul_le_mul ha hb
theorem tdiv_nat (a b : Nat) (h : a < 1000000000) : wrap64 (Int.tdiv (a : Int) (b : Int)) = ((a / b : Nat) : Int) := by
  have h1 : a / b ≤ a := Nat.div_le_self a b
  rw [← Int.ofNat_tdiv]
  generalize a / b = q at h1
  exact wrap_id (by omega) (by omega)
theorem tmod_nat (a b : Nat) : Int.tmod (a : Int) (b : Int) = ((a % b : Nat) : Int) := (Int.ofNat_tmod a b).symm
theorem dig_int (c s k : Nat) (h : s < 1000000000) : Int.tmod (wrap64 (Int.tdiv (s : Int) ((c ^ k : Nat) : Int))) (c : Int) = ((dig c s k : Nat) : Int) := by
  rw [tdiv_nat _ _ h, tmod_nat]; rfl
theorem next_aux {s X E z f3 d f2 hi B T : Int} (h1 : (f3 - d) * B = X) (h2 : (f2 - hi) * T = E) (b1 : -100 ≤ f3 - d ∧ f3 - d ≤ 100) (b2 : -100 ≤ f2 - hi ∧ f2 - hi ≤ 100) (bX : -1000000 ≤ X ∧ X ≤ 1000000) (bE : -1000000 ≤ E ∧ E ≤ 1000000) (bs : 0 ≤ s ∧ s ≤ 1000000) (hz : z = s + X + E) :
    wrap64 ((wrap64 (s + (wrap64 ((wrap64 (f3 - d)) * B)))) + (wrap64 ((wrap64 (f2 - hi)) * T))) = z := by
  rw [wrap_id (x := f3 - d) (by omega) (by omega), h1, wrap_id (x := X) (by omega) (by omega), wrap_id (x := f2 - hi) (by omega) (by omega), h2, wrap_id (x := E) (by omega) (by omega), wrap_id (x := s + X) (by omega) (by omega), wrap_id (by omega) (by omega), hz]
theorem lin_aux {s m q g lo T X E z : Int} (e1 : lo = m + X) (e2 : s = m + q) (e3 : E = g - q) (l0 : 0 ≤ lo) (l1 : lo < T) (l2 : T ≤ 46656) (m0 : 0 ≤ m) (m1 : m < T) (q0 : 0 ≤ q) (q1 : q ≤ 279936) (g0 : 0 ≤ g) (g1 : g ≤ 279936) (hz : z = s + X - q + g) :
    (-1000000 ≤ X ∧ X ≤ 1000000) ∧ (-1000000 ≤ E ∧ E ≤ 1000000) ∧ (0 ≤ s ∧ s ≤ 1000000) ∧ z = s + X + E := by omega
theorem next_wrap (c w : Nat) (t : STile) (p s : Nat) (hc : 0 < c) (c6 : c ≤ 6) (hw : 0 < w) (w5 : w ≤ 5) (ht : Col c t) (hs : s < c ^ (w + 1)) :
    wrap64 ((wrap64 ((s : Int) + (wrap64 ((wrap64 (t.f3 - ((dig c s (p % w) : Nat) : Int))) * ((c ^ (p % w) : Nat) : Int))))) + (wrap64 ((wrap64 (t.f2 - ((s / c ^ w : Nat) : Int))) * ((c ^ w : Nat) : Int)))) = ((nextZ true c w t p s).toNat : Int) := by
  have hx : p % w < w := Nat.mod_lt _ hw
  obtain ⟨lo, h1, e1, -, h3⟩ := next_parts true c w t p s hc hw ht
  obtain ⟨-, -, g2, g3⟩ := ht
  have hT : c ^ w ≤ 46656 := pow_le c w c6 (by omega)
  have hd : dig c s (p % w) < c := Nat.mod_lt _ hc
  have hhi : s / c ^ w < c := by
    rw [Nat.div_lt_iff_lt_mul (Nat.pow_pos hc)]; rw [Nat.pow_succ, Nat.mul_comm] at hs; exact hs
  have hm : s % c ^ w < c ^ w := Nat.mod_lt _ (Nat.pow_pos hc)
  have hsm : s % c ^ w + s / c ^ w * c ^ w = s := by rw [Nat.mul_comm]; exact Nat.mod_add_div s (c ^ w)
  have b2 : (t.f2 - ((s / c ^ w : Nat) : Int)) * ((c ^ w : Nat) : Int) = t.f2 * ((c ^ w : Nat) : Int) - ((s / c ^ w : Nat) : Int) * ((c ^ w : Nat) : Int) := Int.sub_mul _ _ _
  have m2 : t.f2 * ((c ^ w : Nat) : Int) = ((t.f2.toNat * c ^ w : Nat) : Int) := by rw [Int.natCast_mul, Int.toNat_of_nonneg g2.1]
  have m3 : ((s / c ^ w : Nat) : Int) * ((c ^ w : Nat) : Int) = ((s / c ^ w * c ^ w : Nat) : Int) := by rw [Int.natCast_mul]
  have n2 : t.f2.toNat * c ^ w ≤ 279936 := mul6 (by omega) hT
  have n3 : s / c ^ w * c ^ w ≤ 279936 := mul6 (by omega) hT
  have hz : nextZ true c w t p s = (s : Int) + (t.f3 - (dig c s (p % w) : Int)) * ((c ^ (p % w) : Nat) : Int) - ((s / c ^ w * c ^ w : Nat) : Int) + ((t.f2.toNat * c ^ w : Nat) : Int) := by
    unfold nextZ; rw [m3]; simp only [Bool.true_or, if_true, m2]
  rw [m2, m3] at b2
  generalize hgX : (t.f3 - (dig c s (p % w) : Int)) * ((c ^ (p % w) : Nat) : Int) = X at hz e1
  generalize hgE : (t.f2 - ((s / c ^ w : Nat) : Int)) * ((c ^ w : Nat) : Int) = E at b2
  have hh : ((s / c ^ w : Nat) : Int) < (c : Int) := Int.ofNat_lt.2 hhi
  have hh0 : (0 : Int) ≤ ((s / c ^ w : Nat) : Int) := Int.natCast_nonneg _
  have hd1 : ((dig c s (p % w) : Nat) : Int) < (c : Int) := Int.ofNat_lt.2 hd
  have hd0 : (0 : Int) ≤ ((dig c s (p % w) : Nat) : Int) := Int.natCast_nonneg _
  have hsm' : (s : Int) = ((s % c ^ w : Nat) : Int) + ((s / c ^ w * c ^ w : Nat) : Int) := by rw [← Int.natCast_add, hsm]
  obtain ⟨k1, k2, k3, k4⟩ := lin_aux (T := ((c ^ w : Nat) : Int)) e1 hsm' b2 (Int.natCast_nonneg _) (Int.ofNat_lt.2 h1) (Int.ofNat_le.2 hT) (Int.natCast_nonneg _) (Int.ofNat_lt.2 hm) (Int.natCast_nonneg _) (Int.ofNat_le.2 n3) (Int.natCast_nonneg _) (Int.ofNat_le.2 n2) hz
  rw [Int.toNat_of_nonneg h3]
  refine next_aux hgX hgE ?_ ?_ k1 k2 k3 k4
  · generalize ((dig c s (p % w) : Nat) : Int) = d at hd1 hd0 ⊢
    clear hgX hgE hz k4 e1 b2 hsm' n2 n3 hsm hm hhi hT h1 h3 hs m2 m3
    omega
  · generalize ((s / c ^ w : Nat) : Int) = d at hh hh0 ⊢
    clear hgX hgE hz k4 e1 b2 hsm' n2 n3 hsm hm hhi hT h1 h3 hs m2 m3
    omega
def fitP (plan bs : List (List Int)) (l : List STile) : Nat → Nat → Bool := fun p i => fitB (l.map toT) plan bs (p / rowLen plan 0) (p % rowLen plan 0) i
def stepS (c : Nat) (plan bs : List (List Int)) (l : List STile) : Nx := nx true c (rowLen plan 0) l (fitP plan bs l)
def places (plan : List (List Int)) : Nat := plan.length * rowLen plan 0
def size (c : Nat) (plan : List (List Int)) : Nat := c ^ (rowLen plan 0 + 1)
def onS (c : Nat) (plan bs : List (List Int)) (l : List STile) (p : Nat) : Nat → Int := onw (stepS c plan bs l) l.length (places plan - p) p
def layS (c : Nat) (plan bs : List (List Int)) (l : List STile) (p : Nat) : List Int := capRow (size c plan) (onS c plan bs l p)
theorem fits_f (C : Int) (l : List STile) (plan bs : List (List Int)) (hsh : Shape plan bs) (hl : l.length ≤ 1000) (p i : Nat) (hp : p < places plan) (hi : i < l.length) :
    spec_l03Fits.f C l plan bs ((p / rowLen plan 0 : Nat) : Int) ((p % rowLen plan 0 : Nat) : Int) (i : Int) = some (fitP plan bs l p i) := by
  have h1 : p / rowLen plan 0 < plan.length := (Nat.div_lt_iff_lt_mul hsh.w1).2 hp
  have h2 : p % rowLen plan 0 < rowLen plan 0 := Nat.mod_lt _ hsh.w1
  unfold spec_l03Fits.f
  rw [if_pos]
  · simp only [fitP, Int.toNat_natCast]
  · have h3 := shapeB_of hsh
    simp only [placeB, Bool.and_eq_true, decide_eq_true_eq]
    exact ⟨⟨by omega, h3⟩, ⟨⟨Int.natCast_nonneg _, Int.ofNat_lt.2 h1⟩, Int.natCast_nonneg _, Int.ofNat_lt.2 h2⟩, Int.natCast_nonneg _, Int.ofNat_lt.2 hi⟩
theorem nat_pos_iff (n : Nat) : (n : Int) > 0 ↔ ¬ n = 0 := by omega
theorem div_pos_iff {p w : Nat} (hw : 0 < w) : ((p / w : Nat) : Int) > 0 ↔ ¬ p < w := by
  rw [nat_pos_iff, Nat.div_eq_zero_iff]
  omega
theorem cap_bnd {x y : Int} (hx : 0 ≤ x) (hy : 0 ≤ y) : wrap64 (cap x + cap y) = cap x + cap y := wrap_id (by have := cap_nn hx; have := cap_nn hy; omega) (by have := cap_le x; have := cap_le y; omega)
theorem nat_ne0 {n : Nat} (h : 0 < n) : ¬ (n : Int) = 0 := by omega
theorem tl_get (l : List STile) (i : Nat) (h : i < l.length) : tlAt l i = l[i] := by simp [tlAt, List.getD_eq_getElem?_getD, List.getElem?_eq_getElem h]
theorem rdT_get (l : List STile) (i : Nat) (h : i < l.length) : rd_T85 l (i : Int) = l[i] := by
  simp [rd_T85, List.getD_eq_getElem?_getD, List.getElem?_eq_getElem h]
theorem rdL_nat (x : List (List Int)) (i : Nat) : rd_L1 x (i : Int) = x.getD i [] := by simp [rd_L1]
theorem getD_setL (v : List (List Int)) (e i : Nat) (x : List Int) (h : e < v.length) : (v.set e x).getD i [] = if i = e then x else v.getD i [] := by
  simp only [List.getD_eq_getElem?_getD, List.getElem?_set]
  by_cases hi : e = i
  · subst hi; simp [h]
  · simp [hi, Ne.symm hi]
def mix (Q' Q : Nat → Int) (s : Nat) : Nat → Int := fun a => if a < s then Q' a else Q a
theorem mix_same {sz s : Nat} {Q' Q : Nat → Int} (h : Q' s = Q s) : capRow sz (mix Q' Q s) = capRow sz (mix Q' Q (s + 1)) := by
  apply capRow_congr
  intro a ha
  unfold mix
  by_cases h1 : a < s
  · rw [if_pos h1, if_pos (by omega)]
  · rw [if_neg h1]
    by_cases h2 : a < s + 1
    · rw [if_pos h2]
      have : a = s := by omega
      subst this
      exact h.symm
    · rw [if_neg h2]
theorem mix_set {sz s : Nat} {Q' Q : Nat → Int} {y : Int} (hs : s < sz) (h : Q' s = Q s + y) : (capRow sz (mix Q' Q s)).set s (cap (Q s + y)) = capRow sz (mix Q' Q (s + 1)) := by
  have q3 : Q s = mix Q' Q s s := by unfold mix; rw [if_neg (by omega)]
  rw [q3, capRow_set hs]
  apply capRow_congr
  intro a ha
  unfold mix
  by_cases h1 : a < s
  · rw [if_pos h1, if_neg (by omega), if_pos (by omega), Int.add_zero]
  · rw [if_neg h1]
    by_cases h2 : a = s
    · subst h2
      rw [if_pos rfl, if_pos (by omega), h]
    · rw [if_neg h2, if_neg (by omega), Int.add_zero]
theorem mix_all {sz : Nat} {Q' Q : Nat → Int} : capRow sz (mix Q' Q sz) = capRow sz Q' := capRow_congr fun a ha => if_pos ha
theorem mix_none {sz : Nat} {Q' Q : Nat → Int} : capRow sz (mix Q' Q 0) = capRow sz Q := capRow_congr fun a ha => if_neg (by omega)
theorem mix_at {sz s : Nat} {Q' Q : Nat → Int} (hs : s < sz) : rd (capRow sz (mix Q' Q s)) (s : Int) = cap (Q s) := by
  rw [rd_nat, capRow_get hs]; unfold mix; rw [if_neg (by omega)]
theorem capRow_at {c s : Nat} {q : Nat → Int} (h : s < c) : rd (capRow c q) (s : Int) = cap (q s) := by rw [rd_nat, capRow_get h]
section
variable (C : Int) (c : Nat) (l : List STile) (plan bs : List (List Int)) (r : List (List Int))
def part (c : Nat) (l : List STile) (plan bs : List (List Int)) (p i : Nat) (a : Nat) : Int := ((List.range i).map fun j => val (onS c plan bs l (p + 1)) (stepS c plan bs l p a j)).sum
theorem part_succ (p i a : Nat) : part c l plan bs p (i + 1) a = part c l plan bs p i a + val (onS c plan bs l (p + 1)) (stepS c plan bs l p a i) := by
  simp [part, List.range_succ, List.sum_append]
theorem val_nn {q : Nat → Int} (h : ∀ a, 0 ≤ q a) (o : Option Nat) : 0 ≤ val q o := by
  cases o
  · exact Int.le_refl 0
  · exact h _
theorem onS_nn (p a : Nat) : 0 ≤ onS c plan bs l p a := onw_nn _ _ _ _ _
theorem part_nn (p i a : Nat) : 0 ≤ part c l plan bs p i a := by
  apply sum_nn
  intro x hx
  obtain ⟨j, -, rfl⟩ := List.mem_map.1 hx
  exact val_nn (onS_nn c l plan bs (p + 1)) _
theorem part_all (p : Nat) (hp : p < places plan) (a : Nat) : part c l plan bs p l.length a = onS c plan bs l p a := by
  rw [onS, show places plan - p = (places plan - (p + 1)) + 1 by omega, onw]; rfl
theorem layers_l3 (hC : C = (c : Int)) (hc : 0 < c) (c6 : c ≤ 6) (hsh : Shape plan bs) (hcol : ∀ t ∈ l, Col c t) (hl : l.length ≤ 1000) (p i : Nat) (hp : p < places plan) (hi : i < l.length) (hfit : fitP plan bs l p i = true)
    (x : List (List Int)) (hxl : x.length = places plan + 1) (hx : x.getD (p + 1) [] = layS c plan bs l (p + 1))
    (hgo : Ev (fun k => spec_l03Layers.l2 k plan bs (rowLen plan 0 : Nat) C (size c plan : Nat) x ((c ^ rowLen plan 0 : Nat) : Int) (p : Nat) ((p / rowLen plan 0 : Nat) : Int) ((p % rowLen plan 0 : Nat) : Int) (capRow (size c plan) (part c l plan bs p (i + 1))) ((c ^ (p % rowLen plan 0) : Nat) : Int) ((i + 1 : Nat) : Int) C l) r)
    (d : Nat) : ∀ s, s + d = size c plan →
    Ev (fun k => spec_l03Layers.l3 k plan bs (rowLen plan 0 : Nat) C (size c plan : Nat) x ((c ^ rowLen plan 0 : Nat) : Int) (p : Nat) ((p / rowLen plan 0 : Nat) : Int) ((p % rowLen plan 0 : Nat) : Int)
      (capRow (size c plan) (mix (part c l plan bs p (i + 1)) (part c l plan bs p i) s)) ((c ^ (p % rowLen plan 0) : Nat) : Int) (i : Nat) (s : Nat) C l l[i].f0 l[i].f1 l[i].f2 l[i].f3) r := by
  have hw := hsh.w1
  have w5 := hsh.w5
  have hS : size c plan ≤ 46656 := pow_le c (rowLen plan 0 + 1) c6 (by omega)
  have hpl : places plan ≤ 25 := by unfold places; exact Nat.mul_le_mul hsh.h5 w5
  have ht := hcol l[i] (List.getElem_mem hi)
  have htl := tl_get l i hi
  induction d with
  | zero =>
    intro s hs
    have b1 : ¬ ((s : Nat) : Int) < ((size c plan : Nat) : Int) := by omega
    have hi9 : i < 1000000000 := by omega
    refine Ev.step (fun k => ?_) hgo
    have e : s = size c plan := by omega
    rw [spec_l03Layers.l3, if_neg b1, succ_wrap i hi9, e, mix_all]
  | succ d ih =>
    intro s hs
    have hss : s < size c plan := by omega
    have b1 : ((s : Nat) : Int) < ((size c plan : Nat) : Int) := by omega
    have s9 : s < 1000000000 := by omega
    have c0 : ¬ ((c ^ (p % rowLen plan 0) : Nat) : Int) = 0 := nat_ne0 (Nat.pow_pos hc)
    have c1 : ¬ C = 0 := by omega
    have c2 : ¬ ((c ^ rowLen plan 0 : Nat) : Int) = 0 := nat_ne0 (Nat.pow_pos hc)
    have s1 : s + 1 + d = size c plan := by omega
    have p9 : p < 1000000000 := by omega
    have a4 : ((p + 1 : Nat) : Int) < (x.length : Int) := by omega
    have hno : stepS c plan bs l p s i = none → Ev (fun k => spec_l03Layers.l3 k plan bs (rowLen plan 0 : Nat) C (size c plan : Nat) x ((c ^ rowLen plan 0 : Nat) : Int) (p : Nat) ((p / rowLen plan 0 : Nat) : Int) ((p % rowLen plan 0 : Nat) : Int)
      (capRow (size c plan) (mix (part c l plan bs p (i + 1)) (part c l plan bs p i) s)) ((c ^ (p % rowLen plan 0) : Nat) : Int) (i : Nat) ((s + 1 : Nat) : Int) C l l[i].f0 l[i].f1 l[i].f2 l[i].f3) r := by
      intro hn
      rw [mix_same (by rw [part_succ, hn]; exact Int.add_zero _)]
      exact ih (s + 1) s1
    have hyes : ∀ b : Nat, stepS c plan bs l p s i = some b → (b : Int) = ((nextZ true c (rowLen plan 0) l[i] p s).toNat : Int) → ∀ z : List Int, z = (capRow (size c plan) (mix (part c l plan bs p (i + 1)) (part c l plan bs p i) s)).set ((s : Int)).toNat (mn (wrap64 (rd (capRow (size c plan) (mix (part c l plan bs p (i + 1)) (part c l plan bs p i) s)) (s : Int) + rd (rd_L1 x ((p + 1 : Nat) : Int)) (b : Int))) 1000000000000001) →
        b < size c plan → Ev (fun k => spec_l03Layers.l3 k plan bs (rowLen plan 0 : Nat) C (size c plan : Nat) x ((c ^ rowLen plan 0 : Nat) : Int) (p : Nat) ((p / rowLen plan 0 : Nat) : Int) ((p % rowLen plan 0 : Nat) : Int)
      z ((c ^ (p % rowLen plan 0) : Nat) : Int) (i : Nat) ((s + 1 : Nat) : Int) C l l[i].f0 l[i].f1 l[i].f2 l[i].f3) r := by
      intro b hb hbz z hz hbs
      have q2 : rd (rd_L1 x ((p + 1 : Nat) : Int)) (b : Int) = cap (onS c plan bs l (p + 1) b) := by rw [rdL_nat, hx]; exact capRow_at hbs
      have n1 := part_nn c l plan bs p i s
      have n2 := onS_nn c l plan bs (p + 1) b
      rw [hz, mix_at hss, q2, mn_cap, cap_bnd n1 n2, cap_add n1 n2, Int.toNat_natCast, mix_set hss (by rw [part_succ, hb]; rfl)]
      exact ih (s + 1) s1
    have a1 : (0 : Int) ≤ (s : Int) := Int.natCast_nonneg s
    have a2 : (s : Int) < ((capRow (size c plan) (mix (part c l plan bs p (i + 1)) (part c l plan bs p i) s)).length : Int) := by rw [capRow_len]; exact b1
    have a3 : (0 : Int) ≤ ((p + 1 : Nat) : Int) := Int.natCast_nonneg _
    have a5 : (0 : Int) ≤ ((nextZ true c (rowLen plan 0) l[i] p s).toNat : Int) := Int.natCast_nonneg _
    have hy : ((p / rowLen plan 0 : Nat) : Int) > 0 ↔ ¬ p < rowLen plan 0 := div_pos_iff hw
    have hx0 : ((p % rowLen plan 0 : Nat) : Int) > 0 ↔ ¬ p % rowLen plan 0 = 0 := nat_pos_iff _
    have hst : stepS c plan bs l p s i = if ((p < rowLen plan 0 ∨ ((dig c s (p % rowLen plan 0) : Nat) : Int) = l[i].f1) ∧ (p % rowLen plan 0 = 0 ∨ ((s / c ^ rowLen plan 0 : Nat) : Int) = l[i].f0)) then some (nextZ true c (rowLen plan 0) l[i] p s).toNat else none := by
      simp only [stepS, nx, hfit, htl, Bool.true_and, Bool.and_eq_true, Bool.or_eq_true, decide_eq_true_eq]
    have hnx : ((p < rowLen plan 0 ∨ ((dig c s (p % rowLen plan 0) : Nat) : Int) = l[i].f1) ∧ (p % rowLen plan 0 = 0 ∨ ((s / c ^ rowLen plan 0 : Nat) : Int) = l[i].f0)) → (nextZ true c (rowLen plan 0) l[i] p s).toNat < size c plan := by
      intro hcond
      rw [if_pos hcond] at hst
      exact nx_stay true c (rowLen plan 0) l (fitP plan bs l) hc hw hcol p s i _ hss hi hst
    have e1 : Int.tmod (wrap64 (Int.tdiv (s : Int) ((c ^ (p % rowLen plan 0) : Nat) : Int))) C = ((dig c s (p % rowLen plan 0) : Nat) : Int) := by rw [hC]; exact dig_int c s _ s9
    have e2 : wrap64 (Int.tdiv (s : Int) ((c ^ rowLen plan 0 : Nat) : Int)) = ((s / c ^ rowLen plan 0 : Nat) : Int) := tdiv_nat _ _ s9
    have e3 := next_wrap c (rowLen plan 0) l[i] p s hc c6 hw w5 ht hss
    have hsucc : wrap64 ((s : Int) + 1) = ((s + 1 : Nat) : Int) := succ_wrap s s9
    have hp1 : wrap64 ((p : Int) + 1) = ((p + 1 : Nat) : Int) := succ_wrap p p9
    by_cases hY : p < rowLen plan 0
    · have y0 : ¬ ((p / rowLen plan 0 : Nat) : Int) > 0 := fun h => hy.1 h hY
      by_cases hX : p % rowLen plan 0 = 0
      · have x0 : ¬ ((p % rowLen plan 0 : Nat) : Int) > 0 := fun h => hx0.1 h hX
        have hcond : ((p < rowLen plan 0 ∨ ((dig c s (p % rowLen plan 0) : Nat) : Int) = l[i].f1) ∧ (p % rowLen plan 0 = 0 ∨ ((s / c ^ rowLen plan 0 : Nat) : Int) = l[i].f0)) := ⟨.inl hY, .inl hX⟩
        have a6 : ((nextZ true c (rowLen plan 0) l[i] p s).toNat : Int) < ((rd_L1 x ((p + 1 : Nat) : Int)).length : Int) := by rw [rdL_nat, hx, layS, capRow_len]; exact Int.ofNat_lt.2 (hnx hcond)
        refine Ev.step (fun k => ?_) (hyes _ (by rw [hst, if_pos hcond]) rfl _ rfl (hnx hcond))
        rw [spec_l03Layers.l3, if_pos b1, if_neg c0, if_neg c1, if_neg c2, if_neg y0, if_neg x0, if_pos a1, if_pos a2, hp1, if_pos a3, if_pos a4, e1, e2, e3, if_pos a5, if_pos a6, hsucc]
      · have x0 : ((p % rowLen plan 0 : Nat) : Int) > 0 := hx0.2 hX
        by_cases hW : ((s / c ^ rowLen plan 0 : Nat) : Int) = l[i].f0
        · have hcond : ((p < rowLen plan 0 ∨ ((dig c s (p % rowLen plan 0) : Nat) : Int) = l[i].f1) ∧ (p % rowLen plan 0 = 0 ∨ ((s / c ^ rowLen plan 0 : Nat) : Int) = l[i].f0)) := ⟨.inl hY, .inr hW⟩
          have a6 : ((nextZ true c (rowLen plan 0) l[i] p s).toNat : Int) < ((rd_L1 x ((p + 1 : Nat) : Int)).length : Int) := by rw [rdL_nat, hx, layS, capRow_len]; exact Int.ofNat_lt.2 (hnx hcond)
          refine Ev.step (fun k => ?_) (hyes _ (by rw [hst, if_pos hcond]) rfl _ rfl (hnx hcond))
          rw [spec_l03Layers.l3, if_pos b1, if_neg c0, if_neg c1, if_neg c2, if_neg y0, if_pos x0, e2, if_pos hW, if_pos a1, if_pos a2, hp1, if_pos a3, if_pos a4, e1, e3, if_pos a5, if_pos a6, hsucc]
        · refine Ev.step (fun k => ?_) (hno (by rw [hst, if_neg (by rintro ⟨-, h | h⟩ <;> contradiction)]))
          rw [spec_l03Layers.l3, if_pos b1, if_neg c0, if_neg c1, if_neg c2, if_neg y0, if_pos x0, e2, if_neg hW, hsucc]
    · have y0 : ((p / rowLen plan 0 : Nat) : Int) > 0 := hy.2 hY
      by_cases hD : ((dig c s (p % rowLen plan 0) : Nat) : Int) = l[i].f1
      · by_cases hX : p % rowLen plan 0 = 0
        · have x0 : ¬ ((p % rowLen plan 0 : Nat) : Int) > 0 := fun h => hx0.1 h hX
          have hcond : ((p < rowLen plan 0 ∨ ((dig c s (p % rowLen plan 0) : Nat) : Int) = l[i].f1) ∧ (p % rowLen plan 0 = 0 ∨ ((s / c ^ rowLen plan 0 : Nat) : Int) = l[i].f0)) := ⟨.inr hD, .inl hX⟩
          have a6 : ((nextZ true c (rowLen plan 0) l[i] p s).toNat : Int) < ((rd_L1 x ((p + 1 : Nat) : Int)).length : Int) := by rw [rdL_nat, hx, layS, capRow_len]; exact Int.ofNat_lt.2 (hnx hcond)
          refine Ev.step (fun k => ?_) (hyes _ (by rw [hst, if_pos hcond]) rfl _ rfl (hnx hcond))
          rw [spec_l03Layers.l3, if_pos b1, if_neg c0, if_neg c1, if_neg c2, if_pos y0, e1, if_pos hD, if_neg x0, if_pos a1, if_pos a2, hp1, if_pos a3, if_pos a4, e2, e3, if_pos a5, if_pos a6, hsucc]
        · have x0 : ((p % rowLen plan 0 : Nat) : Int) > 0 := hx0.2 hX
          by_cases hW : ((s / c ^ rowLen plan 0 : Nat) : Int) = l[i].f0
          · have hcond : ((p < rowLen plan 0 ∨ ((dig c s (p % rowLen plan 0) : Nat) : Int) = l[i].f1) ∧ (p % rowLen plan 0 = 0 ∨ ((s / c ^ rowLen plan 0 : Nat) : Int) = l[i].f0)) := ⟨.inr hD, .inr hW⟩
            have a6 : ((nextZ true c (rowLen plan 0) l[i] p s).toNat : Int) < ((rd_L1 x ((p + 1 : Nat) : Int)).length : Int) := by rw [rdL_nat, hx, layS, capRow_len]; exact Int.ofNat_lt.2 (hnx hcond)
            refine Ev.step (fun k => ?_) (hyes _ (by rw [hst, if_pos hcond]) rfl _ rfl (hnx hcond))
            rw [spec_l03Layers.l3, if_pos b1, if_neg c0, if_neg c1, if_neg c2, if_pos y0, e1, if_pos hD, if_pos x0, e2, if_pos hW, if_pos a1, if_pos a2, hp1, if_pos a3, if_pos a4, e3, if_pos a5, if_pos a6, hsucc]
          · refine Ev.step (fun k => ?_) (hno (by rw [hst, if_neg (by rintro ⟨-, h | h⟩ <;> contradiction)]))
            rw [spec_l03Layers.l3, if_pos b1, if_neg c0, if_neg c1, if_neg c2, if_pos y0, e1, if_pos hD, if_pos x0, e2, if_neg hW, hsucc]
      · refine Ev.step (fun k => ?_) (hno (by rw [hst, if_neg (by rintro ⟨h | h, -⟩ <;> contradiction)]))
        rw [spec_l03Layers.l3, if_pos b1, if_neg c0, if_neg c1, if_neg c2, if_pos y0, e1, if_neg hD, hsucc]
theorem step_nofit (p s i : Nat) (h : fitP plan bs l p i = false) : stepS c plan bs l p s i = none := by
  simp [stepS, nx, h]
theorem layers_l2 (hC : C = (c : Int)) (hc : 0 < c) (c6 : c ≤ 6) (hsh : Shape plan bs) (hcol : ∀ t ∈ l, Col c t) (hl : l.length ≤ 1000) (p : Nat) (hp : p < places plan)
    (x : List (List Int)) (hxl : x.length = places plan + 1) (hx : x.getD (p + 1) [] = layS c plan bs l (p + 1))
    (hgo : Ev (fun k => spec_l03Layers.l1 k plan bs (rowLen plan 0 : Nat) C (size c plan : Nat) (x.set p (layS c plan bs l p)) ((c ^ rowLen plan 0 : Nat) : Int) (wrap64 ((p : Int) - 1)) C l) r)
    (d : Nat) : ∀ i, i + d = l.length →
    Ev (fun k => spec_l03Layers.l2 k plan bs (rowLen plan 0 : Nat) C (size c plan : Nat) x ((c ^ rowLen plan 0 : Nat) : Int) (p : Nat) ((p / rowLen plan 0 : Nat) : Int) ((p % rowLen plan 0 : Nat) : Int)
      (capRow (size c plan) (part c l plan bs p i)) ((c ^ (p % rowLen plan 0) : Nat) : Int) (i : Nat) C l) r := by
  induction d with
  | zero =>
    intro i hi
    have b1 : ¬ ((i : Nat) : Int) < (l.length : Int) := by omega
    have b2 : (0 : Int) ≤ (p : Int) := Int.natCast_nonneg p
    have b3 : (p : Int) < (x.length : Int) := by omega
    refine Ev.step (fun k => ?_) hgo
    rw [spec_l03Layers.l2, if_neg b1, if_pos b2, if_pos b3, Int.toNat_natCast]
    have : i = l.length := by omega
    subst this
    rw [layS, capRow_congr fun a _ => part_all c l plan bs p hp a]
  | succ d ih =>
    intro i hi
    have hlt : i < l.length := by omega
    have b1 : ((i : Nat) : Int) < (l.length : Int) := by omega
    have b2 : (0 : Int) ≤ (i : Int) := Int.natCast_nonneg i
    have hf := fits_f C l plan bs hsh hl p i hp hlt
    have hT := rdT_get l i hlt
    cases hq : fitP plan bs l p i
    · have e : capRow (size c plan) (part c l plan bs p i) = capRow (size c plan) (part c l plan bs p (i + 1)) := by
        apply capRow_congr
        intro a _
        rw [part_succ, step_nofit c l plan bs p a i hq]; simp [val]
      rw [e]
      refine Ev.step (fun k => ?_) (ih (i + 1) (by omega))
      rw [spec_l03Layers.l2, if_pos b1, hf, hq, Option.bind_some, if_neg (by decide), succ_wrap i (by omega)]
    · have h3 := layers_l3 C c l plan bs r hC hc c6 hsh hcol hl p i hp hlt hq x hxl hx (ih (i + 1) (by omega)) (size c plan) 0 (by omega)
      have e : capRow (size c plan) (mix (part c l plan bs p (i + 1)) (part c l plan bs p i) 0) = capRow (size c plan) (part c l plan bs p i) := mix_none
      rw [e] at h3
      refine Ev.step (fun k => ?_) h3
      rw [spec_l03Layers.l2, if_pos b1, hf, hq, Option.bind_some, if_pos rfl, if_pos b2, hT]
      rfl
def LayOk (c : Nat) (plan bs : List (List Int)) (l : List STile) (p : Nat) (x : List (List Int)) : Prop := x.length = places plan + 1 ∧ ∀ j, p ≤ j → j ≤ places plan → x.getD j [] = layS c plan bs l j
def layersT (c : Nat) (plan bs : List (List Int)) (l : List STile) : List (List Int) := (List.range (places plan + 1)).map (layS c plan bs l)
theorem layOk_tab {x : List (List Int)} (h : LayOk c plan bs l 0 x) : x = layersT c plan bs l := by
  apply List.ext_getElem
  · rw [h.1]; simp [layersT]
  · intro j h1 h2
    have hj : j ≤ places plan := by have := h.1; omega
    have := h.2 j (by omega) hj
    rw [List.getD_eq_getElem?_getD, List.getElem?_eq_getElem h1] at this
    simp only [Option.getD_some] at this
    rw [this]; simp [layersT]
theorem part_zero (p : Nat) : capRow (size c plan) (part c l plan bs p 0) = List.replicate (size c plan) 0 := by
  rw [← capRow_zero]
  exact capRow_congr fun a _ => by simp [part]
theorem layers_l1 (hC : C = (c : Int)) (hc : 0 < c) (c6 : c ≤ 6) (hsh : Shape plan bs) (hcol : ∀ t ∈ l, Col c t) (hl : l.length ≤ 1000) (p : Nat) : ∀ (x : List (List Int)), p ≤ places plan → LayOk c plan bs l p x →
    Ev (fun k => spec_l03Layers.l1 k plan bs (rowLen plan 0 : Nat) C (size c plan : Nat) x ((c ^ rowLen plan 0 : Nat) : Int) (wrap64 ((p : Int) - 1)) C l) (layersT c plan bs l) := by
  have hw := hsh.w1
  have w5 := hsh.w5
  have hpl : places plan ≤ 25 := by unfold places; exact Nat.mul_le_mul hsh.h5 w5
  induction p with
  | zero =>
    intro x _ hx
    have b1 : ¬ wrap64 (((0 : Nat) : Int) - 1) ≥ 0 := by rw [wrap_id (by omega) (by omega)]; omega
    refine Ev.step (fun k => ?_) (Ev.now _)
    rw [spec_l03Layers.l1, if_neg b1, layOk_tab c l plan bs hx]
  | succ p ih =>
    intro x hp hx
    have e0 : wrap64 (((p + 1 : Nat) : Int) - 1) = (p : Int) := by rw [wrap_id (by omega) (by omega)]; omega
    have b1 : (p : Int) ≥ 0 := Int.natCast_nonneg p
    have b2 : ¬ ((rowLen plan 0 : Nat) : Int) = 0 := by omega
    have b3 : (0 : Int) ≤ ((size c plan : Nat) : Int) := Int.natCast_nonneg _
    have hS : size c plan ≤ 46656 := pow_le c (rowLen plan 0 + 1) c6 (by omega)
    have b4 : ((size c plan : Nat) : Int).toNat ≤ 35184372088832 := by omega
    have hm : p % rowLen plan 0 < rowLen plan 0 := Nat.mod_lt _ hw
    have hpw := power_ev c (p % rowLen plan 0) c6 (by omega)
    have hok : LayOk c plan bs l p (x.set p (layS c plan bs l p)) := by
      have := hx.1
      refine ⟨by rw [List.length_set]; exact hx.1, fun j h1 h2 => ?_⟩
      rw [getD_setL _ _ _ _ (by omega)]
      by_cases hj : j = p
      · subst hj; rw [if_pos rfl]
      · rw [if_neg hj]; exact hx.2 j (by omega) h2
    have h2 := layers_l2 C c l plan bs (layersT c plan bs l) hC hc c6 hsh hcol hl p (by omega) x hx.1 (hx.2 (p + 1) (Nat.le_refl _) hp) (ih _ (by omega) hok) l.length 0 (by omega)
    rw [part_zero] at h2
    rw [e0]
    refine Ev.step (f := fun k => (spec_l03Power.f k (c : Int) ((p % rowLen plan 0 : Nat) : Int)).bind fun t152 => spec_l03Layers.l2 k plan bs (rowLen plan 0 : Nat) C (size c plan : Nat) x ((c ^ rowLen plan 0 : Nat) : Int) (p : Nat) ((p / rowLen plan 0 : Nat) : Int) ((p % rowLen plan 0 : Nat) : Int) (List.replicate (size c plan) 0) t152 0 C l) (fun k => ?_) (Ev.bind hpw h2)
    rw [spec_l03Layers.l1, if_pos b1, if_neg b2, if_pos b3, if_pos b4, tmod_nat, tdiv_nat _ _ (by omega), Int.toNat_natCast, hC]
theorem layers_l0 (hC : C = (c : Int)) (hc : 0 < c) (c6 : c ≤ 6) (hsh : Shape plan bs) (hcol : ∀ t ∈ l, Col c t) (hl : l.length ≤ 1000) (d : Nat) : ∀ i, i + d = size c plan →
    Ev (fun k => spec_l03Layers.l0 k plan bs (plan.length : Int) (rowLen plan 0 : Nat) C (size c plan : Nat) (List.replicate i 1 ++ List.replicate d 0) (size c plan : Nat) (i : Nat) C l) (layersT c plan bs l) := by
  have hw := hsh.w1
  have w5 := hsh.w5
  have hS : size c plan ≤ 46656 := pow_le c (rowLen plan 0 + 1) c6 (by omega)
  have hpl : places plan ≤ 25 := by unfold places; exact Nat.mul_le_mul hsh.h5 w5
  induction d with
  | zero =>
    intro i hi
    have b1 : ¬ ((i : Nat) : Int) < ((size c plan : Nat) : Int) := by omega
    have e0 : wrap64 ((plan.length : Int) * ((rowLen plan 0 : Nat) : Int)) = ((places plan : Nat) : Int) := by
      have : (plan.length : Int) * ((rowLen plan 0 : Nat) : Int) = ((places plan : Nat) : Int) := by unfold places; push_cast; rfl
      rw [this]; exact wrap_id (by omega) (by omega)
    have e1 : wrap64 (((places plan : Nat) : Int) + 1) = ((places plan + 1 : Nat) : Int) := succ_wrap _ (by omega)
    have b2 : (0 : Int) ≤ ((places plan + 1 : Nat) : Int) := Int.natCast_nonneg _
    have b3 : ((places plan + 1 : Nat) : Int).toNat ≤ 11728124029610 := by omega
    have b4 : (0 : Int) ≤ ((places plan : Nat) : Int) := Int.natCast_nonneg _
    have b5 : ((places plan : Nat) : Int) < ((List.replicate (places plan + 1) ([] : List Int)).length : Int) := by rw [List.length_replicate]; omega
    have hpw := power_ev c (rowLen plan 0) c6 (by omega)
    have hi2 : i = size c plan := by omega
    have hok : LayOk c plan bs l (places plan) ((List.replicate (places plan + 1) ([] : List Int)).set (places plan) (List.replicate (size c plan) 1)) := by
      refine ⟨by simp, fun j h1 h2 => ?_⟩
      have : j = places plan := by omega
      subst this
      rw [getD_setL _ _ _ _ (by simp), if_pos rfl, ← capRow_one]
      apply capRow_congr
      intro a _
      simp [onS, onw]
    have h1 := layers_l1 C c l plan bs hC hc c6 hsh hcol hl (places plan) _ (Nat.le_refl _) hok
    refine Ev.step (f := fun k => (spec_l03Power.f k (c : Int) ((rowLen plan 0 : Nat) : Int)).bind fun t148 => spec_l03Layers.l1 k plan bs (rowLen plan 0 : Nat) C (size c plan : Nat) ((List.replicate (places plan + 1) ([] : List Int)).set (places plan) (List.replicate (size c plan) 1)) t148 (wrap64 (((places plan : Nat) : Int) - 1)) C l) (fun k => ?_) (Ev.bind hpw h1)
    rw [spec_l03Layers.l0, if_neg b1, e0, e1, if_pos b2, if_pos b3, Int.toNat_natCast, Option.bind_some, if_pos b4, if_pos b5, Int.toNat_natCast, hi2, hC]
    simp
  | succ d ih =>
    intro i hi
    have b1 : ((i : Nat) : Int) < ((size c plan : Nat) : Int) := by omega
    have b2 : (0 : Int) ≤ (i : Int) := Int.natCast_nonneg i
    have b3 : (i : Int) < ((List.replicate i (1 : Int) ++ List.replicate (d + 1) 0).length : Int) := by simp; omega
    have e : (List.replicate i (1 : Int) ++ List.replicate (d + 1) 0).set i 1 = List.replicate (i + 1) 1 ++ List.replicate d 0 := by
      rw [List.set_append_right _ _ (by simp), List.length_replicate, Nat.sub_self, List.replicate_succ (n := d), List.set_cons_zero, List.replicate_succ' (n := i), List.append_assoc]
      rfl
    refine Ev.step (fun k => ?_) (ih (i + 1) (by omega))
    rw [spec_l03Layers.l0, if_pos b1, if_pos b2, if_pos b3, Int.toNat_natCast, e, succ_wrap i (by omega)]
theorem specLayers_ev (hC : C = (c : Int)) (hc : 0 < c) (c6 : c ≤ 6) (hsh : Shape plan bs) (hcol : ∀ t ∈ l, Col c t) (hl : l.length ≤ 1000) : Ev (fun k => spec_l03Layers.f k C l plan bs) (layersT c plan bs l) := by
  have hw := hsh.w1
  have w5 := hsh.w5
  have hS : size c plan ≤ 46656 := pow_le c (rowLen plan 0 + 1) c6 (by omega)
  have hpw := power_ev c (rowLen plan 0 + 1) c6 (by omega)
  have b1 : (0 : Int) < (plan.length : Int) := by have := hsh.h1; omega
  have e0 : (rd_L1 plan 0).length = rowLen plan 0 := by
    have := rdL_nat plan 0
    rw [show (((0 : Nat)) : Int) = 0 from rfl] at this
    rw [this]; rfl
  have e1 : wrap64 (((rowLen plan 0 : Nat) : Int) + 1) = ((rowLen plan 0 + 1 : Nat) : Int) := succ_wrap _ (by omega)
  have b2 : (0 : Int) ≤ ((size c plan : Nat) : Int) := Int.natCast_nonneg _
  have b3 : ((size c plan : Nat) : Int).toNat ≤ 35184372088832 := by omega
  have h0 := layers_l0 C c l plan bs hC hc c6 hsh hcol hl (size c plan) 0 (by omega)
  refine Ev.congr (fun k => by rw [spec_l03Layers.f, if_pos b1, e0, e1, hC]) (Ev.bind hpw ?_)
  refine Ev.congr (fun k => ?_) h0
  rw [show c ^ (rowLen plan 0 + 1) = size c plan from rfl, if_pos b2, if_pos b3, Int.toNat_natCast, Option.bind_some, List.length_replicate, List.replicate_zero, List.nil_append, hC]
  rfl
end
end Go.Proofs.Ytcaikaflpmaocaa
namespace Go.Proofs.Ytcaikaflpmaocaa
open Go Go.RowKit Go.Proofs Go.Proofs.YtcaikaflpmaocaaW.PrintWords Go.Proofs.YtcaikaflpmaocaaW.PrintLast Go.Proofs.YtcaikaflpmaocaaW.PrintMore Go.Proofs.Ytcaikaflpmaocaa.Q
set_option linter.unusedVariables false
set_option linter.unusedSimpArgs false
def ifits_T3 : Bool × List (List Nat × List Nat) := (true, [([], []), ([0], [0]), ([1], [1]), ([2], [2]), ([3], [3]), ([], []), ([4, 5], [4, 5]), ([6], [6]), ([], []), ([8], [8]), ([9], [9]), ([10], [10]), ([11], [11]), ([], []), ([], []), ([13, 7, 0, 1, 2, 3, 4, 5, 6, 7, 13, 14], [7, 13]), ([14, 12, 15, 0, 1, 2, 3, 4, 5, 6, 7, 8, 9, 10, 11, 12, 13, 14, 15], [12, 14])])
def ifits_B3 : List Nat := [0, 1, 3, 7, 15, 0, 63, 127, 0, 256, 768, 1792, 3840, 0, 0, 24831, 65535]
theorem ifits_tab3 : rtab .any (opsOf Try.f81 3) = ifits_T3 := by kernel_rfl
theorem ifits_bits3 : waitsOk ifits_T3.2 ifits_B3 = true := by kernel_rfl
structure TwoB (wd W : World) (a b : Nat) : Prop where
  t : BK W a #[.int .i64 0, .int .i64 0, .int .i64 0, .int .i64 0] 85
  c : BK W b #[.int .i64 0] 2
  ne : b ≠ a
  be : Below wd.heap.size wd W
  gt : wd.heap.size ≤ a
  gc : wd.heap.size ≤ b
theorem two_boxes0 (wd : World) : TwoB wd ((wd.alloc (.cells #[.int .i64 0, .int .i64 0, .int .i64 0, .int .i64 0] 85)).alloc (.cells #[.int .i64 0] 2)) (wd.heap.size + 0) (wd.heap.size + 1) :=
  ⟨(BK.new wd _ _).alloc _, by have := BK.new (wd.alloc (.cells #[.int .i64 0, .int .i64 0, .int .i64 0, .int .i64 0] 85)) #[.int .i64 0] 2; simpa using this, by omega, below_alloc (below_alloc (Below.refl _ _) _) _, by omega, by omega⟩
theorem two_boxes1 (wd : World) : TwoB wd ((wd.alloc (.cells #[.int .i64 0] 2)).alloc (.cells #[.int .i64 0, .int .i64 0, .int .i64 0, .int .i64 0] 85)) (wd.heap.size + 1) (wd.heap.size + 0) :=
  ⟨by have := BK.new (wd.alloc (.cells #[.int .i64 0] 2)) #[.int .i64 0, .int .i64 0, .int .i64 0, .int .i64 0] 85; simpa using this, (BK.new wd _ _).alloc _, by omega, below_alloc (below_alloc (Below.refl _ _) _) _, by omega, by omega⟩
structure FB (w W : World) (fb sb tb cb F : Nat) (s C : Int) (t : T4) : Prop where
  be : Below w.heap.size w W
  f : W.cell? ⟨fb, 0, none⟩ = some (.pointer (some ⟨F, 0, none⟩))
  s : W.cell? ⟨sb, 0, none⟩ = some (.int .i64 s)
  t0 : W.cell? ⟨tb, 0, none⟩ = some (.int .i64 (t.get 0))
  t1 : W.cell? ⟨tb, 1, none⟩ = some (.int .i64 (t.get 1))
  t2 : W.cell? ⟨tb, 2, none⟩ = some (.int .i64 (t.get 2))
  t3 : W.cell? ⟨tb, 3, none⟩ = some (.int .i64 (t.get 3))
  c : W.cell? ⟨cb, 0, none⟩ = some (.int .i64 C)
theorem FB.to {w W W1 : World} {fb sb tb cb F : Nat} {s C : Int} {t : T4} (h : FB w W fb sb tb cb F s C t) (hb : Below W.heap.size W W1) : FB w W1 fb sb tb cb F s C t :=
  ⟨below_to h.be hb, cell_to hb h.f, cell_to hb h.s, cell_to hb h.t0, cell_to hb h.t1, cell_to hb h.t2, cell_to hb h.t3, cell_to hb h.c⟩
def test2 (bs : List (List Int)) (cn s : Nat) (t : T4) (y x : Nat) : Bool := if decide (y = 0) then !bordB bs 1 x (t.get 1) else !decide (((dig cn s x : Nat) : Int) = t.get 1)
def test3 (bs : List (List Int)) (cn s W : Nat) (t : T4) (y x : Nat) : Bool := if decide (x = 0) then !bordB bs 0 y (t.get 0) else !decide (((dig cn s W : Nat) : Int) = t.get 0)
def test4 (plan bs : List (List Int)) (t : T4) (y x : Nat) : Bool := (decide (y + 1 = plan.length) && !bordB bs 3 x (t.get 3)) || (decide (x + 1 = rowLen plan 0) && !bordB bs 2 y (t.get 2))
theorem dig_top {c w s : Nat} (hs : s < c ^ (w + 1)) (hc : 0 < c) : dig c s w = s / c ^ w := by
  unfold dig
  apply Nat.mod_eq_of_lt
  rw [Nat.div_lt_iff_lt_mul (Nat.pow_pos hc)]; rw [Nat.pow_succ, Nat.mul_comm] at hs; exact hs
theorem next_bounds (c w : Nat) (t : STile) (p s x : Nat) (hpx : p % w = x) (hc : 0 < c) (c6 : c ≤ 6) (hw : 0 < w) (w5 : w ≤ 5) (ht : Col c t) (hs : s < c ^ (w + 1)) :
    ∃ X E G : Int, (t.f3 - ((dig c s x : Nat) : Int)) * ((c ^ x : Nat) : Int) = X ∧ ((dig c s w : Nat) : Int) * ((c ^ w : Nat) : Int) = E ∧ t.f2 * ((c ^ w : Nat) : Int) = G ∧
      (-1000000 ≤ X ∧ X ≤ 1000000) ∧ (0 ≤ E ∧ E ≤ 1000000) ∧ (0 ≤ G ∧ G ≤ 1000000) ∧
      (x + 1 < w → ((nextZ false c w t p s).toNat : Int) = (s : Int) + X - E + G) ∧ (¬ x + 1 < w → ((nextZ false c w t p s).toNat : Int) = (s : Int) + X - E) := by
  subst hpx
  obtain ⟨lo, h1, e1, -, h3⟩ := next_parts false c w t p s hc hw ht
  obtain ⟨-, -, g2, g3⟩ := ht
  have hT : c ^ w ≤ 46656 := pow_le c w c6 (by omega)
  have hhi : s / c ^ w < c := by
    rw [Nat.div_lt_iff_lt_mul (Nat.pow_pos hc)]; rw [Nat.pow_succ, Nat.mul_comm] at hs; exact hs
  have hm : s % c ^ w < c ^ w := Nat.mod_lt _ (Nat.pow_pos hc)
  have hsm : s % c ^ w + s / c ^ w * c ^ w = s := by rw [Nat.mul_comm]; exact Nat.mod_add_div s (c ^ w)
  have m2 : t.f2 * ((c ^ w : Nat) : Int) = ((t.f2.toNat * c ^ w : Nat) : Int) := by rw [Int.natCast_mul, Int.toNat_of_nonneg g2.1]
  have m3 : ((s / c ^ w : Nat) : Int) * ((c ^ w : Nat) : Int) = ((s / c ^ w * c ^ w : Nat) : Int) := by rw [Int.natCast_mul]
  have n2 : t.f2.toNat * c ^ w ≤ 279936 := mul6 (by omega) hT
  have n3 : s / c ^ w * c ^ w ≤ 279936 := mul6 (by omega) hT
  have hsm' : (s : Int) = ((s % c ^ w : Nat) : Int) + ((s / c ^ w * c ^ w : Nat) : Int) := by rw [← Int.natCast_add, hsm]
  have hz : nextZ false c w t p s = (s : Int) + (t.f3 - (dig c s (p % w) : Int)) * ((c ^ (p % w) : Nat) : Int) - ((s / c ^ w * c ^ w : Nat) : Int) + (if decide (p % w + 1 < w) then ((t.f2.toNat * c ^ w : Nat) : Int) else 0) := by
    unfold nextZ; rw [m3, m2]; rfl
  refine ⟨_, _, _, rfl, rfl, rfl, ?_⟩
  rw [dig_top hs hc, m2, m3, Int.toNat_of_nonneg h3, hz]
  generalize (t.f3 - (dig c s (p % w) : Int)) * ((c ^ (p % w) : Nat) : Int) = X at e1 hz
  have k0 : ((s % c ^ w : Nat) : Int) < ((c ^ w : Nat) : Int) := Int.ofNat_lt.2 hm
  have k1 : ((lo : Nat) : Int) < ((c ^ w : Nat) : Int) := Int.ofNat_lt.2 h1
  have k2 : ((c ^ w : Nat) : Int) ≤ 46656 := Int.ofNat_le.2 hT
  have k3 : (0 : Int) ≤ ((s % c ^ w : Nat) : Int) := Int.natCast_nonneg _
  have k4 : ((s / c ^ w * c ^ w : Nat) : Int) ≤ 279936 := Int.ofNat_le.2 n3
  have k5 : ((t.f2.toNat * c ^ w : Nat) : Int) ≤ 279936 := Int.ofNat_le.2 n2
  have k6 : (0 : Int) ≤ ((s / c ^ w * c ^ w : Nat) : Int) := Int.natCast_nonneg _
  have k7 : (0 : Int) ≤ ((t.f2.toNat * c ^ w : Nat) : Int) := Int.natCast_nonneg _
  have k8 : (0 : Int) ≤ (lo : Int) := Int.natCast_nonneg _
  generalize ((s % c ^ w : Nat) : Int) = a1 at *
  generalize ((s / c ^ w * c ^ w : Nat) : Int) = a2 at *
  generalize ((t.f2.toNat * c ^ w : Nat) : Int) = a3 at *
  generalize ((c ^ w : Nat) : Int) = a4 at *
  clear m2 m3 n2 n3 hsm hm hhi hT h1 h3 hs hz hsm'
  refine ⟨⟨by omega, by omega⟩, ⟨k6, by omega⟩, ⟨k7, by omega⟩, fun h => ?_, fun h => ?_⟩
  · rw [decide_eq_true h]; rfl
  · rw [decide_eq_false h]; simp
def stepI (c : Nat) (plan bs : List (List Int)) (l : List STile) : Nx := nx false c (rowLen plan 0) l (fitP plan bs l)
def outI : Option Nat → Int
  | none => 0
  | some b => (b : Int)
def someB : Option Nat → Bool
  | none => false
  | some _ => true
theorem out_none {o : Option Nat} (h : o = none) : Value.tuple #[.int .i64 0, .bool false] = .tuple #[.int .i64 (outI o), .bool (someB o)] := by subst h; rfl
theorem out_some {o : Option Nat} {b : Nat} {z : Int} (h : o = some b) (hz : z = (b : Int)) : Value.tuple #[.int .i64 z, .bool true] = .tuple #[.int .i64 (outI o), .bool (someB o)] := by subst h hz; rfl
theorem tlAt_map (ts : List T4) (i : Nat) (h : i < ts.length) : tlAt (ts.map toS) i = toS (tk ts i) := by
  simp [tlAt, tk, List.getD_eq_getElem?_getD, List.getElem?_map, List.getElem?_eq_getElem h]
theorem map_tT (ts : List T4) : (ts.map toS).map toT = ts := map_toTS ts
theorem step_bad {c : Nat} {plan bs : List (List Int)} {ts : List T4} {p s i : Nat} (hc0 : 0 < c) (hi : i < ts.length) (hp : p < places plan) (hsh : Shape plan bs) (hs : s < size c plan)
    (h : BadP plan (p / rowLen plan 0) (p % rowLen plan 0) i = true ∨ test2 bs c s (tk ts i) (p / rowLen plan 0) (p % rowLen plan 0) = true ∨ test3 bs c s (rowLen plan 0) (tk ts i) (p / rowLen plan 0) (p % rowLen plan 0) = true ∨ test4 plan bs (tk ts i) (p / rowLen plan 0) (p % rowLen plan 0) = true) :
    stepI c plan bs (ts.map toS) p s i = none := by
  unfold stepI nx
  rw [if_neg]
  intro hc
  rw [tlAt_map ts i hi] at hc
  simp only [Bool.and_eq_true, Bool.or_eq_true, decide_eq_true_eq] at hc
  obtain ⟨⟨hf, hd⟩, hw⟩ := hc
  unfold fitP fitB at hf
  rw [map_tT] at hf
  simp only [Bool.and_eq_true, Bool.not_eq_true', Bool.or_eq_false_iff] at hf
  obtain ⟨f1, ⟨fA, fB⟩, fC, fD⟩ := hf
  have hy : p / rowLen plan 0 = 0 ↔ p < rowLen plan 0 := by rw [Nat.div_eq_zero_iff]; have := hsh.w1; omega
  rcases h with h | h | h | h
  · rw [f1] at h; cases h
  · unfold test2 bordB at h
    by_cases h0 : p / rowLen plan 0 = 0
    · rw [decide_eq_true h0] at h
      simp only [BadB, h0, decide_true, Bool.true_and, if_true] at fB h
      by_cases h1 : rowLen bs 1 = 0
      · simp [h1] at h
      · have : 0 < rowLen bs 1 := by omega
        simp [this] at fB
        simp [fB] at h
    · rw [decide_eq_false h0] at h
      simp only [Bool.false_eq_true, if_false, Bool.not_eq_true', decide_eq_false_iff_not] at h
      rcases hd with hd | hd
      · exact h0 (hy.2 hd)
      · exact h hd
  · unfold test3 bordB at h
    by_cases h0 : p % rowLen plan 0 = 0
    · rw [decide_eq_true h0] at h
      simp only [BadA, h0, decide_true, Bool.true_and, if_true] at fA h
      by_cases h1 : rowLen bs 0 = 0
      · simp [h1] at h
      · have : 0 < rowLen bs 0 := by omega
        simp [this] at fA
        simp [fA] at h
    · rw [decide_eq_false h0] at h
      simp only [Bool.false_eq_true, if_false, Bool.not_eq_true', decide_eq_false_iff_not] at h
      rcases hw with hw | hw
      · exact h0 hw
      · exact h (by rw [dig_top hs hc0]; exact hw)
  · unfold test4 bordB at h
    rw [Bool.or_eq_true] at h
    rcases h with h | h
    · rw [Bool.and_eq_true, decide_eq_true_eq] at h
      obtain ⟨h0, h⟩ := h
      simp only [BadD, h0, decide_true, Bool.true_and] at fD
      by_cases h1 : rowLen bs 3 = 0
      · simp [h1] at h
      · have : 0 < rowLen bs 3 := by omega
        simp [this] at fD
        simp [fD] at h
    · rw [Bool.and_eq_true, decide_eq_true_eq] at h
      obtain ⟨h0, h⟩ := h
      simp only [BadC, h0, decide_true, Bool.true_and] at fC
      by_cases h1 : rowLen bs 2 = 0
      · simp [h1] at h
      · have : 0 < rowLen bs 2 := by omega
        simp [this] at fC
        simp [fC] at h
theorem bad_of_bord {bs : List (List Int)} {k j : Nat} {v : Int} (h : bordB bs k j v = true) : (decide (0 < rowLen bs k) && !decide (ik (rowAt bs k) j = v)) = false := by
  unfold bordB at h
  rw [Bool.or_eq_true, decide_eq_true_eq, decide_eq_true_eq] at h
  rcases h with h | h
  · simp [h]
  · simp [h]
theorem step_good {c : Nat} {plan bs : List (List Int)} {ts : List T4} {p s i : Nat} (hc0 : 0 < c) (hi : i < ts.length) (hp : p < places plan) (hsh : Shape plan bs) (hs : s < size c plan)
    (h1 : BadP plan (p / rowLen plan 0) (p % rowLen plan 0) i = false) (h2 : test2 bs c s (tk ts i) (p / rowLen plan 0) (p % rowLen plan 0) = false) (h3 : test3 bs c s (rowLen plan 0) (tk ts i) (p / rowLen plan 0) (p % rowLen plan 0) = false) (h4 : test4 plan bs (tk ts i) (p / rowLen plan 0) (p % rowLen plan 0) = false) :
    stepI c plan bs (ts.map toS) p s i = some (nextZ false c (rowLen plan 0) (toS (tk ts i)) p s).toNat := by
  unfold stepI nx
  rw [tlAt_map ts i hi, if_pos]
  have hy : p / rowLen plan 0 = 0 ↔ p < rowLen plan 0 := by rw [Nat.div_eq_zero_iff]; have := hsh.w1; omega
  have pos : ∀ k, rowLen bs k = 0 ∨ 0 < rowLen bs k := fun k => by omega
  simp only [Bool.and_eq_true, Bool.or_eq_true, decide_eq_true_eq]
  refine ⟨⟨?_, ?_⟩, ?_⟩
  · unfold fitP fitB
    rw [map_tT, h1]
    simp only [Bool.not_false, Bool.true_and, Bool.and_eq_true, Bool.not_eq_true', Bool.or_eq_false_iff]
    refine ⟨⟨?_, ?_⟩, ?_, ?_⟩
    · unfold BadA
      by_cases h0 : p % rowLen plan 0 = 0
      · rw [test3, decide_eq_true h0, if_pos rfl] at h3
        rw [decide_eq_true h0]
        rw [Bool.true_and]; exact bad_of_bord (by simpa using h3)
      · rw [decide_eq_false h0]; rfl
    · unfold BadB
      by_cases h0 : p / rowLen plan 0 = 0
      · rw [test2, decide_eq_true h0, if_pos rfl] at h2
        rw [decide_eq_true h0]
        rw [Bool.true_and]; exact bad_of_bord (by simpa using h2)
      · rw [decide_eq_false h0]; rfl
    · unfold BadC
      unfold test4 at h4
      rw [Bool.or_eq_false_iff] at h4
      by_cases h0 : p % rowLen plan 0 + 1 = rowLen plan 0
      · have h5 := h4.2
        rw [decide_eq_true h0] at h5 ⊢
        rw [Bool.true_and] at h5 ⊢; exact bad_of_bord (by simpa using h5)
      · rw [decide_eq_false h0]; rfl
    · unfold BadD
      unfold test4 at h4
      rw [Bool.or_eq_false_iff] at h4
      by_cases h0 : p / rowLen plan 0 + 1 = plan.length
      · have h5 := h4.1
        rw [decide_eq_true h0] at h5 ⊢
        rw [Bool.true_and] at h5 ⊢; exact bad_of_bord (by simpa using h5)
      · rw [decide_eq_false h0]; rfl
  · by_cases h0 : p / rowLen plan 0 = 0
    · exact .inl (hy.1 h0)
    · rw [test2, decide_eq_false h0] at h2
      simp only [Bool.false_eq_true, if_false, Bool.not_eq_false', decide_eq_true_eq] at h2
      exact .inr h2
  · by_cases h0 : p % rowLen plan 0 = 0
    · exact .inl h0
    · rw [test3, decide_eq_false h0] at h3
      simp only [Bool.false_eq_true, if_false, Bool.not_eq_false', decide_eq_true_eq] at h3
      rw [dig_top hs hc0] at h3
      exact .inr h3
set_option maxHeartbeats 16000000 in
set_option maxRecDepth 100000 in
theorem ifits_any (C : Int) (cn : Nat) (A : Option Addr) (ts : List T4) (n c : Nat) (A1 : Option Addr) (plan : List (List Int)) (m1 c1 : Nat) (A2 : Option Addr) (bs : List (List Int)) (m2 c2 : Nat) (A3 : Option Addr) (pw : List Int) (m3 c3 : Nat) (F p s i : Nat) (w : World)
    (hC : C = (cn : Int)) (hcn : 0 < cn) (c6 : cn ≤ 6) (hn : n = ts.length) (hA : RT w A ts) (hl : n ≤ 1000000) (hm1 : m1 = plan.length) (hA1 : RR w A1 plan) (hm2 : m2 = bs.length) (hA2 : RR w A2 bs) (hm3 : m3 = pw.length) (hA3 : RI w A3 pw) (hsh : Shape plan bs)
    (hpw : pw.length = rowLen plan 0 + 1) (hpk : ∀ k, k ≤ rowLen plan 0 → ik pw k = ((cn ^ k : Nat) : Int))
    (hcol : ∀ t ∈ ts.map toS, Col cn t) (hF0 : w.cell? ⟨F, 0, none⟩ = some (.int .i64 C)) (hF1 : w.cell? ⟨F, 1, none⟩ = some (.slice A n c)) (hF2 : w.cell? ⟨F, 2, none⟩ = some (.slice A1 m1 c1)) (hF3 : w.cell? ⟨F, 3, none⟩ = some (.slice A2 m2 c2)) (hF4 : w.cell? ⟨F, 4, none⟩ = some (.slice A3 m3 c3))
    (hp : p < places plan) (hs : s < size cn plan) (hi : i < ts.length) :
    Calls Try.prog 81 #[.pointer (some ⟨F, 0, none⟩), .int .i64 p, .int .i64 s, .int .i64 i] w fun e w' =>
      e = .returned (.tuple #[.int .i64 (outI (stepI cn plan bs (ts.map toS) p s i)), (.bool (someB (stepI cn plan bs (ts.map toS) p s i)))]) ∧ Below w.heap.size w w' := by
  have HN := Lib.hid hn; have HM1 := Lib.hid hm1; have HM3 := Lib.hid hm3
  have HBAD := Lib.hid (fun h => step_bad (c := cn) (s := s) hcn hi hp hsh hs h)
  have HGOOD := Lib.hid (fun h1 h2 h3 h4 => step_good (c := cn) (s := s) hcn hi hp hsh hs h1 h2 h3 h4)
  have hcolI : Col cn (toS (tk ts i)) := hcol _ (List.mem_map.2 ⟨tk ts i, by simp [tk, List.getD_eq_getElem?_getD, List.getElem?_eq_getElem hi], rfl⟩)
  have HNB := Lib.hid (next_bounds cn (rowLen plan 0) (toS (tk ts i)) p s _ rfl hcn c6 hsh.w1 hsh.w5 hcolI hs)
  obtain ⟨h1, h5, w1, w5, hlen, h4, hbl⟩ := hsh
  have HBL := Lib.hid hbl; have HPK := Lib.hid hpk; have HCN := Lib.hid hcn; have HC0 := Lib.hid (show C ≠ 0 by omega)
  have HA2 := Lib.hid hA2; have HA3 := Lib.hid hA3
  have hy : p / rowLen plan 0 < plan.length := (Nat.div_lt_iff_lt_mul w1).2 hp
  have hx : p % rowLen plan 0 < rowLen plan 0 := Nat.mod_lt _ w1
  have s9 : s < 1000000000 := by have : size cn plan ≤ 46656 := pow_le cn (rowLen plan 0 + 1) c6 (by omega); omega
  have p9 : p < 1000000000 := by have : places plan ≤ 25 := by (unfold places; exact Nat.mul_le_mul h5 w5)
                                 omega
  have hdig : ∀ k, Int.tmod (wrap64 (Int.tdiv (s : Int) ((cn ^ k : Nat) : Int))) C = ((dig cn s k : Nat) : Int) := fun k => by rw [hC]; exact dig_int cn s k s9
  have HD := Lib.hid hdig
  have ey : IntKind.i64.wrap (Int.tdiv (p : Int) ((rowLen plan 0 : Nat) : Int)) = ((p / rowLen plan 0 : Nat) : Int) := by rw [i64_w]; exact tdiv_nat _ _ p9
  have ex : Int.tmod (p : Int) ((rowLen plan 0 : Nat) : Int) = ((p % rowLen plan 0 : Nat) : Int) := tmod_nat _ _
  have HEY := Lib.hid ey; have HEX := Lib.hid ex
  have HEY3 := Lib.hid (show wrap64 ((p : Int) / ((rowLen plan 0 : Nat) : Int)) = ((p / rowLen plan 0 : Nat) : Int) by have h := tdiv_nat p (rowLen plan 0) p9; rwa [Int.tdiv_eq_ediv_of_nonneg (Int.natCast_nonneg p)] at h)
  have HEX3 := Lib.hid (show (p : Int) % ((rowLen plan 0 : Nat) : Int) = ((p % rowLen plan 0 : Nat) : Int) from (Int.natCast_emod p _).symm)
  generalize hgy : p / rowLen plan 0 = y at *
  generalize hgx : p % rowLen plan 0 = x at *
  have hr := hlen y hy
  obtain ⟨pb, po, PA, pc, hPA, hpb, hp_, hpr, hpc, -⟩ := hA1 y hy
  obtain ⟨pb0, po0, PA0, pc0, hPA0, -, p0, -, -, -⟩ := hA1 0 (by omega)
  obtain ⟨rfl, rfl⟩ : pb = pb0 ∧ po = po0 := by rw [hPA] at hPA0; injection hPA0 with e; injection e with e1 e2; exact ⟨e1, e2⟩
  subst hPA
  obtain ⟨rb, ro, hRA, hrb, hrx⟩ := hpr x (by show x < rowLen plan y; omega)
  subst hRA
  obtain ⟨bb, bo, BA0, bc0, hBA, hbb, -, -, -, -⟩ := hA2 0 (by omega)
  subst hBA
  obtain ⟨wb, wo, hWA, hwb, -⟩ := hA3 0 (by omega)
  subst hWA
  obtain ⟨tb, tq, hTA, htb, c0, c1_, c2_, c3_⟩ := hA i hi
  subst hTA
  rw [hr] at hp_
  rw [Nat.add_zero] at p0
  have j1 : (y : Int) < m1 := by omega
  have j2 : (x : Int) < rowLen plan 0 := by omega
  have j3 : (0 : Int) < m1 := by omega
  have j4 : (i : Int) < n := by omega
  have j5 : 0 < m1 := by omega
  have h24 : m2 = 4 := by omega
  subst h24
  have HM2 := Lib.hid hm2
  have HQ1 := Lib.hid hF0; have HQ2 := Lib.hid hF1; have HQ3 := Lib.hid hF3; have HQ4 := Lib.hid hF4; have HQ5 := Lib.hid hF2
  have HEY2 := Lib.hid (show wrap64 (Int.tdiv (p : Int) ((rowLen plan 0 : Nat) : Int)) = (y : Int) by rw [← i64_w]; exact HEY.out)
  have vr : (((rowLen plan 0 : Nat) : Int) == 0) = false := by simp; omega
  have vr2 : (rowLen plan 0 == 0) = false := by simp; omega
  clear hA hn hA1 hm1 hA2 hm2 hA3 hm3 hPA0 hlen hbl hpk hdig ey ex hF0 hF1 hF3 hF4 hcn hC hgy hgx
  have HX := Lib.hid hx; have HY := Lib.hid hy
  go_enter Try.func81, Try.ntmps81
  go_upto_region 1 with fail
  refine name2 ?_
  intro W1 b1 b2 hz hb0
  have a1 : W1.cell? ⟨w.heap.size, 0, none⟩ = some (.pointer (some ⟨F, 0, none⟩)) := b1.cell rfl
  have a2 : W1.cell? ⟨w.heap.size + 1, 0, none⟩ = some (.int .i64 s) := b2.cell rfl
  have HB0 := Lib.hid hb0
  replace p0 := cell_to hb0 p0; replace hF2 := cell_to hb0 hF2
  have l1 := b1.lt; have l2 := World.block_lt_of_cell? W1 _ p0; have l3 := World.block_lt_of_cell? W1 _ hF2
  simp only at l2 l3
  clear hb0 hz b1 b2
  refine wp_region_gro (by kernel_rfl) (by kernel_rfl) ?_
  repeat (first | go_big_quiet_step (fail) | quiet_step (fail))
  refine wpQuiet_nil ?_
  intro w2 hB2
  have HB2 := Lib.hid (below_to HB0.out hB2); have HW2 := Lib.hid hB2
  clear hB2 p0 hF2 l1 l2 l3
  go_upto_region 2 with fail
  refine wp_region_gro (by kernel_rfl) (by kernel_rfl) ?_
  repeat (first | go_big_quiet_step (fail) | quiet_step (fail))
  refine wpQuiet_nil ?_
  intro wB hB3
  have HB := below_to HB2.out hB3
  have q0 := cell_to hB3 (cell_to HW2.out a1); have a2 := cell_to hB3 (cell_to HW2.out a2)
  clear a1 hB3 HW2 HB2 HB0
  simp only [HEY3.out, HEX3.out]
  go_upto_region 3 with fail
  have q1 := cell_to HB HQ1.out; have q2 := cell_to HB HQ2.out
  replace c0 := cell_to HB c0; have c1 := cell_to HB c1_; have c2 := cell_to HB c2_; have c3 := cell_to HB c3_
  clear c1_ c2_ c3_
  have hD := (Below.refl wB.heap.size wB).drew
  refine start_ (n := 17) (S := fun w' => w'.cell? ⟨w.heap.size, 0, none⟩ = some (.pointer (some ⟨F, 0, none⟩)) ∧ w'.cell? ⟨F, 0, none⟩ = some (.int .i64 C) ∧ w'.cell? ⟨F, 1, none⟩ = some (.slice (some ⟨tb, tq, none⟩) n c) ∧ w'.cell? ⟨tb, tq + i * 4, none⟩ = some (.int .i64 ((tk ts i).get 0)) ∧ w'.cell? ⟨tb, tq + i * 4 + 1, none⟩ = some (.int .i64 ((tk ts i).get 1)) ∧ w'.cell? ⟨tb, tq + i * 4 + 2, none⟩ = some (.int .i64 ((tk ts i).get 2)) ∧ w'.cell? ⟨tb, tq + i * 4 + 3, none⟩ = some (.int .i64 ((tk ts i).get 3))) (ds := []) #[false, false, false, false, false, false, false, false, false, false, false, false, false, false, false, false, false] (by kernel_rfl) rfl rfl ⟨cell_to hD q0, cell_to hD q1, cell_to hD q2, cell_to hD c0, cell_to hD c1, cell_to hD c2, cell_to hD c3⟩ (fun hHeld => ?_)
  refine with_tabW ifits_tab3 ifits_bits3 (fun HT_ HW_ => ?_)
  generalize wB.drew = wd at hD hHeld ⊢
  refine pure_ (i := 5) (N := some 42) (v := ?_) (a' := ?_) #[false, false, false, false, false, true, false, false, false, false, false, false, false, false, false, false, false] rfl rfl (any_of HT_.out (by kernel_rfl)) (fun _ _ _ h => h) (Or.inl ⟨by rfl, ?_⟩) ?_ ?_
  rotate_left
  · intro w'
    go_simp
    with_reducible rfl
  rotate_left
  · simp only [Act.put, List.setIfInBounds_toArray, List.set_cons_zero, List.set_cons_succ, i64_w, i32_w]
    rfl
  refine take_ (i := 0) (N := some 37) (v := ?_) (a' := ?_) #[true, false, false, false, false, true, false, false, false, false, false, false, false, false, false, false, false] rfl rfl (take_ofW HT_.out HW_.out (by kernel_rfl)) (fun _ _ _ h => h) (Or.inl ⟨by rfl, ?_⟩) hHeld ?_ ?_
  rotate_left
  · rintro w' ⟨s0, s1, s2, s3, s4, s5, s6⟩
    go_simp
    with_reducible rfl
  rotate_left
  · simp only [Act.put, List.setIfInBounds_toArray, List.set_cons_zero, List.set_cons_succ, i64_w, i32_w]
    rfl
  refine pure_ (i := 1) (N := some 38) (v := ?_) (a' := ?_) #[true, true, false, false, false, true, false, false, false, false, false, false, false, false, false, false, false] rfl rfl (any_of HT_.out (by kernel_rfl)) (fun _ _ _ h => h) (Or.inl ⟨by rfl, ?_⟩) ?_ ?_
  rotate_left
  · intro w'
    go_simp
    with_reducible rfl
  rotate_left
  · simp only [Act.put, List.setIfInBounds_toArray, List.set_cons_zero, List.set_cons_succ, i64_w, i32_w]
    rfl
  refine pure_ (i := 2) (N := some 39) (v := ?_) (a' := ?_) #[true, true, true, false, false, true, false, false, false, false, false, false, false, false, false, false, false] rfl rfl (any_of HT_.out (by kernel_rfl)) (fun _ _ _ h => h) (Or.inl ⟨by rfl, ?_⟩) ?_ ?_
  rotate_left
  · intro w'
    go_simp
    with_reducible rfl
  rotate_left
  · simp only [Act.put, List.setIfInBounds_toArray, List.set_cons_zero, List.set_cons_succ, i64_w, i32_w]
    rfl
  refine pure_ (i := 3) (N := some 40) (v := ?_) (a' := ?_) #[true, true, true, true, false, true, false, false, false, false, false, false, false, false, false, false, false] rfl rfl (any_of HT_.out (by kernel_rfl)) (fun _ _ _ h => h) (Or.inl ⟨by rfl, ?_⟩) ?_ ?_
  rotate_left
  · intro w'
    go_simp
    with_reducible rfl
  rotate_left
  · simp only [Act.put, List.setIfInBounds_toArray, List.set_cons_zero, List.set_cons_succ, i64_w, i32_w]
    rfl
  refine take_ (i := 4) (N := some 41) (v := ?_) (a' := ?_) #[true, true, true, true, true, true, false, false, false, false, false, false, false, false, false, false, false] rfl rfl (take_ofW HT_.out HW_.out (by kernel_rfl)) (fun _ _ _ h => h) (Or.inl ⟨by rfl, ?_⟩) hHeld ?_ ?_
  rotate_left
  · rintro w' ⟨s0, s1, s2, s3, s4, s5, s6⟩
    go_simp
    with_reducible rfl
  rotate_left
  · simp only [Act.put, List.setIfInBounds_toArray, List.set_cons_zero, List.set_cons_succ, i64_w, i32_w]
    rfl
  refine pure_ (i := 6) (N := some 43) (v := ?_) (a' := ?_) #[true, true, true, true, true, true, true, false, false, false, false, false, false, false, false, false, false] rfl rfl (any_of HT_.out (by kernel_rfl)) (fun _ _ _ h => h) (Or.inl ⟨by rfl, ?_⟩) ?_ ?_
  rotate_left
  · intro w'
    go_simp
    with_reducible rfl
  rotate_left
  · simp only [Act.put, List.setIfInBounds_toArray, List.set_cons_zero, List.set_cons_succ, i64_w, i32_w]
    rfl
  refine take_ (i := 7) (N := some 44) (v := ?_) (a' := ?_) #[true, true, true, true, true, true, true, true, false, false, false, false, false, false, false, false, false] rfl rfl (take_ofW HT_.out HW_.out (by kernel_rfl)) (fun _ _ _ h => h) (Or.inl ⟨by rfl, ?_⟩) hHeld ?_ ?_
  rotate_left
  · rintro w' ⟨s0, s1, s2, s3, s4, s5, s6⟩
    go_simp
    with_reducible rfl
  rotate_left
  · simp only [Act.put, List.setIfInBounds_toArray, List.set_cons_zero, List.set_cons_succ, i64_w, i32_w]
    rfl
  refine take_ (i := 8) (N := some 45) (v := ?_) (a' := ?_) #[true, true, true, true, true, true, true, true, true, false, false, false, false, false, false, false, false] rfl rfl (take_ofW HT_.out HW_.out (by kernel_rfl)) (fun _ _ _ h => h) (Or.inl ⟨by rfl, ?_⟩) hHeld ?_ ?_
  rotate_left
  · rintro w' ⟨s0, s1, s2, s3, s4, s5, s6⟩
    go_simp
    with_reducible rfl
  rotate_left
  · simp only [Act.put, List.setIfInBounds_toArray, List.set_cons_zero, List.set_cons_succ, i64_w, i32_w]
    rfl
  refine pure_ (i := 9) (N := some 46) (v := ?_) (a' := ?_) #[true, true, true, true, true, true, true, true, true, true, false, false, false, false, false, false, false] rfl rfl (any_of HT_.out (by kernel_rfl)) (fun _ _ _ h => h) (Or.inl ⟨by rfl, ?_⟩) ?_ ?_
  rotate_left
  · intro w'
    go_simp
    with_reducible rfl
  rotate_left
  · simp only [Act.put, List.setIfInBounds_toArray, List.set_cons_zero, List.set_cons_succ, i64_w, i32_w]
    rfl
  refine pure_ (i := 10) (N := some 47) (v := ?_) (a' := ?_) #[true, true, true, true, true, true, true, true, true, true, true, false, false, false, false, false, false] rfl rfl (any_of HT_.out (by kernel_rfl)) (fun _ _ _ h => h) (Or.inl ⟨by rfl, ?_⟩) ?_ ?_
  rotate_left
  · intro w'
    go_simp
    with_reducible rfl
  rotate_left
  · simp only [Act.put, List.setIfInBounds_toArray, List.set_cons_zero, List.set_cons_succ, i64_w, i32_w]
    rfl
  refine pure_ (i := 11) (N := some 48) (v := ?_) (a' := ?_) #[true, true, true, true, true, true, true, true, true, true, true, true, false, false, false, false, false] rfl rfl (any_of HT_.out (by kernel_rfl)) (fun _ _ _ h => h) (Or.inl ⟨by rfl, ?_⟩) ?_ ?_
  rotate_left
  · intro w'
    go_simp
    with_reducible rfl
  rotate_left
  · simp only [Act.put, List.setIfInBounds_toArray, List.set_cons_zero, List.set_cons_succ, i64_w, i32_w]
    rfl
  refine take_ (i := 12) (N := some 49) (v := ?_) (a' := ?_) #[true, true, true, true, true, true, true, true, true, true, true, true, true, false, false, false, false] rfl rfl (take_ofW HT_.out HW_.out (by kernel_rfl)) (fun _ _ _ h => h) (Or.inl ⟨by rfl, ?_⟩) hHeld ?_ ?_
  rotate_left
  · rintro w' ⟨s0, s1, s2, s3, s4, s5, s6⟩
    go_simp
    with_reducible rfl
  rotate_left
  · simp only [Act.put, List.setIfInBounds_toArray, List.set_cons_zero, List.set_cons_succ, i64_w, i32_w]
    rfl
  refine join_ (σ := Nat × Nat) 2 #[true, true, true, true, true, true, true, true, true, true, true, true, true, true, true, false, false] (fun s_ => [(14, .pointer (some ⟨s_.1, 0, none⟩)), (15, .pointer (some ⟨s_.2, 0, none⟩))]) (fun s_ w' => w'.cell? ⟨w.heap.size, 0, none⟩ = some (.pointer (some ⟨F, 0, none⟩)) ∧ w'.cell? ⟨F, 0, none⟩ = some (.int .i64 C) ∧ w'.cell? ⟨F, 1, none⟩ = some (.slice (some ⟨tb, tq, none⟩) n c) ∧ w'.cell? ⟨tb, tq + i * 4, none⟩ = some (.int .i64 ((tk ts i).get 0)) ∧ w'.cell? ⟨tb, tq + i * 4 + 1, none⟩ = some (.int .i64 ((tk ts i).get 1)) ∧ w'.cell? ⟨tb, tq + i * 4 + 2, none⟩ = some (.int .i64 ((tk ts i).get 2)) ∧ w'.cell? ⟨tb, tq + i * 4 + 3, none⟩ = some (.int .i64 ((tk ts i).get 3)) ∧ TwoB wd w' s_.1 s_.2) ?_ ?_
  rotate_left
  · intro hCont
    refine two_ (i := 13) (j := 14) (Ni := some 14) (Nj := some 15) #[true, true, true, true, true, true, true, true, true, true, true, true, true, true, false, false, false] #[true, true, true, true, true, true, true, true, true, true, true, true, true, false, true, false, false] rfl rfl rfl rfl (two_of HT_.out (by kernel_rfl)) (by decide) (by decide) (fun K hK => ?_) (fun K hK => ?_)
    · skip
      refine value_ (w1 := ?_) (v := ?_) (by rfl) rfl ?_ ?_
      rotate_left 2
      · go_simp
        constructor
        · rfl
        · rfl
      refine hK.out _ _ ⟨cell_to (below_alloc (Below.refl _ _) _) hHeld.1, cell_to (below_alloc (Below.refl _ _) _) hHeld.2.1, cell_to (below_alloc (Below.refl _ _) _) hHeld.2.2.1, cell_to (below_alloc (Below.refl _ _) _) hHeld.2.2.2.1, cell_to (below_alloc (Below.refl _ _) _) hHeld.2.2.2.2.1, cell_to (below_alloc (Below.refl _ _) _) hHeld.2.2.2.2.2.1, cell_to (below_alloc (Below.refl _ _) _) hHeld.2.2.2.2.2.2⟩ (fun hHeld => ?_)
      clear hK K
      refine norm_ (a' := ?_) ?_ ?_
      rotate_left
      · show Act.put _ (some 14) _ = _
        simp only [Act.put, List.setIfInBounds_toArray, List.set_cons_zero, List.set_cons_succ, i64_w, i32_w]
        rfl
      refine one_ (i := 14) (N := some 15) #[true, true, true, true, true, true, true, true, true, true, true, true, true, true, true, false, false] rfl rfl (one_of HT_.out (by kernel_rfl)) (by decide) (fun K hK => ?_)
      refine value_ (w1 := ?_) (v := ?_) (by rfl) rfl ?_ ?_
      rotate_left 2
      · go_simp
        constructor
        · rfl
        · rfl
      refine hK.out _ _ ⟨cell_to (below_alloc (Below.refl _ _) _) hHeld.1, cell_to (below_alloc (Below.refl _ _) _) hHeld.2.1, cell_to (below_alloc (Below.refl _ _) _) hHeld.2.2.1, cell_to (below_alloc (Below.refl _ _) _) hHeld.2.2.2.1, cell_to (below_alloc (Below.refl _ _) _) hHeld.2.2.2.2.1, cell_to (below_alloc (Below.refl _ _) _) hHeld.2.2.2.2.2.1, cell_to (below_alloc (Below.refl _ _) _) hHeld.2.2.2.2.2.2⟩ (fun hHeld => ?_)
      clear hK K
      refine norm_ (a' := ?_) ?_ ?_
      rotate_left
      · show Act.put _ (some 15) _ = _
        simp only [Act.put, List.setIfInBounds_toArray, List.set_cons_zero, List.set_cons_succ, i64_w, i32_w]
        rfl
      exact norm_ (by first | (simp only [putAll, Act.put, List.setIfInBounds_toArray, List.set_cons_zero, List.set_cons_succ]; done) | (simp only [putAll, Act.put, List.setIfInBounds_toArray, List.set_cons_zero, List.set_cons_succ]; rfl)) (hCont (wd.heap.size + 0, wd.heap.size + 1) _ ⟨hHeld.1, hHeld.2.1, hHeld.2.2.1, hHeld.2.2.2.1, hHeld.2.2.2.2.1, hHeld.2.2.2.2.2.1, hHeld.2.2.2.2.2.2, two_boxes0 wd⟩)
    · skip
      refine value_ (w1 := ?_) (v := ?_) (by rfl) rfl ?_ ?_
      rotate_left 2
      · go_simp
        constructor
        · rfl
        · rfl
      refine hK.out _ _ ⟨cell_to (below_alloc (Below.refl _ _) _) hHeld.1, cell_to (below_alloc (Below.refl _ _) _) hHeld.2.1, cell_to (below_alloc (Below.refl _ _) _) hHeld.2.2.1, cell_to (below_alloc (Below.refl _ _) _) hHeld.2.2.2.1, cell_to (below_alloc (Below.refl _ _) _) hHeld.2.2.2.2.1, cell_to (below_alloc (Below.refl _ _) _) hHeld.2.2.2.2.2.1, cell_to (below_alloc (Below.refl _ _) _) hHeld.2.2.2.2.2.2⟩ (fun hHeld => ?_)
      clear hK K
      refine norm_ (a' := ?_) ?_ ?_
      rotate_left
      · show Act.put _ (some 15) _ = _
        simp only [Act.put, List.setIfInBounds_toArray, List.set_cons_zero, List.set_cons_succ, i64_w, i32_w]
        rfl
      refine one_ (i := 13) (N := some 14) #[true, true, true, true, true, true, true, true, true, true, true, true, true, true, true, false, false] rfl rfl (one_of HT_.out (by kernel_rfl)) (by decide) (fun K hK => ?_)
      refine value_ (w1 := ?_) (v := ?_) (by rfl) rfl ?_ ?_
      rotate_left 2
      · go_simp
        constructor
        · rfl
        · rfl
      refine hK.out _ _ ⟨cell_to (below_alloc (Below.refl _ _) _) hHeld.1, cell_to (below_alloc (Below.refl _ _) _) hHeld.2.1, cell_to (below_alloc (Below.refl _ _) _) hHeld.2.2.1, cell_to (below_alloc (Below.refl _ _) _) hHeld.2.2.2.1, cell_to (below_alloc (Below.refl _ _) _) hHeld.2.2.2.2.1, cell_to (below_alloc (Below.refl _ _) _) hHeld.2.2.2.2.2.1, cell_to (below_alloc (Below.refl _ _) _) hHeld.2.2.2.2.2.2⟩ (fun hHeld => ?_)
      clear hK K
      refine norm_ (a' := ?_) ?_ ?_
      rotate_left
      · show Act.put _ (some 14) _ = _
        simp only [Act.put, List.setIfInBounds_toArray, List.set_cons_zero, List.set_cons_succ, i64_w, i32_w]
        rfl
      exact norm_ (by first | (simp only [putAll, Act.put, List.setIfInBounds_toArray, List.set_cons_zero, List.set_cons_succ]; done) | (simp only [putAll, Act.put, List.setIfInBounds_toArray, List.set_cons_zero, List.set_cons_succ]; rfl)) (hCont (wd.heap.size + 1, wd.heap.size + 0) _ ⟨hHeld.1, hHeld.2.1, hHeld.2.2.1, hHeld.2.2.2.1, hHeld.2.2.2.2.1, hHeld.2.2.2.2.2.1, hHeld.2.2.2.2.2.2, two_boxes1 wd⟩)
  rintro ⟨t2b, cb⟩ w27 ⟨h0_, h1_, h2_, h3_, h4_, h5_, h6_, hTB⟩
  have hHeld : w27.cell? ⟨w.heap.size, 0, none⟩ = some (.pointer (some ⟨F, 0, none⟩)) ∧ w27.cell? ⟨F, 0, none⟩ = some (.int .i64 C) ∧ w27.cell? ⟨F, 1, none⟩ = some (.slice (some ⟨tb, tq, none⟩) n c) ∧ w27.cell? ⟨tb, tq + i * 4, none⟩ = some (.int .i64 ((tk ts i).get 0)) ∧ w27.cell? ⟨tb, tq + i * 4 + 1, none⟩ = some (.int .i64 ((tk ts i).get 1)) ∧ w27.cell? ⟨tb, tq + i * 4 + 2, none⟩ = some (.int .i64 ((tk ts i).get 2)) ∧ w27.cell? ⟨tb, tq + i * 4 + 3, none⟩ = some (.int .i64 ((tk ts i).get 3)) := ⟨h0_, h1_, h2_, h3_, h4_, h5_, h6_⟩
  refine norm_ (a' := ?_) ?_ ?_
  rotate_left
  · simp only [putAll, Act.put, List.setIfInBounds_toArray, List.set_cons_zero, List.set_cons_succ]
    rfl
  refine one_ (i := 15) (N := none) #[true, true, true, true, true, true, true, true, true, true, true, true, true, true, true, true, false] rfl rfl (one_of HT_.out (by kernel_rfl)) (by decide) (fun K hK => ?_)
  have bT := hTB.t
  have bC := hTB.c
  have y0 : w27.cell? ⟨t2b, 0, none⟩ = some (.int .i64 0) := bT.cell rfl
  have y1 : w27.cell? ⟨t2b, 1, none⟩ = some (.int .i64 0) := bT.cell rfl
  have y2 : w27.cell? ⟨t2b, 2, none⟩ = some (.int .i64 0) := bT.cell rfl
  have y3 : w27.cell? ⟨t2b, 3, none⟩ = some (.int .i64 0) := bT.cell rfl
  have f0 := bT.frozen 0; have f1 := bT.frozen 1; have f2 := bT.frozen 2; have f3 := bT.frozen 3
  refine skip_ (w1 := ?_) (by rfl) rfl ?_ ?_
  rotate_left
  · go_simp
    rfl
  have hs4 := below_set4g hTB.be hTB.gt (.int .i64 ((tk ts i).get 0)) (.int .i64 ((tk ts i).get 1)) (.int .i64 ((tk ts i).get 2)) (.int .i64 ((tk ts i).get 3))
  have bT4 := (((bT.set 0 (.int .i64 ((tk ts i).get 0))).set 1 (.int .i64 ((tk ts i).get 1))).set 2 (.int .i64 ((tk ts i).get 2))).set 3 (.int .i64 ((tk ts i).get 3))
  have bC4 := (((bC.set_ne hTB.ne 0 (.int .i64 ((tk ts i).get 0))).set_ne hTB.ne 1 (.int .i64 ((tk ts i).get 1))).set_ne hTB.ne 2 (.int .i64 ((tk ts i).get 2))).set_ne hTB.ne 3 (.int .i64 ((tk ts i).get 3))
  refine hK.out _ _ ⟨cell_to hs4 (cell_to hD q0), cell_to hs4 (cell_to hD q1), cell_to hs4 (cell_to hD q2), cell_to hs4 (cell_to hD c0), cell_to hs4 (cell_to hD c1), cell_to hs4 (cell_to hD c2), cell_to hs4 (cell_to hD c3)⟩ (fun hHeld => ?_)
  clear hK K
  refine one_ (i := 16) (N := none) #[true, true, true, true, true, true, true, true, true, true, true, true, true, true, true, true, true] rfl rfl (one_of HT_.out (by kernel_rfl)) (by decide) (fun K hK => ?_)
  generalize ((((w27.setCell ⟨t2b, 0, none⟩ (.int .i64 ((tk ts i).get 0))).setCell ⟨t2b, 1, none⟩ (.int .i64 ((tk ts i).get 1))).setCell ⟨t2b, 2, none⟩ (.int .i64 ((tk ts i).get 2))).setCell ⟨t2b, 3, none⟩ (.int .i64 ((tk ts i).get 3))) = w28 at hs4 bT4 bC4 ⊢
  have z0 : w28.cell? ⟨cb, 0, none⟩ = some (.int .i64 0) := bC4.cell rfl
  have g0 := bC4.frozen 0
  refine skip_ (w1 := ?_) (by rfl) rfl ?_ ?_
  rotate_left
  · go_simp
    rfl
  have hs5 : Below wd.heap.size wd (w28.setCell ⟨cb, 0, none⟩ (.int .i64 C)) := hs4.setCell hTB.gc _
  have bC5 := bC4.set 0 (.int .i64 C)
  have bT5 := bT4.set_ne (Ne.symm hTB.ne) 0 (.int .i64 C)
  refine hK.out _ _ ⟨cell_to hs5 (cell_to hD q0), cell_to hs5 (cell_to hD q1), cell_to hs5 (cell_to hD q2), cell_to hs5 (cell_to hD c0), cell_to hs5 (cell_to hD c1), cell_to hs5 (cell_to hD c2), cell_to hs5 (cell_to hD c3)⟩ (fun hHeld => ?_)
  clear hK K
  refine done_ (done_of HT_.out (by kernel_rfl)) ?_
  generalize w28.setCell ⟨cb, 0, none⟩ (.int .i64 C) = w4 at hs5 bC5 bT5 ⊢
  have hfb : FB w w4 w.heap.size (w.heap.size + 1) t2b cb F s C (tk ts i) := ⟨below_to HB (below_to hD hs5), cell_to hs5 (cell_to hD q0), cell_to hs5 (cell_to hD a2), bT5.cell rfl, bT5.cell rfl, bT5.cell rfl, bT5.cell rfl, bC5.cell rfl⟩
  clear hs4 hs5 bC4 bC5 bT4 bT5 q0 q1 q2 c0 c1 c2 c3 a2 hD
  try clear hHeld
  have HFB := Lib.hid hfb; clear hfb HB
  go_upto_region 6 with fail
  go_cut [52] from 19 (fun s52 wx => s52 = .bool (BadP plan y x i) ∧ FB w wx w.heap.size (w.heap.size + 1) t2b cb F s C (tk ts i))
  case first =>
   as_aux_lemma =>
    have a1 := HFB.out.f
    have q5 := cell_to HFB.out.be HQ5.out
    have hrow := cell_to HFB.out.be hp_
    have hcel := cell_to HFB.out.be hrx
    by_cases g1 : 0 ≤ ik (rowAt plan y) x
    · by_cases g2 : ik (rowAt plan y) x = i
      · have k1 : ik (rowAt plan y) x ≥ 0 := g1
        have k2 : (ik (rowAt plan y) x != (i : Int)) = false := by simp [g2]
        have k3 : BadP plan y x i = false := by simp [BadP, g2]
        go_wp2_with fail
        go_meet
        exact ⟨congrArg Value.bool k3.symm, HFB.out⟩
      · have k1 : ik (rowAt plan y) x ≥ 0 := g1
        have k2 : (ik (rowAt plan y) x != (i : Int)) = true := by simp [g2]
        have k3 : BadP plan y x i = true := by simp [BadP, g1, g2]
        go_wp2_with fail
        go_meet
        exact ⟨congrArg Value.bool k3.symm, HFB.out⟩
    · have k1 : ¬ ik (rowAt plan y) x ≥ 0 := g1
      have k3 : BadP plan y x i = false := by simp [BadP, g1]
      go_wp2_with fail
      go_meet
      exact ⟨congrArg Value.bool k3.symm, HFB.out⟩
  case rest =>
  obtain ⟨rfl, hfb⟩ := hcut
  obtain ⟨bp, hP⟩ : ∃ b_, b_ = BadP plan y x i := ⟨_, rfl⟩
  rw [← hP]
  have HP := Lib.hid hP; clear hP HFB
  rcases bp with _ | _
  rotate_left
  · go_wp2_with fail
    go_ret2
    exact ⟨congrArg Ending.returned (out_none (HBAD.out (.inl HP.out.symm))), hfb.be⟩
  go_upto_region 8 with fail
  go_cut [78] from 19 (fun s78 wx => s78 = .bool (test2 bs cn s (tk ts i) y x) ∧ FB w wx w.heap.size (w.heap.size + 1) t2b cb F s C (tk ts i))
  case first =>
   as_aux_lemma =>
    have hdig := HD.out
    obtain ⟨w4, rfl⟩ : ∃ w_, w_ = wc := ⟨_, rfl⟩
    have a1 := hfb.f; have a2 := hfb.s; have a3 := hfb.t0; have a4 := hfb.t1; have a5 := hfb.t2; have a6 := hfb.t3; have a7 := hfb.c
    have HFB := Lib.hid hfb
    have q1 := cell_to hfb.be HQ1.out; have q2 := cell_to hfb.be HQ2.out; have q3 := cell_to hfb.be HQ3.out; have q4 := cell_to hfb.be HQ4.out; have q5 := cell_to hfb.be HQ5.out
    have HBS := Lib.hid (HA2.out.below hfb.be); have HPW := Lib.hid (HA3.out.below hfb.be)
    have l1 := World.block_lt_of_cell? w4 _ a1; have l2 := World.block_lt_of_cell? w4 _ a2; have l3 := World.block_lt_of_cell? w4 _ a3; have l7 := World.block_lt_of_cell? w4 _ a7; have lq := World.block_lt_of_cell? w4 _ q1
    simp only at l1 l2 l3 l7 lq
    clear hfb
    by_cases g0 : y = 0
    · have HG := Lib.hid g0
      have vY : (((y : Nat) : Int) == 0) = true := by simp [g0]
      have vY3 : decide (0 < y) = false := by simp [g0]; try omega
      have vY4 : (y == 0) = true := by simp [g0]
      have vY5 : decide (((y : Nat) : Int) > 0) = false := by simp; omega
      have vY6 : decide (y = 0) = true := by simp [g0]
      obtain ⟨bo_, hbo⟩ : ∃ b_, b_ = bordB bs 1 x ((tk ts i).get 1) := ⟨_, rfl⟩
      have HBO := Lib.hid hbo.symm; clear hbo
      clear g0
      rcases bo_ with _ | _
      · refine wp_region_gro (by kernel_rfl) (by kernel_rfl) ?_
        repeat (first | go_big_quiet_step ((go_at_call 94; exact quiet_call (by have h := border_any (some ⟨bb, bo, none⟩) bs 4 c2 1 x w.heap.size F t2b ((tk ts i).get 1) (gro w4 ‹GP›) HM2.out (HBS.out.below (gro_below w4 _)) (by omega) (by omega) (by have := HBL.out 1 (by omega); simp at this; omega) (cell_to (gro_below w4 _) a1) (cell_to (gro_below w4 _) q3) (cell_to (gro_below w4 _) a4) (by omega); rw [HBO.out] at h; exact h))) | quiet_step ((go_at_call 94; exact quiet_call (by have h := border_any (some ⟨bb, bo, none⟩) bs 4 c2 1 x w.heap.size F t2b ((tk ts i).get 1) (gro w4 ‹GP›) HM2.out (HBS.out.below (gro_below w4 _)) (by omega) (by omega) (by have := HBL.out 1 (by omega); simp at this; omega) (cell_to (gro_below w4 _) a1) (cell_to (gro_below w4 _) q3) (cell_to (gro_below w4 _) a4) (by omega); rw [HBO.out] at h; exact h))))
        refine wpQuiet_nil ?_
        intro w5 hB5
        go_wp2_with fail
        go_meet
        exact ⟨congrArg Value.bool (by have g1 := HBO.out; have g0 := HG.out; unfold test2; rw [g1, decide_eq_true g0]; rfl), HFB.out.to hB5⟩
      · refine wp_region_gro (by kernel_rfl) (by kernel_rfl) ?_
        repeat (first | go_big_quiet_step ((go_at_call 94; exact quiet_call (by have h := border_any (some ⟨bb, bo, none⟩) bs 4 c2 1 x w.heap.size F t2b ((tk ts i).get 1) (gro w4 ‹GP›) HM2.out (HBS.out.below (gro_below w4 _)) (by omega) (by omega) (by have := HBL.out 1 (by omega); simp at this; omega) (cell_to (gro_below w4 _) a1) (cell_to (gro_below w4 _) q3) (cell_to (gro_below w4 _) a4) (by omega); rw [HBO.out] at h; exact h))) | quiet_step ((go_at_call 94; exact quiet_call (by have h := border_any (some ⟨bb, bo, none⟩) bs 4 c2 1 x w.heap.size F t2b ((tk ts i).get 1) (gro w4 ‹GP›) HM2.out (HBS.out.below (gro_below w4 _)) (by omega) (by omega) (by have := HBL.out 1 (by omega); simp at this; omega) (cell_to (gro_below w4 _) a1) (cell_to (gro_below w4 _) q3) (cell_to (gro_below w4 _) a4) (by omega); rw [HBO.out] at h; exact h))))
        refine wpQuiet_nil ?_
        intro w5 hB5
        go_wp2_with fail
        go_meet
        exact ⟨congrArg Value.bool (by have g1 := HBO.out; have g0 := HG.out; unfold test2; rw [g1, decide_eq_true g0]; rfl), HFB.out.to hB5⟩
    · have HG := Lib.hid g0
      have vY : (((y : Nat) : Int) == 0) = false := by simp [g0]
      have vY3 : decide (0 < y) = true := by simp [g0]; try omega
      have vY4 : (y == 0) = false := by simp [g0]
      have vY5 : decide (((y : Nat) : Int) > 0) = true := by simp; omega
      have vY6 : decide (y = 0) = false := by simp [g0]
      clear g0
      by_cases g1 : ((dig cn s x : Nat) : Int) = (tk ts i).get 1
      · have HG1 := Lib.hid g1
        have v5 : (((dig cn s x : Nat) : Int) != (tk ts i).get 1) = false := by simp [g1]
        have HDG := Lib.hid (hdig x)
        clear g1 hdig
        refine wp_region_gro (by kernel_rfl) (by kernel_rfl) ?_
        repeat (first | go_big_quiet_step ((go_at_call 95; exact quiet_call (by have h := digit_any (some ⟨wb, wo, none⟩) pw m3 c3 x (w.heap.size + 1) w.heap.size F cb (s : Int) C ((cn ^ x : Nat) : Int) (gro w4 ‹GP›) HM3.out (HPW.out.below (gro_below w4 _)) (by have := HM3.out; omega) (by omega) (cell_to (gro_below w4 _) a2) (cell_to (gro_below w4 _) a1) (cell_to (gro_below w4 _) q4) (cell_to (gro_below w4 _) a7) (HPK.out x (by omega)) (nat_ne0 (Nat.pow_pos HCN.out)) HC0.out; rw [HDG.out] at h; exact h))) | quiet_step ((go_at_call 95; exact quiet_call (by have h := digit_any (some ⟨wb, wo, none⟩) pw m3 c3 x (w.heap.size + 1) w.heap.size F cb (s : Int) C ((cn ^ x : Nat) : Int) (gro w4 ‹GP›) HM3.out (HPW.out.below (gro_below w4 _)) (by have := HM3.out; omega) (by omega) (cell_to (gro_below w4 _) a2) (cell_to (gro_below w4 _) a1) (cell_to (gro_below w4 _) q4) (cell_to (gro_below w4 _) a7) (HPK.out x (by omega)) (nat_ne0 (Nat.pow_pos HCN.out)) HC0.out; rw [HDG.out] at h; exact h))))
        refine wpQuiet_nil ?_
        intro w5 hB5
        go_wp2_with fail
        go_meet
        exact ⟨congrArg Value.bool (by have g1 := HG1.out; have g0 := HG.out; unfold test2; rw [decide_eq_false g0, decide_eq_true g1]; rfl), HFB.out.to hB5⟩
      · have HG1 := Lib.hid g1
        have v5 : (((dig cn s x : Nat) : Int) != (tk ts i).get 1) = true := by simp [g1]
        have HDG := Lib.hid (hdig x)
        clear g1 hdig
        refine wp_region_gro (by kernel_rfl) (by kernel_rfl) ?_
        repeat (first | go_big_quiet_step ((go_at_call 95; exact quiet_call (by have h := digit_any (some ⟨wb, wo, none⟩) pw m3 c3 x (w.heap.size + 1) w.heap.size F cb (s : Int) C ((cn ^ x : Nat) : Int) (gro w4 ‹GP›) HM3.out (HPW.out.below (gro_below w4 _)) (by have := HM3.out; omega) (by omega) (cell_to (gro_below w4 _) a2) (cell_to (gro_below w4 _) a1) (cell_to (gro_below w4 _) q4) (cell_to (gro_below w4 _) a7) (HPK.out x (by omega)) (nat_ne0 (Nat.pow_pos HCN.out)) HC0.out; rw [HDG.out] at h; exact h))) | quiet_step ((go_at_call 95; exact quiet_call (by have h := digit_any (some ⟨wb, wo, none⟩) pw m3 c3 x (w.heap.size + 1) w.heap.size F cb (s : Int) C ((cn ^ x : Nat) : Int) (gro w4 ‹GP›) HM3.out (HPW.out.below (gro_below w4 _)) (by have := HM3.out; omega) (by omega) (cell_to (gro_below w4 _) a2) (cell_to (gro_below w4 _) a1) (cell_to (gro_below w4 _) q4) (cell_to (gro_below w4 _) a7) (HPK.out x (by omega)) (nat_ne0 (Nat.pow_pos HCN.out)) HC0.out; rw [HDG.out] at h; exact h))))
        refine wpQuiet_nil ?_
        intro w5 hB5
        go_wp2_with fail
        go_meet
        exact ⟨congrArg Value.bool (by have g1 := HG1.out; have g0 := HG.out; unfold test2; rw [decide_eq_false g0, decide_eq_false g1]; rfl), HFB.out.to hB5⟩
  case rest =>
  clear hfb
  obtain ⟨rfl, hfb⟩ := hcut
  obtain ⟨bp, hP⟩ : ∃ b_, b_ = test2 bs cn s (tk ts i) y x := ⟨_, rfl⟩
  rw [← hP]
  have HP2 := Lib.hid hP; clear hP
  rcases bp with _ | _
  rotate_left
  · go_wp2_with fail
    go_ret2
    exact ⟨congrArg Ending.returned (out_none (HBAD.out (.inr (.inl HP2.out.symm)))), hfb.be⟩
  go_upto_region 10 with fail
  go_cut [99] from 19 (fun s99 wx => s99 = .bool (test3 bs cn s (rowLen plan 0) (tk ts i) y x) ∧ FB w wx w.heap.size (w.heap.size + 1) t2b cb F s C (tk ts i))
  case first =>
   as_aux_lemma =>
    have hdig := HD.out
    obtain ⟨w4, rfl⟩ : ∃ w_, w_ = wc := ⟨_, rfl⟩
    have a1 := hfb.f; have a2 := hfb.s; have a3 := hfb.t0; have a4 := hfb.t1; have a5 := hfb.t2; have a6 := hfb.t3; have a7 := hfb.c
    have HFB := Lib.hid hfb
    have q1 := cell_to hfb.be HQ1.out; have q2 := cell_to hfb.be HQ2.out; have q3 := cell_to hfb.be HQ3.out; have q4 := cell_to hfb.be HQ4.out; have q5 := cell_to hfb.be HQ5.out
    have HBS := Lib.hid (HA2.out.below hfb.be); have HPW := Lib.hid (HA3.out.below hfb.be)
    have l1 := World.block_lt_of_cell? w4 _ a1; have l2 := World.block_lt_of_cell? w4 _ a2; have l3 := World.block_lt_of_cell? w4 _ a3; have l7 := World.block_lt_of_cell? w4 _ a7; have lq := World.block_lt_of_cell? w4 _ q1
    simp only at l1 l2 l3 l7 lq
    clear hfb
    by_cases g0 : x = 0
    · have HG := Lib.hid g0
      have vX : (((x : Nat) : Int) == 0) = true := by simp [g0]
      have vX3 : decide (0 < x) = false := by simp [g0]; try omega
      have vX4 : (x == 0) = true := by simp [g0]
      have vX5 : decide (((x : Nat) : Int) > 0) = false := by simp; omega
      have vX6 : decide (x = 0) = true := by simp [g0]
      obtain ⟨bo_, hbo⟩ : ∃ b_, b_ = bordB bs 0 y ((tk ts i).get 0) := ⟨_, rfl⟩
      have HBO := Lib.hid hbo.symm; clear hbo
      clear g0
      rcases bo_ with _ | _
      · refine wp_region_gro (by kernel_rfl) (by kernel_rfl) ?_
        repeat (first | go_big_quiet_step ((go_at_call 94; exact quiet_call (by have h := border_any (some ⟨bb, bo, none⟩) bs 4 c2 0 y w.heap.size F t2b ((tk ts i).get 0) (gro w4 ‹GP›) HM2.out (HBS.out.below (gro_below w4 _)) (by omega) (by omega) (by have := HBL.out 0 (by omega); simp at this; omega) (cell_to (gro_below w4 _) a1) (cell_to (gro_below w4 _) q3) (cell_to (gro_below w4 _) a3) (by omega); rw [HBO.out] at h; exact h))) | quiet_step ((go_at_call 94; exact quiet_call (by have h := border_any (some ⟨bb, bo, none⟩) bs 4 c2 0 y w.heap.size F t2b ((tk ts i).get 0) (gro w4 ‹GP›) HM2.out (HBS.out.below (gro_below w4 _)) (by omega) (by omega) (by have := HBL.out 0 (by omega); simp at this; omega) (cell_to (gro_below w4 _) a1) (cell_to (gro_below w4 _) q3) (cell_to (gro_below w4 _) a3) (by omega); rw [HBO.out] at h; exact h))))
        refine wpQuiet_nil ?_
        intro w5 hB5
        go_wp2_with fail
        go_meet
        exact ⟨congrArg Value.bool (by have g1 := HBO.out; have g0 := HG.out; unfold test3; rw [g1, decide_eq_true g0]; rfl), HFB.out.to hB5⟩
      · refine wp_region_gro (by kernel_rfl) (by kernel_rfl) ?_
        repeat (first | go_big_quiet_step ((go_at_call 94; exact quiet_call (by have h := border_any (some ⟨bb, bo, none⟩) bs 4 c2 0 y w.heap.size F t2b ((tk ts i).get 0) (gro w4 ‹GP›) HM2.out (HBS.out.below (gro_below w4 _)) (by omega) (by omega) (by have := HBL.out 0 (by omega); simp at this; omega) (cell_to (gro_below w4 _) a1) (cell_to (gro_below w4 _) q3) (cell_to (gro_below w4 _) a3) (by omega); rw [HBO.out] at h; exact h))) | quiet_step ((go_at_call 94; exact quiet_call (by have h := border_any (some ⟨bb, bo, none⟩) bs 4 c2 0 y w.heap.size F t2b ((tk ts i).get 0) (gro w4 ‹GP›) HM2.out (HBS.out.below (gro_below w4 _)) (by omega) (by omega) (by have := HBL.out 0 (by omega); simp at this; omega) (cell_to (gro_below w4 _) a1) (cell_to (gro_below w4 _) q3) (cell_to (gro_below w4 _) a3) (by omega); rw [HBO.out] at h; exact h))))
        refine wpQuiet_nil ?_
        intro w5 hB5
        go_wp2_with fail
        go_meet
        exact ⟨congrArg Value.bool (by have g1 := HBO.out; have g0 := HG.out; unfold test3; rw [g1, decide_eq_true g0]; rfl), HFB.out.to hB5⟩
    · have HG := Lib.hid g0
      have vX : (((x : Nat) : Int) == 0) = false := by simp [g0]
      have vX3 : decide (0 < x) = true := by simp [g0]; try omega
      have vX4 : (x == 0) = false := by simp [g0]
      have vX5 : decide (((x : Nat) : Int) > 0) = true := by simp; omega
      have vX6 : decide (x = 0) = false := by simp [g0]
      clear g0
      by_cases g1 : ((dig cn s (rowLen plan 0) : Nat) : Int) = (tk ts i).get 0
      · have HG1 := Lib.hid g1
        have v5 : (((dig cn s (rowLen plan 0) : Nat) : Int) != (tk ts i).get 0) = false := by simp [g1]
        have HDG := Lib.hid (hdig (rowLen plan 0))
        clear g1 hdig
        refine wp_region_gro (by kernel_rfl) (by kernel_rfl) ?_
        repeat (first | go_big_quiet_step ((go_at_call 95; exact quiet_call (by have h := digit_any (some ⟨wb, wo, none⟩) pw m3 c3 (rowLen plan 0) (w.heap.size + 1) w.heap.size F cb (s : Int) C ((cn ^ (rowLen plan 0) : Nat) : Int) (gro w4 ‹GP›) HM3.out (HPW.out.below (gro_below w4 _)) (by have := HM3.out; omega) (by omega) (cell_to (gro_below w4 _) a2) (cell_to (gro_below w4 _) a1) (cell_to (gro_below w4 _) q4) (cell_to (gro_below w4 _) a7) (HPK.out _ (Nat.le_refl _)) (nat_ne0 (Nat.pow_pos HCN.out)) HC0.out; rw [HDG.out] at h; exact h))) | quiet_step ((go_at_call 95; exact quiet_call (by have h := digit_any (some ⟨wb, wo, none⟩) pw m3 c3 (rowLen plan 0) (w.heap.size + 1) w.heap.size F cb (s : Int) C ((cn ^ (rowLen plan 0) : Nat) : Int) (gro w4 ‹GP›) HM3.out (HPW.out.below (gro_below w4 _)) (by have := HM3.out; omega) (by omega) (cell_to (gro_below w4 _) a2) (cell_to (gro_below w4 _) a1) (cell_to (gro_below w4 _) q4) (cell_to (gro_below w4 _) a7) (HPK.out _ (Nat.le_refl _)) (nat_ne0 (Nat.pow_pos HCN.out)) HC0.out; rw [HDG.out] at h; exact h))))
        refine wpQuiet_nil ?_
        intro w5 hB5
        go_wp2_with fail
        go_meet
        exact ⟨congrArg Value.bool (by have g1 := HG1.out; have g0 := HG.out; unfold test3; rw [decide_eq_false g0, decide_eq_true g1]; rfl), HFB.out.to hB5⟩
      · have HG1 := Lib.hid g1
        have v5 : (((dig cn s (rowLen plan 0) : Nat) : Int) != (tk ts i).get 0) = true := by simp [g1]
        have HDG := Lib.hid (hdig (rowLen plan 0))
        clear g1 hdig
        refine wp_region_gro (by kernel_rfl) (by kernel_rfl) ?_
        repeat (first | go_big_quiet_step ((go_at_call 95; exact quiet_call (by have h := digit_any (some ⟨wb, wo, none⟩) pw m3 c3 (rowLen plan 0) (w.heap.size + 1) w.heap.size F cb (s : Int) C ((cn ^ (rowLen plan 0) : Nat) : Int) (gro w4 ‹GP›) HM3.out (HPW.out.below (gro_below w4 _)) (by have := HM3.out; omega) (by omega) (cell_to (gro_below w4 _) a2) (cell_to (gro_below w4 _) a1) (cell_to (gro_below w4 _) q4) (cell_to (gro_below w4 _) a7) (HPK.out _ (Nat.le_refl _)) (nat_ne0 (Nat.pow_pos HCN.out)) HC0.out; rw [HDG.out] at h; exact h))) | quiet_step ((go_at_call 95; exact quiet_call (by have h := digit_any (some ⟨wb, wo, none⟩) pw m3 c3 (rowLen plan 0) (w.heap.size + 1) w.heap.size F cb (s : Int) C ((cn ^ (rowLen plan 0) : Nat) : Int) (gro w4 ‹GP›) HM3.out (HPW.out.below (gro_below w4 _)) (by have := HM3.out; omega) (by omega) (cell_to (gro_below w4 _) a2) (cell_to (gro_below w4 _) a1) (cell_to (gro_below w4 _) q4) (cell_to (gro_below w4 _) a7) (HPK.out _ (Nat.le_refl _)) (nat_ne0 (Nat.pow_pos HCN.out)) HC0.out; rw [HDG.out] at h; exact h))))
        refine wpQuiet_nil ?_
        intro w5 hB5
        go_wp2_with fail
        go_meet
        exact ⟨congrArg Value.bool (by have g1 := HG1.out; have g0 := HG.out; unfold test3; rw [decide_eq_false g0, decide_eq_false g1]; rfl), HFB.out.to hB5⟩
  case rest =>
  clear hfb
  obtain ⟨rfl, hfb⟩ := hcut
  obtain ⟨bp, hP⟩ : ∃ b_, b_ = test3 bs cn s (rowLen plan 0) (tk ts i) y x := ⟨_, rfl⟩
  rw [← hP]
  have HP3 := Lib.hid hP; clear hP
  rcases bp with _ | _
  rotate_left
  · go_wp2_with fail
    go_ret2
    exact ⟨congrArg Ending.returned (out_none (HBAD.out (.inr (.inr (.inl HP3.out.symm))))), hfb.be⟩
  go_upto_region 12 with fail
  go_cut [120] from 19 (fun s120 wx => s120 = .bool (test4 plan bs (tk ts i) y x) ∧ FB w wx w.heap.size (w.heap.size + 1) t2b cb F s C (tk ts i))
  case first =>
   as_aux_lemma =>
    obtain ⟨w4, rfl⟩ : ∃ w_, w_ = wc := ⟨_, rfl⟩
    have a1 := hfb.f; have a2 := hfb.s; have a3 := hfb.t0; have a4 := hfb.t1; have a5 := hfb.t2; have a6 := hfb.t3; have a7 := hfb.c
    have HFB := Lib.hid hfb
    have q1 := cell_to hfb.be HQ1.out; have q2 := cell_to hfb.be HQ2.out; have q3 := cell_to hfb.be HQ3.out; have q4 := cell_to hfb.be HQ4.out; have q5 := cell_to hfb.be HQ5.out
    have HBS := Lib.hid (HA2.out.below hfb.be); have HPW := Lib.hid (HA3.out.below hfb.be)
    have l1 := World.block_lt_of_cell? w4 _ a1; have l2 := World.block_lt_of_cell? w4 _ a2; have l3 := World.block_lt_of_cell? w4 _ a3; have l7 := World.block_lt_of_cell? w4 _ a7; have lq := World.block_lt_of_cell? w4 _ q1
    simp only at l1 l2 l3 l7 lq
    clear hfb
    have hM1 := HM1.out
    have m5 : m1 ≤ 5 := by omega
    by_cases g0 : y + 1 = plan.length
    · have HGA := Lib.hid g0
      have vA0 : ((m1 : Nat) : Int) - 1 = (y : Int) := by omega
      clear g0
      obtain ⟨bo_, hbo⟩ : ∃ b_, b_ = bordB bs 3 x ((tk ts i).get 3) := ⟨_, rfl⟩
      have HB3 := Lib.hid hbo.symm; clear hbo
      rcases bo_ with _ | _
      · clear hM1
        go_wp2_with (first | (go_at_call 94; with_reducible refine (border_lit 3 rfl (some ⟨bb, bo, none⟩) bs 4 c2 3 x w.heap.size F t2b ((tk ts i).get 3) w4 HM2.out HBS.out (by omega) (by omega) (by have := HBL.out 3 (by omega); simp at this; have := HX.out; have := HY.out; omega) a1 q3 a6 (by omega)).mono ?_; rintro e w1_ ⟨rfl, hb1_⟩; rw [HB3.out]; have HW1_ := Lib.hid hb1_; clear hb1_))
        go_meet
        exact ⟨congrArg Value.bool (by unfold test4; rw [decide_eq_true HGA.out, HB3.out]; simp), (HFB.out.to HW1_.out)⟩
      · by_cases g0 : x + 1 = rowLen plan 0
        · have HGB := Lib.hid g0
          have vB0 : ((rowLen plan 0 : Nat) : Int) - 1 = (x : Int) := by omega
          clear g0 hM1
          obtain ⟨bo_, hbo⟩ : ∃ b_, b_ = bordB bs 2 y ((tk ts i).get 2) := ⟨_, rfl⟩
          have HB2 := Lib.hid hbo.symm; clear hbo
          rcases bo_ with _ | _
          · skip
            go_wp2_with (first | (go_at_call 94; with_reducible refine (border_lit 3 rfl (some ⟨bb, bo, none⟩) bs 4 c2 3 x w.heap.size F t2b ((tk ts i).get 3) w4 HM2.out HBS.out (by omega) (by omega) (by have := HBL.out 3 (by omega); simp at this; have := HX.out; have := HY.out; omega) a1 q3 a6 (by omega)).mono ?_; rintro e w1_ ⟨rfl, hb1_⟩; rw [HB3.out]; have HW1_ := Lib.hid hb1_; clear hb1_) | (go_at_call 94; with_reducible refine (border_lit 2 rfl (some ⟨bb, bo, none⟩) bs 4 c2 2 y w.heap.size F t2b ((tk ts i).get 2) w1_ HM2.out (HBS.out.below HW1_.out) (by omega) (by omega) (by have := HBL.out 2 (by omega); simp at this; have := HX.out; have := HY.out; omega) (cell_to HW1_.out a1) (cell_to HW1_.out q3) (cell_to HW1_.out a5) (by omega)).mono ?_; rintro e w2_ ⟨rfl, hb2_⟩; rw [HB2.out]; have HW2_ := Lib.hid hb2_; clear hb2_))
            go_meet
            exact ⟨congrArg Value.bool (by unfold test4; rw [decide_eq_true HGA.out, HB3.out, decide_eq_true HGB.out, HB2.out]; simp), ((HFB.out.to HW1_.out).to HW2_.out)⟩
          · skip
            go_wp2_with (first | (go_at_call 94; with_reducible refine (border_lit 3 rfl (some ⟨bb, bo, none⟩) bs 4 c2 3 x w.heap.size F t2b ((tk ts i).get 3) w4 HM2.out HBS.out (by omega) (by omega) (by have := HBL.out 3 (by omega); simp at this; have := HX.out; have := HY.out; omega) a1 q3 a6 (by omega)).mono ?_; rintro e w1_ ⟨rfl, hb1_⟩; rw [HB3.out]; have HW1_ := Lib.hid hb1_; clear hb1_) | (go_at_call 94; with_reducible refine (border_lit 2 rfl (some ⟨bb, bo, none⟩) bs 4 c2 2 y w.heap.size F t2b ((tk ts i).get 2) w1_ HM2.out (HBS.out.below HW1_.out) (by omega) (by omega) (by have := HBL.out 2 (by omega); simp at this; have := HX.out; have := HY.out; omega) (cell_to HW1_.out a1) (cell_to HW1_.out q3) (cell_to HW1_.out a5) (by omega)).mono ?_; rintro e w2_ ⟨rfl, hb2_⟩; rw [HB2.out]; have HW2_ := Lib.hid hb2_; clear hb2_))
            go_meet
            exact ⟨congrArg Value.bool (by unfold test4; rw [decide_eq_true HGA.out, HB3.out, decide_eq_true HGB.out, HB2.out]; simp), ((HFB.out.to HW1_.out).to HW2_.out)⟩
        · have HGB := Lib.hid g0
          have vB0 : (((x : Nat) : Int) == ((rowLen plan 0 : Nat) : Int) - 1) = false := by simp; omega
          clear g0 hM1
          go_wp2_with (first | (go_at_call 94; with_reducible refine (border_lit 3 rfl (some ⟨bb, bo, none⟩) bs 4 c2 3 x w.heap.size F t2b ((tk ts i).get 3) w4 HM2.out HBS.out (by omega) (by omega) (by have := HBL.out 3 (by omega); simp at this; have := HX.out; have := HY.out; omega) a1 q3 a6 (by omega)).mono ?_; rintro e w1_ ⟨rfl, hb1_⟩; rw [HB3.out]; have HW1_ := Lib.hid hb1_; clear hb1_))
          go_meet
          exact ⟨congrArg Value.bool (by unfold test4; rw [decide_eq_true HGA.out, HB3.out, decide_eq_false HGB.out]; simp), (HFB.out.to HW1_.out)⟩
    · have HGA := Lib.hid g0
      have vA0 : (((y : Nat) : Int) == ((m1 : Nat) : Int) - 1) = false := by simp; omega
      clear g0
      by_cases g0 : x + 1 = rowLen plan 0
      · have HGB := Lib.hid g0
        have vB0 : ((rowLen plan 0 : Nat) : Int) - 1 = (x : Int) := by omega
        clear g0 hM1
        obtain ⟨bo_, hbo⟩ : ∃ b_, b_ = bordB bs 2 y ((tk ts i).get 2) := ⟨_, rfl⟩
        have HB2 := Lib.hid hbo.symm; clear hbo
        rcases bo_ with _ | _
        · skip
          go_wp2_with (first | (go_at_call 94; with_reducible refine (border_lit 2 rfl (some ⟨bb, bo, none⟩) bs 4 c2 2 y w.heap.size F t2b ((tk ts i).get 2) w4 HM2.out HBS.out (by omega) (by omega) (by have := HBL.out 2 (by omega); simp at this; have := HX.out; have := HY.out; omega) a1 q3 a5 (by omega)).mono ?_; rintro e w2_ ⟨rfl, hb2_⟩; rw [HB2.out]; have HW2_ := Lib.hid hb2_; clear hb2_))
          go_meet
          exact ⟨congrArg Value.bool (by unfold test4; rw [decide_eq_false HGA.out, decide_eq_true HGB.out, HB2.out]; simp), (HFB.out.to HW2_.out)⟩
        · skip
          go_wp2_with (first | (go_at_call 94; with_reducible refine (border_lit 2 rfl (some ⟨bb, bo, none⟩) bs 4 c2 2 y w.heap.size F t2b ((tk ts i).get 2) w4 HM2.out HBS.out (by omega) (by omega) (by have := HBL.out 2 (by omega); simp at this; have := HX.out; have := HY.out; omega) a1 q3 a5 (by omega)).mono ?_; rintro e w2_ ⟨rfl, hb2_⟩; rw [HB2.out]; have HW2_ := Lib.hid hb2_; clear hb2_))
          go_meet
          exact ⟨congrArg Value.bool (by unfold test4; rw [decide_eq_false HGA.out, decide_eq_true HGB.out, HB2.out]; simp), (HFB.out.to HW2_.out)⟩
      · have HGB := Lib.hid g0
        have vB0 : (((x : Nat) : Int) == ((rowLen plan 0 : Nat) : Int) - 1) = false := by simp; omega
        clear g0 hM1
        go_wp2_with (fail)
        go_meet
        exact ⟨congrArg Value.bool (by unfold test4; rw [decide_eq_false HGA.out, decide_eq_false HGB.out]; simp), HFB.out⟩
  case rest =>
  clear hfb
  obtain ⟨rfl, hfb⟩ := hcut
  obtain ⟨bp, hP⟩ : ∃ b_, b_ = test4 plan bs (tk ts i) y x := ⟨_, rfl⟩
  rw [← hP]
  have HP4 := Lib.hid hP; clear hP
  rcases bp with _ | _
  rotate_left
  · go_wp2_with fail
    go_ret2
    exact ⟨congrArg Ending.returned (out_none (HBAD.out (.inr (.inr (.inr HP4.out.symm))))), hfb.be⟩
  have HR_ := Lib.hid (HGOOD.out HP.out.symm HP2.out.symm HP3.out.symm HP4.out.symm)
  go_upto_region 14 with fail
  obtain ⟨w4, rfl⟩ : ∃ w_, w_ = wc := ⟨_, rfl⟩
  have a1 := hfb.f; have a2 := hfb.s; have a3 := hfb.t0; have a4 := hfb.t1; have a5 := hfb.t2; have a6 := hfb.t3; have a7 := hfb.c
  have HFB := Lib.hid hfb
  have q1 := cell_to hfb.be HQ1.out; have q2 := cell_to hfb.be HQ2.out; have q3 := cell_to hfb.be HQ3.out; have q4 := cell_to hfb.be HQ4.out; have q5 := cell_to hfb.be HQ5.out
  have HBS := Lib.hid (HA2.out.below hfb.be); have HPW := Lib.hid (HA3.out.below hfb.be)
  have l1 := World.block_lt_of_cell? w4 _ a1; have l2 := World.block_lt_of_cell? w4 _ a2; have l3 := World.block_lt_of_cell? w4 _ a3; have l7 := World.block_lt_of_cell? w4 _ a7; have lq := World.block_lt_of_cell? w4 _ q1
  simp only at l1 l2 l3 l7 lq
  clear hfb
  have hd3 : (dig cn s x : Nat) < cn := Nat.mod_lt _ HCN.out
  have hd4 : (dig cn s (rowLen plan 0) : Nat) < cn := Nat.mod_lt _ HCN.out
  have hg2 : (toS (tk ts i)).f2 = (tk ts i).get 2 := rfl
  have hg3 : (toS (tk ts i)).f3 = (tk ts i).get 3 := rfl
  obtain ⟨X, E, G, eX, eE, eG, bX, bE, bG, hn1, hn2⟩ := HNB.out
  rw [hg2] at eG
  rw [hg3] at eX
  have hc3 := hcolI.2.2.2
  have hc2 := hcolI.2.2.1
  rw [hg2] at hc2
  rw [hg3] at hc3
  obtain ⟨_, _, e1, -, x1⟩ := HPW.out x (by omega)
  injection e1 with e1; injection e1 with e4 e5; subst e4 e5
  obtain ⟨_, _, e1, -, x2⟩ := HPW.out (rowLen plan 0) (by omega)
  injection e1 with e1; injection e1 with e4 e5; subst e4 e5
  rw [HPK.out x (by omega)] at x1
  rw [HPK.out _ (Nat.le_refl _)] at x2
  have HP1 := Lib.hid (HPK.out x (by omega)); have HP2_ := Lib.hid (HPK.out (rowLen plan 0) (Nat.le_refl _))
  have n0x : ((cn ^ x : Nat) : Int) ≠ 0 := nat_ne0 (Nat.pow_pos HCN.out)
  have n0w : ((cn ^ rowLen plan 0 : Nat) : Int) ≠ 0 := nat_ne0 (Nat.pow_pos HCN.out)
  have hd3' : (0 : Int) ≤ ((dig cn s x : Nat) : Int) ∧ ((dig cn s x : Nat) : Int) < 7 := by omega
  have hd4' : (0 : Int) ≤ ((dig cn s (rowLen plan 0) : Nat) : Int) ∧ ((dig cn s (rowLen plan 0) : Nat) : Int) < 7 := by omega
  have hc3' : 0 ≤ (tk ts i).get 3 ∧ (tk ts i).get 3 < 7 := by omega
  clear hc2 hc3 hd3 hd4 hg2 hg3
  have hdx := HD.out x
  have hdw := HD.out (rowLen plan 0)
  generalize ((dig cn s x : Nat) : Int) = Dx at *
  generalize ((dig cn s (rowLen plan 0) : Nat) : Int) = Dw at *
  generalize ((cn ^ x : Nat) : Int) = Bx at *
  generalize ((cn ^ rowLen plan 0 : Nat) : Int) = Bw at *
  have HDX := Lib.hid hdx; have HDW := Lib.hid hdw; have HNX := Lib.hid n0x; have HNW := Lib.hid n0w; have HN1 := Lib.hid hn1; have HN2 := Lib.hid hn2
  clear hdx hdw n0x n0w hn1 hn2
  have lw := World.block_lt_of_cell? w4 _ x1
  simp only at lw
  have j6 : (x : Int) < m3 := by have := HM3.out; omega
  have j7 : ((rowLen plan 0 : Nat) : Int) < m3 := by have := HM3.out; omega
  have HGX := Lib.hid eG; clear eG
  refine wp_region_gro (by kernel_rfl) (by kernel_rfl) ?_
  repeat (first | go_big_quiet_step ((first | (go_at_call_of 95 (rowLen plan 0); exact quiet_call (by have h := digit_any (some ⟨wb, wo, none⟩) pw m3 c3 (rowLen plan 0) (w.heap.size + 1) w.heap.size F cb (s : Int) C Bw (gro w4 ‹GP›) HM3.out (HPW.out.below (gro_below w4 _)) (by have := HM3.out; omega) (by omega) (cell_to (gro_below w4 _) a2) (cell_to (gro_below w4 _) a1) (cell_to (gro_below w4 _) q4) (cell_to (gro_below w4 _) a7) HP2_.out HNW.out HC0.out; rw [HDW.out] at h; exact h)) | (go_at_call 95; exact quiet_call (by have h := digit_any (some ⟨wb, wo, none⟩) pw m3 c3 x (w.heap.size + 1) w.heap.size F cb (s : Int) C Bx (gro w4 ‹GP›) HM3.out (HPW.out.below (gro_below w4 _)) (by have := HM3.out; omega) (by omega) (cell_to (gro_below w4 _) a2) (cell_to (gro_below w4 _) a1) (cell_to (gro_below w4 _) q4) (cell_to (gro_below w4 _) a7) HP1.out HNX.out HC0.out; rw [HDX.out] at h; exact h)))) | quiet_step ((first | (go_at_call_of 95 (rowLen plan 0); exact quiet_call (by have h := digit_any (some ⟨wb, wo, none⟩) pw m3 c3 (rowLen plan 0) (w.heap.size + 1) w.heap.size F cb (s : Int) C Bw (gro w4 ‹GP›) HM3.out (HPW.out.below (gro_below w4 _)) (by have := HM3.out; omega) (by omega) (cell_to (gro_below w4 _) a2) (cell_to (gro_below w4 _) a1) (cell_to (gro_below w4 _) q4) (cell_to (gro_below w4 _) a7) HP2_.out HNW.out HC0.out; rw [HDW.out] at h; exact h)) | (go_at_call 95; exact quiet_call (by have h := digit_any (some ⟨wb, wo, none⟩) pw m3 c3 x (w.heap.size + 1) w.heap.size F cb (s : Int) C Bx (gro w4 ‹GP›) HM3.out (HPW.out.below (gro_below w4 _)) (by have := HM3.out; omega) (by omega) (cell_to (gro_below w4 _) a2) (cell_to (gro_below w4 _) a1) (cell_to (gro_below w4 _) q4) (cell_to (gro_below w4 _) a7) HP1.out HNX.out HC0.out; rw [HDX.out] at h; exact h)))))
  refine wpQuiet_nil ?_
  intro w5 hB5
  have HF5 := Lib.hid (HFB.out.to hB5)
  have HW5 := Lib.hid hB5
  by_cases g0 : x + 1 < rowLen plan 0
  · have HG := Lib.hid g0
    have vw : decide ((x : Int) < ((rowLen plan 0 : Nat) : Int) - 1) = true := decide_eq_true (by omega)
    have vw2 : (x : Int) < ((rowLen plan 0 : Nat) : Int) - 1 := by omega
    clear g0
    go_upto_region 16 with fail
    replace a1 := cell_to hB5 a1; replace a5 := cell_to hB5 a5; replace q4 := cell_to hB5 q4; replace x2 := cell_to hB5 x2
    replace l1 := lt_to hB5 l1; replace l3 := lt_to hB5 l3; replace lq := lt_to hB5 lq; replace lw := lt_to hB5 lw
    have eG := HGX.out
    clear a2 a3 a4 a6 a7 q1 q2 q3 q5 x1 hB5 HFB
    refine wp_region_gro (by kernel_rfl) (by kernel_rfl) ?_
    repeat (first | go_big_quiet_step (fail) | quiet_step (fail))
    refine wpQuiet_nil ?_
    intro w6 hB6
    go_wp2_with fail
    go_ret2
    exact ⟨congrArg Ending.returned (out_some HR_.out (HN1.out HG.out).symm), (HF5.out.to hB6).be⟩
  · have HG := Lib.hid g0
    have vw : decide ((x : Int) < ((rowLen plan 0 : Nat) : Int) - 1) = false := decide_eq_false (by omega)
    have vw2 : ¬ (x : Int) < ((rowLen plan 0 : Nat) : Int) - 1 := by omega
    clear g0
    go_wp2_with fail
    go_ret2
    exact ⟨congrArg Ending.returned (out_some HR_.out (HN2.out HG.out).symm), HF5.out.be⟩
end Go.Proofs.Ytcaikaflpmaocaa
namespace Go.Proofs.Ytcaikaflpmaocaa
open Go Go.RowKit Go.Proofs Go.Proofs.YtcaikaflpmaocaaW.PrintWords Go.Proofs.YtcaikaflpmaocaaW.PrintLast Go.Proofs.YtcaikaflpmaocaaW.PrintMore Go.Proofs.Ytcaikaflpmaocaa.Q
set_option linter.unusedVariables false
set_option linter.unusedSimpArgs false
set_option maxHeartbeats 4000000 in
set_option maxRecDepth 100000 in
theorem size_any (A1 : Option Addr) (plan : List (List Int)) (m1 c1 F : Nat) (w : World) (hm1 : m1 = plan.length) (hA1 : RR w A1 plan) (h1 : 1 ≤ plan.length) (h5 : plan.length ≤ 5) (w5 : rowLen plan 0 ≤ 5)
    (hF : w.cell? ⟨F, 2, none⟩ = some (.slice A1 m1 c1)) :
    Calls Try.prog 74 #[.pointer (some ⟨F, 0, none⟩)] w fun e w' => e = .returned (.int .i64 (places plan : Nat)) ∧ Below w.heap.size w w' := by
  obtain ⟨pb, po, PA, pc, rfl, hpb, p0, -, -, -⟩ := hA1 0 (by omega)
  rw [Nat.add_zero] at p0
  have lF := World.block_lt_of_cell? w _ hF
  simp only at lF
  have j1 : (0 : Int) < m1 := by omega
  have j2 : 0 < m1 := by omega
  have HM := Lib.hid hm1
  have hmul : (m1 : Int) * ((rowLen plan 0 : Nat) : Int) = ((places plan : Nat) : Int) := by rw [hm1]; unfold places; push_cast; rfl
  have hb : (places plan : Int) ≤ 25 := by unfold places; exact Int.ofNat_le.2 (Nat.mul_le_mul h5 w5)
  clear hm1
  have m5 : m1 ≤ 5 := by have := HM.out; omega
  go_enter Try.func74, Try.ntmps74
  go_wp2_with fail
  refine wp_region_gro (by kernel_rfl) (by kernel_rfl) ?_
  repeat (first | go_big_quiet_step (fail) | quiet_step (fail))
  refine wpQuiet_nil ?_
  intro w5_ hB5
  go_wp2_with fail
  go_ret
  exact ⟨by first | rfl | simp [hmul], hB5⟩
attribute [local go_sem] max2_int min2_int max_two min_two
end Go.Proofs.Ytcaikaflpmaocaa
namespace Go.Proofs.Ytcaikaflpmaocaa
open Go Go.RowKit Go.Proofs Go.Proofs.YtcaikaflpmaocaaW.PrintWords Go.Proofs.YtcaikaflpmaocaaW.PrintLast Go.Proofs.YtcaikaflpmaocaaW.PrintMore Go.Proofs.Ytcaikaflpmaocaa.Q
set_option linter.unusedVariables false
set_option linter.unusedSimpArgs false
theorem S_put_row {e e2 base g n cap i : Nat} {W : World} {ok okg : Nat → Prop} {rows : List (List Bool)} {u : Value} {row : List Bool}
    (h : Kd.S (Kd.slice e Kd.bool) e2 W base (fun k => ok k ∧ ¬ okg k) (.slice (some ⟨g, 0, none⟩) n cap) rows) (hi : i < n) (hM : Kd.R Kd.bool e W base okg u row) (hg : ∀ k, okg k → ok k ∧ k ≠ g) :
    Kd.S (Kd.slice e Kd.bool) e2 (W.setCell ⟨g, i, none⟩ u) base ok (.slice (some ⟨g, 0, none⟩) n cap) (rows.set i row) ∧ W.grownBy (W.setCell ⟨g, i, none⟩ u) (some g) := by
  obtain ⟨oki, c, hcl, -, -, -, hH⟩ := Kd.S_lend h [] (i : Int) (by omega) (by omega)
  have hc1 : c.length = 1 := hcl
  have h2 := Kd.S_seg hH (by omega) (by omega) (seg := [u]) (j := 0) (x' := row) (okp := okg) (by show 0 + 1 ≤ 1; omega)
    (by
      have e : c.take 0 ++ [u] ++ c.drop (0 + [u].length) = [u] := by simp [List.drop_eq_nil_of_le (show c.length ≤ 1 by omega)]
      rw [e]
      exact Kd.M_row hM) (fun k hk => .inr hk) hg
  have e3 : (W.setCells g ((i : Int).toNat * (Kd.slice e Kd.bool).sz + 0) [u]) = W.setCell ⟨g, i, none⟩ u := by
    have e4 : (i : Int).toNat * (Kd.slice e Kd.bool).sz + 0 = i := by rw [Int.toNat_natCast]; show i * 1 + 0 = i; omega
    rw [e4]; rfl
  rw [e3, Int.toNat_natCast] at h2
  exact h2
theorem rdOf_getD {α : Type} (d : α) (xs : List α) (j : Nat) : rdOf d xs (j : Int) = xs.getD j d := by
  unfold rdOf
  simp
theorem S_put_cell {e e2 base g n cap i j : Nat} {W : World} {ok : Nat → Prop} {rows : List (List Bool)}
    (h : Kd.S (Kd.slice e Kd.bool) e2 W base ok (.slice (some ⟨g, 0, none⟩) n cap) rows) (hi : i < n) (hj : j < (rows.getD i []).length) :
    ∃ gr cr, W.cell? ⟨g, i, none⟩ = some (.slice (some ⟨gr, 0, none⟩) (rows.getD i []).length cr) ∧ W.cell? ⟨gr, j, none⟩ = some (.bool ((rows.getD i []).getD j false)) ∧ W.frozen? ⟨gr, j, none⟩ = false ∧ base ≤ gr ∧ gr < W.heap.size ∧ ok gr ∧
      ∀ b : Bool, Kd.S (Kd.slice e Kd.bool) e2 (W.setCell ⟨gr, j, none⟩ (.bool b)) base ok (.slice (some ⟨g, 0, none⟩) n cap) (rows.set i ((rows.getD i []).set j b)) := by
  obtain ⟨oki, c, hcl, hM, hcc, hoki, hback⟩ := Kd.S_borrow h [] (i : Int) (by omega) (by omega)
  obtain ⟨v, rfl, hR⟩ := hM
  rw [Int.toNat_natCast] at hR hcc hback
  obtain ⟨gr, cr, rfl, hb⟩ := Kd.R_form hR (by omega)
  have hz := hcc 0 _ (by rfl)
  have e4 : (⟨g, 0, none⟩ : Addr).add (i * (Kd.slice e Kd.bool).sz + 0) = ⟨g, i, none⟩ := by
    rw [add_at]
    exact congrArg (fun k => (⟨g, k, none⟩ : Addr)) (by show 0 + (i * 1 + 0) = i; omega)
  rw [e4] at hz
  obtain ⟨x1, x2⟩ := Kd.R_celln false hR (j : Int) (by omega) (by omega)
  rw [Int.toNat_natCast, rdOf_getD] at x1
  rw [Int.toNat_natCast] at x2
  have hown : some gr = (Value.slice (some ⟨gr, 0, none⟩) (rows.getD i []).length cr).ownBlock := by simp [Value.ownBlock]
  refine ⟨gr, cr, hz, x1, x2, Kd.R_base hR gr hown.symm, Kd.R_lt hR gr hown.symm, (hoki gr (hR.1 gr hown.symm)).1, fun b => ?_⟩
  obtain ⟨p1, p2⟩ := Kd.R_putg hR (j : Int) b
  rw [Int.toNat_natCast] at p1 p2
  exact hback p2 (fun k hk => by injection hk with hk; subst hk; exact hR.1 gr hown.symm) (Kd.M_row p1)
def RB (w : World) (g : Nat) (rows : List (List Bool)) : Prop :=
  ∀ i j, i < rows.length → j < (rows.getD i []).length → ∃ gr cr, g < w.heap.size ∧ gr < w.heap.size ∧ w.cell? ⟨g, i, none⟩ = some (.slice (some ⟨gr, 0, none⟩) (rows.getD i []).length cr) ∧ w.cell? ⟨gr, j, none⟩ = some (.bool ((rows.getD i []).getD j false))
theorem RB.below {w w' : World} {g : Nat} {rows : List (List Bool)} (h : RB w g rows) (hb : Below w.heap.size w w') : RB w' g rows := by
  intro i j hi hj
  obtain ⟨gr, cr, l1, l2, c1, c2⟩ := h i j hi hj
  have := hb.size
  exact ⟨gr, cr, by omega, by omega, cell_to hb c1, cell_to hb c2⟩
theorem rb_of_S {e e2 base g cap : Nat} {W : World} {ok : Nat → Prop} {rows : List (List Bool)} (h : Kd.S (Kd.slice e Kd.bool) e2 W base ok (.slice (some ⟨g, 0, none⟩) rows.length cap) rows) : RB W g rows := by
  intro i j hi hj
  obtain ⟨gr, cr, c1, c2, -, -, l2, -⟩ := S_put_cell h hi hj
  have hown : some g = (Value.slice (some ⟨g, 0, none⟩) rows.length cap).ownBlock := by simp [Value.ownBlock]
  exact ⟨gr, cr, Kd.S_lt h g hown.symm, l2, c1, c2⟩
def onB (T : Nx) (n P p s : Nat) : Bool := decide (0 < onw T n (P - p) p s)
def alvAt (T : Nx) (n sz P p s : Nat) : Bool := !decide (ik (fwd T n sz p) s = 0) && onB T n P p s
def alvTo (T : Nx) (n sz P p m : Nat) : List Bool := (List.range sz).map fun a => decide (a < m) && alvAt T n sz P p a
def alvRow (T : Nx) (n sz P p : Nat) : List Bool := (List.range sz).map fun a => alvAt T n sz P p a
def alvL (T : Nx) (n sz P p : Nat) : List (List Bool) := (List.range (P + 1)).map fun k => if k < p then [] else alvRow T n sz P k
theorem alvTo_len (T : Nx) (n sz P p m : Nat) : (alvTo T n sz P p m).length = sz := by simp [alvTo]
theorem alvRow_len (T : Nx) (n sz P p : Nat) : (alvRow T n sz P p).length = sz := by simp [alvRow]
theorem alvL_len (T : Nx) (n sz P p : Nat) : (alvL T n sz P p).length = P + 1 := by simp [alvL]
theorem alvTo_zero (T : Nx) (n sz P p : Nat) : alvTo T n sz P p 0 = List.replicate sz false := by
  apply List.ext_getElem
  · simp [alvTo]
  · intro i h1 h2; simp [alvTo]
theorem alvTo_all (T : Nx) (n sz P p : Nat) : alvTo T n sz P p sz = alvRow T n sz P p := by
  apply List.map_congr_left
  intro a ha
  rw [decide_eq_true (List.mem_range.1 ha), Bool.true_and]
theorem alvTo_set (T : Nx) (n sz P p s : Nat) : (alvTo T n sz P p s).set s (alvAt T n sz P p s) = alvTo T n sz P p (s + 1) := by
  apply List.ext_getElem
  · simp [alvTo]
  · intro i h1 h2
    rw [List.getElem_set]
    simp only [alvTo, List.getElem_map, List.getElem_range]
    by_cases hi : s = i
    · subst hi; simp
    · rw [if_neg hi]
      congr 1
      exact decide_eq_decide.2 (by omega)
theorem alvTo_dead (T : Nx) (n sz P p s : Nat) (h : ik (fwd T n sz p) s = 0) : alvTo T n sz P p s = alvTo T n sz P p (s + 1) := by
  apply List.map_congr_left
  intro a _
  by_cases hi : a = s
  · subst hi; simp [alvAt, h]
  · congr 1
    exact decide_eq_decide.2 (by omega)
theorem alvL_top (T : Nx) (n sz P : Nat) : alvL T n sz P (P + 1) = List.replicate (P + 1) [] := by
  apply List.ext_getElem
  · simp [alvL]
  · intro i h1 h2
    have h3 : i < P + 1 := by simpa [alvL] using h1
    simp [alvL, h3]
theorem alvL_set (T : Nx) (n sz P p : Nat) : (alvL T n sz P (p + 1)).set p (alvRow T n sz P p) = alvL T n sz P p := by
  apply List.ext_getElem
  · simp [alvL]
  · intro i h1 h2
    rw [List.getElem_set]
    simp only [alvL, List.getElem_map, List.getElem_range]
    by_cases hi : p = i
    · subst hi; simp
    · rw [if_neg hi]
      by_cases h : i < p
      · rw [if_pos h, if_pos (by omega)]
      · rw [if_neg h, if_neg (by omega)]
theorem alvL_get (T : Nx) (n sz P p k : Nat) (hk : k ≤ P) (h : p ≤ k) : (alvL T n sz P p).getD k [] = alvRow T n sz P k := by
  simp only [alvL, List.getD_eq_getElem?_getD, List.getElem?_map, List.getElem?_range (show k < P + 1 by omega), Option.map_some, Option.getD_some]
  rw [if_neg (by omega)]
theorem alvRow_get (T : Nx) (n sz P p s : Nat) (h : s < sz) : (alvRow T n sz P p).getD s false = alvAt T n sz P p s := by
  simp [alvRow, List.getD_eq_getElem?_getD, List.getElem?_range h]
def hit (T : Nx) (n sz P p : Nat) : Option Nat → Bool
  | none => false
  | some b => alvAt T n sz P (p + 1) b
def anyT (T : Nx) (n sz P p s j : Nat) : Bool := (List.range j).any fun i => hit T n sz P p (T p s i)
theorem anyT_zero (T : Nx) (n sz P p s : Nat) : anyT T n sz P p s 0 = false := rfl
theorem anyT_succ (T : Nx) (n sz P p s j : Nat) : anyT T n sz P p s (j + 1) = (anyT T n sz P p s j || hit T n sz P p (T p s j)) := by
  simp [anyT, List.range_succ, List.any_append]
theorem anyT_mono (T : Nx) (n sz P p s j m : Nat) (h : anyT T n sz P p s j = true) (hm : j ≤ m) : anyT T n sz P p s m = true := by
  unfold anyT at h ⊢
  rw [List.any_eq_true] at h ⊢
  obtain ⟨i, hi, h2⟩ := h
  exact ⟨i, List.mem_range.2 (by have := List.mem_range.1 hi; omega), h2⟩
theorem anyT_on (T : Nx) (n sz P p s : Nat) (hst : ∀ j, Stay T n sz j) (hs : s < sz) (hp : p < P) (h0 : ik (fwd T n sz p) s ≠ 0) : anyT T n sz P p s n = alvAt T n sz P p s := by
  have hpos : 0 < (fwd T n sz p).getD s 0 := by
    have h1 := (bd_fwd T n sz p (fun j _ => hst j)) s
    have e : ik (fwd T n sz p) s = (fwd T n sz p).getD s 0 := rfl
    rw [e] at h0
    omega
  have e1 : alvAt T n sz P p s = onB T n P p s := by simp [alvAt, h0]
  rw [e1, onB, show P - p = (P - (p + 1)) + 1 by omega, Bool.eq_iff_iff, decide_eq_true_eq, onw_pos]
  unfold anyT
  rw [List.any_eq_true]
  constructor
  · rintro ⟨i, hi, h⟩
    refine ⟨i, List.mem_range.1 hi, ?_⟩
    cases hb : T p s i with
    | none => rw [hb] at h; cases h
    | some b =>
      rw [hb] at h
      simp only [hit, alvAt, Bool.and_eq_true] at h
      exact ⟨b, rfl, by simpa [onB] using h.2⟩
  · rintro ⟨i, hi, b, hb, h⟩
    refine ⟨i, List.mem_range.2 hi, ?_⟩
    have h2 := fwd_pos T n sz p s i b (fun j _ => hst j) hs hi hb hpos
    have e : ik (fwd T n sz (p + 1)) b = (fwd T n sz (p + 1)).getD b 0 := rfl
    simp only [hb, hit, alvAt, onB, Bool.and_eq_true, Bool.not_eq_true', decide_eq_false_iff_not, decide_eq_true_eq]
    exact ⟨by rw [e]; omega, h⟩
theorem foldT_len (now : List Int) (L : List STile) : ∀ acc : List Int, (L.foldl (capT now) acc).length = acc.length := by
  induction L with
  | nil => intro acc; rfl
  | cons t L ih => intro acc; rw [List.foldl_cons, ih, capT_len]
theorem edgesOf_fine {T : Nx} {n c p s j : Nat} (hst : Stay T n c p) (hs : s < c) (hj : j ≤ n) : Fine c (edgesOf T p s (List.range j)) := by
  intro t ht
  simp only [edgesOf, List.mem_filterMap, List.mem_range, Option.map_eq_some_iff] at ht
  obtain ⟨i, hi, b, hb, rfl⟩ := ht
  have := hst s i b hs (by omega) hb
  simp only [edge]
  omega
theorem edgesOf_from {T : Nx} {p s : Nat} {js : List Nat} {t : STile} (ht : t ∈ edgesOf T p s js) : t.f0.toNat = s := by
  simp only [edgesOf, List.mem_filterMap, Option.map_eq_some_iff] at ht
  obtain ⟨i, hi, b, hb, rfl⟩ := ht
  simp [edge]
def uptoN (T : Nx) (n c p s j : Nat) : List Int := (edgesTo T n p s ++ edgesOf T p s (List.range j)).foldl (capT (fwd T n c p)) (List.replicate c 0)
theorem uptoN_zero (T : Nx) (n c p s : Nat) : uptoN T n c p s 0 = (edgesTo T n p s).foldl (capT (fwd T n c p)) (List.replicate c 0) := by simp [uptoN, edgesOf]
theorem uptoN_all (T : Nx) (n c p s : Nat) : uptoN T n c p s n = uptoN T n c p (s + 1) 0 := by rw [uptoN_zero, edgesTo_succ]; rfl
theorem uptoN_end (T : Nx) (n c p : Nat) : uptoN T n c p c 0 = fwd T n c (p + 1) := by rw [uptoN_zero, fwd_succ]; rfl
theorem uptoN_start (T : Nx) (n c p : Nat) : uptoN T n c p 0 0 = List.replicate c 0 := by simp [uptoN, edgesOf, edgesTo]
theorem uptoN_bd {T : Nx} {n c p s j : Nat} (hst : ∀ q, Stay T n c q) (hs : s < c) (hj : j ≤ n) : Bd (uptoN T n c p s j) := by
  refine bd_fold (c := c) (bd_fwd T n c p (fun q _ => hst q)) _ ?_ _ (bd_zero c) (by simp)
  intro t ht
  rcases List.mem_append.1 ht with h | h
  · exact edgesTo_fine (hst p) (by omega) t h
  · exact edgesOf_fine (hst p) hs hj t h
theorem uptoN_dead {T : Nx} {n c p s j : Nat} (hst : ∀ q, Stay T n c q) (hs : s < c) (hj : j ≤ n) (h0 : ik (fwd T n c p) s = 0) : uptoN T n c p s j = uptoN T n c p (s + 1) 0 := by
  have hn := bd_fwd T n c p (fun q _ => hst q)
  have hb := bd_fold (c := c) hn (edgesTo T n p s) (edgesTo_fine (hst p) (Nat.le_of_lt hs)) _ (bd_zero c) (by simp)
  have hl : ((edgesTo T n p s).foldl (capT (fwd T n c p)) (List.replicate c 0)).length = c := by rw [foldT_len, List.length_replicate]
  rw [uptoN_zero, edgesTo_succ, uptoN, List.foldl_append, List.foldl_append, fold_zero _ (edgesOf_fine (hst p) hs hj) (fun t ht => by rw [edgesOf_from ht]; exact h0) _ hb hl,
    fold_zero _ (edgesOf_fine (hst p) hs (Nat.le_refl n)) (fun t ht => by rw [edgesOf_from ht]; exact h0) _ hb hl]
theorem uptoN_none {T : Nx} {n c p s j : Nat} (h : T p s j = none) : uptoN T n c p s (j + 1) = uptoN T n c p s j := by
  have e : edgesOf T p s [j] = [] := by simp [edgesOf, h]
  rw [uptoN, uptoN, edgesOf_succ, e, List.append_nil]
theorem uptoN_some {T : Nx} {n c p s j b : Nat} (h : T p s j = some b) : uptoN T n c p s (j + 1) = (uptoN T n c p s j).set b (cap ((uptoN T n c p s j).getD b 0 + ik (fwd T n c p) s)) := by
  have e : edgesOf T p s [j] = [edge s b] := by simp [edgesOf, h]
  rw [uptoN, edgesOf_succ, e, ← List.append_assoc, List.foldl_append, List.foldl_cons, List.foldl_nil]
  show capT _ (uptoN T n c p s j) _ = _
  rw [capT, rd_at (by simp [edge]), rd_at (by simp [edge])]
  simp only [edge, Int.toNat_natCast]
  rfl
theorem onB_top (T : Nx) (n P s : Nat) : onB T n P P s = true := by
  unfold onB
  rw [Nat.sub_self]
  rfl
def nowT (T : Nx) (n sz P p s j : Nat) : Bool := decide (p = P) || anyT T n sz P p s j
theorem nowT_zero (T : Nx) (n sz P p s : Nat) : nowT T n sz P p s 0 = decide (p = P) := by rw [nowT, anyT_zero, Bool.or_false]
theorem nowT_succ (T : Nx) (n sz P p s j : Nat) : nowT T n sz P p s (j + 1) = (nowT T n sz P p s j || hit T n sz P p (T p s j)) := by rw [nowT, nowT, anyT_succ, Bool.or_assoc]
theorem nowT_top (T : Nx) (n sz P p s j : Nat) (h : p = P) : nowT T n sz P p s j = true := by rw [nowT, decide_eq_true h, Bool.true_or]
theorem alv_done {T : Nx} {n sz P p s j : Nat} (hst : ∀ q, Stay T n sz q) (hs : s < sz) (hp : p ≤ P) (h0 : ik (fwd T n sz p) s ≠ 0) (hj : j ≤ n) (hv : nowT T n sz P p s j = true ∨ j = n) :
    (alvTo T n sz P p s).set s (nowT T n sz P p s j) = alvTo T n sz P p (s + 1) := by
  rw [← alvTo_set]
  congr 1
  unfold nowT at hv ⊢
  by_cases h : p = P
  · subst h; simp [alvAt, onB_top, h0]
  · rw [decide_eq_false h, Bool.false_or] at hv ⊢
    have h2 := anyT_on T n sz P p s hst hs (by omega) h0
    rcases hv with hv | hv
    · rw [hv, ← h2, anyT_mono T n sz P p s j n hv hj]
    · rw [hv, h2]
end Go.Proofs.Ytcaikaflpmaocaa
namespace Go.Proofs.Ytcaikaflpmaocaa
open Go Go.RowKit Go.Proofs Go.Proofs.YtcaikaflpmaocaaW.PrintWords Go.Proofs.YtcaikaflpmaocaaW.PrintLast Go.Proofs.YtcaikaflpmaocaaW.PrintMore Go.Proofs.Ytcaikaflpmaocaa.Q
set_option linter.unusedVariables false
set_option linter.unusedSimpArgs false
structure PW (w0 W : World) (F : Nat) (C : Int) (A : Option Addr) (n c : Nat) (A1 : Option Addr) (m1 c1 : Nat) (A2 : Option Addr) (m2 c2 : Nat) (pv : Value) (pw : List Int) : Prop where
  be : Below w0.heap.size w0 W
  gF : w0.heap.size ≤ F
  bs : BK W w0.heap.size #[.int .i64 C, .slice A n c] 36
  bf : BK W F #[.int .i64 C, .slice A n c, .slice A1 m1 c1, .slice A2 m2 c2, pv, .slice none 0 0, .slice none 0 0] 65
  row : Kd.R (Kd.int .i64) 2 W w0.heap.size (fun _ => True) pv pw
theorem PW.to {w0 W W1 : World} {F : Nat} {C : Int} {A : Option Addr} {n c : Nat} {A1 : Option Addr} {m1 c1 : Nat} {A2 : Option Addr} {m2 c2 : Nat} {pv : Value} {pw : List Int} (h : PW w0 W F C A n c A1 m1 c1 A2 m2 c2 pv pw) (hb : Below W.heap.size W W1) : PW w0 W1 F C A n c A1 m1 c1 A2 m2 c2 pv pw :=
  ⟨below_to h.be hb, h.gF, (hb.block _ h.bs.lt).trans h.bs, (hb.block _ h.bf.lt).trans h.bf, Kd.R_below h.row hb⟩
theorem RI.keep {w w' : World} {A : Option Addr} {xs : List Int} (h : RI w A xs) (hk : ∀ k, k < w.heap.size → w'.heap[k]? = w.heap[k]?) (hs : w.heap.size ≤ w'.heap.size) : RI w' A xs := by
  intro k hx
  obtain ⟨b, o, e, hb, hc⟩ := h k hx
  refine ⟨b, o, e, by omega, ?_⟩
  unfold World.cell? at hc ⊢
  simp only at hc ⊢
  rw [hk b hb]
  exact hc
theorem one_row {W : World} {base g e : Nat} {x : Int} (h : BK W g #[.int .i64 x] e) (hb : base ≤ g) : Kd.R (Kd.int .i64) e W base (fun _ => True) (.slice (some ⟨g, 0, none⟩) 1 1) [x] :=
  Kd.R_of_own ⟨rfl, .inr ⟨g, 1, #[.int .i64 x], rfl, hb, h, Nat.le_refl 1, by decide, rfl, rfl⟩⟩ (fun _ _ => trivial)
structure FW (w0 W : World) (N M F : Nat) (C : Int) (A : Option Addr) (n c : Nat) (A1 : Option Addr) (m1 c1 : Nat) (A2 : Option Addr) (m2 c2 : Nat) (pv cv : Value) (pw : List Int) (cs : List (List Int)) : Prop where
  be : Below w0.heap.size w0 W
  gF : w0.heap.size ≤ F
  lF : F < N
  lN : N ≤ M
  lM : M ≤ W.heap.size
  bs : BK W w0.heap.size #[.int .i64 C, .slice A n c] 36
  bf : BK W F #[.int .i64 C, .slice A n c, .slice A1 m1 c1, .slice A2 m2 c2, pv, cv, .slice none 0 0] 65
  row : Kd.R (Kd.int .i64) 2 W w0.heap.size (fun k => k < N) pv pw
  cnt : Kd.S (Kd.slice 2 (Kd.int .i64)) 56 W N (fun k => k < M) cv cs
theorem FW.keep {w0 W W1 : World} {N M F : Nat} {C : Int} {A : Option Addr} {n c : Nat} {A1 : Option Addr} {m1 c1 : Nat} {A2 : Option Addr} {m2 c2 : Nat} {pv cv : Value} {pw : List Int} {cs : List (List Int)} (h : FW w0 W N M F C A n c A1 m1 c1 A2 m2 c2 pv cv pw cs)
    (hb : Below w0.heap.size w0 W1) (hk : ∀ k, k < M → W1.heap[k]? = W.heap[k]?) (hM : M ≤ W1.heap.size) : FW w0 W1 N M F C A n c A1 m1 c1 A2 m2 c2 pv cv pw cs :=
  have h1 := h.lF; have h2 := h.lN; have h3 := h.gF
  ⟨hb, h.gF, h.lF, h.lN, hM, (hk _ (by omega)).trans h.bs, (hk _ (by omega)).trans h.bf, Kd.R_move h.row (fun k hk2 => hk k (by omega)), Kd.S_move h.cnt hk⟩
theorem FW.to {w0 W W1 : World} {N M F : Nat} {C : Int} {A : Option Addr} {n c : Nat} {A1 : Option Addr} {m1 c1 : Nat} {A2 : Option Addr} {m2 c2 : Nat} {pv cv : Value} {pw : List Int} {cs : List (List Int)} (h : FW w0 W N M F C A n c A1 m1 c1 A2 m2 c2 pv cv pw cs)
    (hb : Below W.heap.size W W1) : FW w0 W1 N M F C A n c A1 m1 c1 A2 m2 c2 pv cv pw cs :=
  h.keep (below_to h.be hb) (fun k hk => hb.block k (by have := h.lM; omega)) (by have := h.lM; have := hb.size; omega)
theorem FW.rise {w0 W : World} {N M M' F : Nat} {C : Int} {A : Option Addr} {n c : Nat} {A1 : Option Addr} {m1 c1 : Nat} {A2 : Option Addr} {m2 c2 : Nat} {pv cv : Value} {pw : List Int} {cs : List (List Int)} (h : FW w0 W N M F C A n c A1 m1 c1 A2 m2 c2 pv cv pw cs)
    (h1 : M ≤ M') (h2 : M' ≤ W.heap.size) : FW w0 W N M' F C A n c A1 m1 c1 A2 m2 c2 pv cv pw cs :=
  ⟨h.be, h.gF, h.lF, by have := h.lN; omega, h2, h.bs, h.bf, h.row, Kd.S_mono h.cnt (fun k hk => by omega)⟩
theorem FW.far {w0 W : World} {N M F : Nat} {C : Int} {A : Option Addr} {n c : Nat} {A1 : Option Addr} {m1 c1 : Nat} {A2 : Option Addr} {m2 c2 : Nat} {pv cv : Value} {pw : List Int} {cs : List (List Int)} (h : FW w0 W N M F C A n c A1 m1 c1 A2 m2 c2 pv cv pw cs)
    {g : Nat} (hg : M ≤ g) (j : Nat) (u : Value) : FW w0 (W.setCell ⟨g, j, none⟩ u) N M F C A n c A1 m1 c1 A2 m2 c2 pv cv pw cs :=
  have h1 := h.lF; have h2 := h.lN; have h3 := h.gF
  have hb : Below w0.heap.size w0 (W.setCell ⟨g, j, none⟩ u) := h.be.setCell (by show w0.heap.size ≤ g; omega) u
  h.keep hb (fun k hk => Below.heap_setCell W ⟨g, j, none⟩ u k (by show k ≠ g; omega)) (by have := h.lM; simpa using this)
theorem FW.start {w0 W : World} {F : Nat} {C : Int} {A : Option Addr} {n c : Nat} {A1 : Option Addr} {m1 c1 : Nat} {A2 : Option Addr} {m2 c2 : Nat} {pv : Value} {pw : List Int} (h : PW w0 W F C A n c A1 m1 c1 A2 m2 c2 pv pw) :
    FW w0 W W.heap.size W.heap.size F C A n c A1 m1 c1 A2 m2 c2 pv (.slice none 0 0) pw [] :=
  ⟨h.be, h.gF, h.bf.lt, Nat.le_refl _, Nat.le_refl _, h.bs, h.bf, Kd.R_mono (Kd.R_bound h.row) (fun k hk => hk.2.2.1), Kd.S_nil _ _ _ _ _⟩
theorem int_types {q e : Nat} (h : q ∈ e :: (Kd.int .i64).E) : q = e := by
  have e : (Kd.int .i64).E = [] := rfl
  rw [e] at h; simpa using h
theorem FW.app {w0 W w1 : World} {N M F : Nat} {C : Int} {A : Option Addr} {n c : Nat} {A1 : Option Addr} {m1 c1 : Nat} {A2 : Option Addr} {m2 c2 : Nat} {pv cv v1 : Value} {pw row : List Int} {cs : List (List Int)} (h : FW w0 W N M F C A n c A1 m1 c1 A2 m2 c2 pv cv pw cs)
    (hb : Below N W w1) (ho : Kd.S (Kd.slice 2 (Kd.int .i64)) 56 w1 N (fun _ => True) v1 (cs ++ [row])) (hg : W.grownBy w1 cv.ownBlock) :
    FW w0 (w1.setCell ⟨F, 5, none⟩ v1) N w1.heap.size F C A n c A1 m1 c1 A2 m2 c2 pv v1 pw (cs ++ [row]) := by
  have h1 := h.lF; have h2 := h.lN; have h3 := h.gF; have h4 := h.lM
  have hbf : BK w1 F _ 65 := blk_grown h.bf hg (Kd.S_ne h.cnt h.bf (by decide))
  have hbs : BK w1 w0.heap.size _ 36 := blk_grown h.bs hg (Kd.S_ne h.cnt h.bs (by decide))
  have hrow : Kd.R (Kd.int .i64) 2 w1 w0.heap.size (fun k => k < N) pv pw := Kd.R_grown h.row hg (fun k hk e => by have := Kd.S_base h.cnt k e.symm; omega)
  have hty : ∀ q, q ∈ 56 :: (Kd.slice 2 (Kd.int .i64)).E → q ≠ 65 := by
    have e : (Kd.slice 2 (Kd.int .i64)).E = [2] := rfl
    rw [e]; decide
  refine ⟨(h.be.trans (hb.mono (by omega))).setCell h3 _, h3, h1, by have := hb.size; omega, by simp, hbs.set_ne (blk_ne hbs hbf (by decide)) 5 v1, hbf.set 5 v1, Kd.R_set hrow hbf (fun q hq => by rw [int_types hq]; decide) 5 v1, ?_⟩
  exact Kd.S_mono (Kd.S_set (Kd.S_bound ho) hbf hty 5 v1) (fun k hk => hk.2.2.1)
def powL (c k : Nat) : List Int := (List.range (k + 1)).map fun j => ((c ^ j : Nat) : Int)
theorem powL_len (c k : Nat) : (powL c k).length = k + 1 := by simp [powL]
theorem powL_succ (c k : Nat) : powL c (k + 1) = powL c k ++ [((c ^ (k + 1) : Nat) : Int)] := by simp [powL, List.range_succ]
theorem powL_at (c k j : Nat) (h : j ≤ k) : ik (powL c k) j = ((c ^ j : Nat) : Int) := by
  simp [powL, ik, List.getD_eq_getElem?_getD, List.getElem?_range (show j < k + 1 by omega)]
theorem wrapN (k : Nat) (h : k ≤ 35184372088832) : wrap64 (k : Int) = k := wrap_id (by omega) (by omega)
theorem pow_next (c k : Nat) (c6 : c ≤ 6) (hk : k + 1 ≤ 6) : wrap64 (((c ^ k : Nat) : Int) * (c : Int)) = ((c ^ (k + 1) : Nat) : Int) := by
  have h := pow_le c (k + 1) c6 hk
  rw [Nat.pow_succ] at h ⊢
  rw [← Int.natCast_mul]
  generalize c ^ k * c = q at h ⊢
  exact wrap_id (by omega) (by omega)
def cntL (c : Nat) (plan bs : List (List Int)) (l : List STile) (p : Nat) : List (List Int) := (List.range (p + 1)).map fun j => fwd (stepI c plan bs l) l.length (size c plan) j
theorem cntL_len (c : Nat) (plan bs : List (List Int)) (l : List STile) (p : Nat) : (cntL c plan bs l p).length = p + 1 := by simp [cntL]
theorem cntL_succ (c : Nat) (plan bs : List (List Int)) (l : List STile) (p : Nat) : cntL c plan bs l (p + 1) = cntL c plan bs l p ++ [fwd (stepI c plan bs l) l.length (size c plan) (p + 1)] := by simp [cntL, List.range_succ]
theorem cntL_zero (c : Nat) (plan bs : List (List Int)) (l : List STile) : cntL c plan bs l 0 = [(List.replicate (size c plan) 0).set 0 1] := rfl
theorem infoBools : (Try.prog.info? 62).map (fun i => (i.zero, i.size, i.bytes)) = some (some (.slice none 0 0), 1, 24) := by kernel_rfl
theorem infoBool : (Try.prog.info? 4).map (fun i => (i.zero, i.size, i.bytes)) = some (some (.bool false), 1, 1) := by kernel_rfl
structure AW (w0 W : World) (N M F : Nat) (C : Int) (A : Option Addr) (n c : Nat) (A1 : Option Addr) (m1 c1 : Nat) (A2 : Option Addr) (m2 c2 : Nat) (pv cv : Value) (pw : List Int) (cs : List (List Int)) (ga P1 ca : Nat) (rows : List (List Bool)) : Prop where
  be : Below w0.heap.size w0 W
  gF : w0.heap.size ≤ F
  lF : F < N
  lN : N ≤ M
  lM : M ≤ W.heap.size
  bs : BK W w0.heap.size #[.int .i64 C, .slice A n c] 36
  bf : BK W F #[.int .i64 C, .slice A n c, .slice A1 m1 c1, .slice A2 m2 c2, pv, cv, .slice (some ⟨ga, 0, none⟩) P1 ca] 65
  row : Kd.R (Kd.int .i64) 2 W w0.heap.size (fun k => k < N) pv pw
  cnt : Kd.S (Kd.slice 2 (Kd.int .i64)) 56 W N (fun k => k < M) cv cs
  alv : Kd.S (Kd.slice 4 Kd.bool) 62 W M (fun _ => True) (.slice (some ⟨ga, 0, none⟩) P1 ca) rows
section
variable {w0 W W1 : World} {N M F : Nat} {C : Int} {A : Option Addr} {n c : Nat} {A1 : Option Addr} {m1 c1 : Nat} {A2 : Option Addr} {m2 c2 : Nat} {pv cv : Value} {pw : List Int} {cs : List (List Int)} {ga P1 ca : Nat} {rows : List (List Bool)}
theorem AW.keep (h : AW w0 W N M F C A n c A1 m1 c1 A2 m2 c2 pv cv pw cs ga P1 ca rows) {rows1 : List (List Bool)} (hb : Below w0.heap.size w0 W1) (hk : ∀ k, k < M → W1.heap[k]? = W.heap[k]?) (hM : M ≤ W1.heap.size)
    (ha : Kd.S (Kd.slice 4 Kd.bool) 62 W1 M (fun _ => True) (.slice (some ⟨ga, 0, none⟩) P1 ca) rows1) : AW w0 W1 N M F C A n c A1 m1 c1 A2 m2 c2 pv cv pw cs ga P1 ca rows1 :=
  have h1 := h.lF; have h2 := h.lN; have h3 := h.gF
  ⟨hb, h.gF, h.lF, h.lN, hM, (hk _ (by omega)).trans h.bs, (hk _ (by omega)).trans h.bf, Kd.R_move h.row (fun k hk2 => hk k (by omega)), Kd.S_move h.cnt hk, ha⟩
theorem AW.to (h : AW w0 W N M F C A n c A1 m1 c1 A2 m2 c2 pv cv pw cs ga P1 ca rows) (hb : Below W.heap.size W W1) : AW w0 W1 N M F C A n c A1 m1 c1 A2 m2 c2 pv cv pw cs ga P1 ca rows :=
  h.keep (below_to h.be hb) (fun k hk => hb.block k (by have := h.lM; omega)) (by have := h.lM; have := hb.size; omega) (Kd.S_below h.alv hb)
theorem AW.start (h : FW w0 W N M F C A n c A1 m1 c1 A2 m2 c2 pv cv pw cs) {W1 : World} (hb : Below W.heap.size W W1) (ha : Kd.S (Kd.slice 4 Kd.bool) 62 W1 W.heap.size (fun _ => True) (.slice (some ⟨ga, 0, none⟩) P1 ca) rows) :
    AW w0 (W1.setCell ⟨F, 6, none⟩ (.slice (some ⟨ga, 0, none⟩) P1 ca)) N W.heap.size F C A n c A1 m1 c1 A2 m2 c2 pv cv pw cs ga P1 ca rows := by
  have h1 := h.lF; have h2 := h.lN; have h3 := h.gF; have h4 := h.lM
  have h6 := h.to hb
  have hs := hb.size
  have hty : ∀ q, q ∈ 62 :: (Kd.slice 4 Kd.bool).E → q ≠ 65 := by
    have e : (Kd.slice 4 Kd.bool).E = [4] := rfl
    rw [e]; decide
  have hty2 : ∀ q, q ∈ 56 :: (Kd.slice 2 (Kd.int .i64)).E → q ≠ 65 := by
    have e : (Kd.slice 2 (Kd.int .i64)).E = [2] := rfl
    rw [e]; decide
  exact ⟨h6.be.setCell h3 _, h3, h1, by omega, by simpa using hs, h6.bs.set_ne (blk_ne h6.bs h6.bf (by decide)) 6 _, h6.bf.set 6 _, Kd.R_set h6.row h6.bf (fun q hq => by rw [int_types hq]; decide) 6 _, Kd.S_mono (Kd.S_set h6.cnt h6.bf hty2 6 _) (fun k hk => by omega), Kd.S_set ha h6.bf hty 6 _⟩
theorem AW.put (h : AW w0 W N M F C A n c A1 m1 c1 A2 m2 c2 pv cv pw cs ga P1 ca rows) (hb : Below W.heap.size W W1) {u : Value} {row : List Bool} (hr : Kd.R Kd.bool 4 W1 W.heap.size (fun _ => True) u row) {i : Nat} (hi : i < P1) :
    AW w0 (W1.setCell ⟨ga, i, none⟩ u) N M F C A n c A1 m1 c1 A2 m2 c2 pv cv pw cs ga P1 ca (rows.set i row) := by
  have h2 := h.to hb
  have hown : some ga = (Value.slice (some ⟨ga, 0, none⟩) P1 ca).ownBlock := by simp [Value.ownBlock]
  have hga : M ≤ ga := Kd.S_base h.alv ga hown.symm
  have hgl : ga < W.heap.size := Kd.S_lt h.alv ga hown.symm
  have h4 := h.gF; have h5 := h.lF; have h6 := h.lN; have h7 := h.lM
  have h8 : Kd.S (Kd.slice 4 Kd.bool) 62 W1 M (fun k => True ∧ ¬ (W.heap.size ≤ k)) (.slice (some ⟨ga, 0, none⟩) P1 ca) rows := Kd.S_mono (Kd.S_old h.alv hb) (fun k hk => ⟨trivial, by omega⟩)
  have h9 := (S_put_row (okg := fun k => W.heap.size ≤ k) h8 hi (Kd.R_lower (Kd.R_mono (Kd.R_bound hr) (fun k hk => hk.2.1)) h7) (fun k hk => ⟨trivial, by omega⟩)).1
  exact h2.keep (h2.be.setCell (by show w0.heap.size ≤ ga; omega) _) (fun k hk => Below.heap_setCell W1 ⟨ga, i, none⟩ u k (by show k ≠ ga; omega)) (by simpa using h2.lM) h9
theorem AW.cell (h : AW w0 W N M F C A n c A1 m1 c1 A2 m2 c2 pv cv pw cs ga P1 ca rows) {i j : Nat} (hi : i < P1) (hj : j < (rows.getD i []).length) :
    ∃ gr cr, W.cell? ⟨F, 6, none⟩ = some (.slice (some ⟨ga, 0, none⟩) P1 ca) ∧ W.cell? ⟨ga, i, none⟩ = some (.slice (some ⟨gr, 0, none⟩) (rows.getD i []).length cr) ∧ W.cell? ⟨gr, j, none⟩ = some (.bool ((rows.getD i []).getD j false)) ∧ W.frozen? ⟨gr, j, none⟩ = false ∧
      F < W.heap.size ∧ ga < W.heap.size ∧ gr < W.heap.size ∧ ∀ b : Bool, AW w0 (W.setCell ⟨gr, j, none⟩ (.bool b)) N M F C A n c A1 m1 c1 A2 m2 c2 pv cv pw cs ga P1 ca (rows.set i ((rows.getD i []).set j b)) := by
  obtain ⟨gr, cr, c1_, c2_, c3_, hb, hl, -, hput⟩ := S_put_cell h.alv hi hj
  have hown : some ga = (Value.slice (some ⟨ga, 0, none⟩) P1 ca).ownBlock := by simp [Value.ownBlock]
  have h4 := h.gF; have h5 := h.lF; have h6 := h.lN; have h7 := h.lM
  exact ⟨gr, cr, h.bf.cell rfl, c1_, c2_, c3_, by omega, Kd.S_lt h.alv ga hown.symm, hl, fun b => h.keep (h.be.setCell (by show w0.heap.size ≤ gr; omega) _) (fun k hk => Below.heap_setCell W ⟨gr, j, none⟩ (.bool b) k (by show k ≠ gr; omega)) (by simpa using h7) (hput b)⟩
theorem AW.head (h : AW w0 W N M F C A n c A1 m1 c1 A2 m2 c2 pv cv pw cs ga P1 ca rows) {i : Nat} (hi : i < P1) :
    ∃ v, W.cell? ⟨F, 6, none⟩ = some (.slice (some ⟨ga, 0, none⟩) P1 ca) ∧ W.cell? ⟨ga, i, none⟩ = some v ∧ W.frozen? ⟨ga, i, none⟩ = false ∧ ga < W.heap.size := by
  obtain ⟨oki, c, hcl, ⟨v, rfl, -⟩, hcc, hfr, -, -⟩ := Kd.S_elem h.alv [] (i : Int) (by omega) (by omega)
  have e : (i : Int).toNat * (Kd.slice 4 Kd.bool).sz + 0 = i := by rw [Int.toNat_natCast]; show i * 1 + 0 = i; omega
  have h1 := hcc 0 v rfl
  have h2 := hfr 0
  rw [e] at h1 h2
  have hown : some ga = (Value.slice (some ⟨ga, 0, none⟩) P1 ca).ownBlock := by simp [Value.ownBlock]
  exact ⟨v, h.bf.cell rfl, h1, h2, Kd.S_lt h.alv ga hown.symm⟩
theorem AW.frozen (h : AW w0 W N M F C A n c A1 m1 c1 A2 m2 c2 pv cv pw cs ga P1 ca rows) {i j gr m cr : Nat} (hi : i < P1) (hj : j < (rows.getD i []).length) (hh : W.cell? ⟨ga, i, none⟩ = some (.slice (some ⟨gr, 0, none⟩) m cr)) :
    M ≤ gr ∧ W.frozen? ⟨gr, j, none⟩ = false ∧ W.cell? ⟨gr, j, none⟩ = some (.bool ((rows.getD i []).getD j false)) ∧ gr < W.heap.size ∧ ∀ b : Bool, AW w0 (W.setCell ⟨gr, j, none⟩ (.bool b)) N M F C A n c A1 m1 c1 A2 m2 c2 pv cv pw cs ga P1 ca (rows.set i ((rows.getD i []).set j b)) := by
  obtain ⟨gr', cr', -, k1, k2, k3, -, -, k4, k5⟩ := h.cell hi hj
  obtain ⟨gr2, cr2, q1, -, -, q2, -, -, -⟩ := S_put_cell h.alv hi hj
  rw [hh] at k1
  injection k1 with k1
  injection k1 with k1
  injection k1 with k1
  injection k1 with k1
  subst k1
  rw [hh] at q1
  injection q1 with q1
  injection q1 with q1
  injection q1 with q1
  injection q1 with q1
  subst q1
  exact ⟨q2, k3, k2, k4, k5⟩
theorem AW.len (h : AW w0 W N M F C A n c A1 m1 c1 A2 m2 c2 pv cv pw cs ga P1 ca rows) : P1 = rows.length := (Kd.S_reads' h.alv).1
end
def FIL (w : World) (F : Nat) (C : Int) (cn : Nat) (A : Option Addr) (ts : List T4) (n c : Nat) (A1 : Option Addr) (plan : List (List Int)) (m1 c1 : Nat) (A2 : Option Addr) (bs : List (List Int)) (m2 c2 : Nat) : Prop :=
  ∃ (Ap : Option Addr) (cp gc cc ga ca : Nat), (w.cell? ⟨F, 0, none⟩ = some (.int .i64 C) ∧ w.cell? ⟨F, 1, none⟩ = some (.slice A n c) ∧ w.cell? ⟨F, 2, none⟩ = some (.slice A1 m1 c1) ∧ w.cell? ⟨F, 3, none⟩ = some (.slice A2 m2 c2)) ∧
    w.cell? ⟨F, 4, none⟩ = some (.slice Ap (rowLen plan 0 + 1) cp) ∧ w.cell? ⟨F, 5, none⟩ = some (.slice (some ⟨gc, 0, none⟩) (places plan + 1) cc) ∧ w.cell? ⟨F, 6, none⟩ = some (.slice (some ⟨ga, 0, none⟩) (places plan + 1) ca) ∧
    RI w Ap (powL cn (rowLen plan 0)) ∧ RR w (some ⟨gc, 0, none⟩) (cntL cn plan bs (ts.map toS) (places plan)) ∧ RB w ga (alvL (stepI cn plan bs (ts.map toS)) (ts.map toS).length (size cn plan) (places plan) 0)
theorem FIL.below {w w' : World} {F : Nat} {C : Int} {cn : Nat} {A : Option Addr} {ts : List T4} {n c : Nat} {A1 : Option Addr} {plan : List (List Int)} {m1 c1 : Nat} {A2 : Option Addr} {bs : List (List Int)} {m2 c2 : Nat} (h : FIL w F C cn A ts n c A1 plan m1 c1 A2 bs m2 c2) (hb : Below w.heap.size w w') : FIL w' F C cn A ts n c A1 plan m1 c1 A2 bs m2 c2 := by
  obtain ⟨Ap, cp, gc, cc, ga, ca, ⟨k0, k1, k2, k3⟩, k4, k5, k6, k7, k8, k9⟩ := h
  exact ⟨Ap, cp, gc, cc, ga, ca, ⟨cell_to hb k0, cell_to hb k1, cell_to hb k2, cell_to hb k3⟩, cell_to hb k4, cell_to hb k5, cell_to hb k6, k7.below hb, k8.below hb, k9.below hb⟩
theorem AW.same {w0 W W1 : World} {N M F : Nat} {C : Int} {A : Option Addr} {n c : Nat} {A1 : Option Addr} {m1 c1 : Nat} {A2 : Option Addr} {m2 c2 : Nat} {pv : Value} {pw : List Int} {cs : List (List Int)} {ga P1 ca : Nat} {rows : List (List Bool)} {gc m cc : Nat}
    (h : AW w0 W N M F C A n c A1 m1 c1 A2 m2 c2 pv (.slice (some ⟨gc, 0, none⟩) m cc) pw cs ga P1 ca rows) (hk : ∀ k, k < M → W1.heap[k]? = W.heap[k]?) (o : Nat) : W1.cell? ⟨gc, o, none⟩ = W.cell? ⟨gc, o, none⟩ := by
  have h1 : gc < M := (Kd.S_R h.cnt).1 gc (by simp [Value.ownBlock])
  unfold World.cell?
  simp only
  rw [hk gc h1]
theorem rep_form {α : Type} {d : Kd α} {e b : Nat} {w : World} {ok : Nat → Prop} {v : Value} {x : α} {k m : Nat} (h : Kd.S d e w b ok v (List.replicate k x)) (hm : k = m) (hp : 0 < m) : ∃ g c, v = .slice (some ⟨g, 0, none⟩) m c := by
  obtain ⟨g, c_, e, -⟩ := Kd.S_form h (by rw [List.length_replicate]; omega)
  rw [List.length_replicate, hm] at e
  exact ⟨g, c_, e⟩
theorem repR_form {α : Type} {d : Kd α} {e b : Nat} {w : World} {ok : Nat → Prop} {v : Value} {x : α} {k m : Nat} (h : d.R e w b ok v (List.replicate k x)) (hm : k = m) (hp : 0 < m) : ∃ g c, v = .slice (some ⟨g, 0, none⟩) m c := by
  obtain ⟨g, c_, e, -⟩ := Kd.R_form h (by rw [List.length_replicate]; omega)
  rw [List.length_replicate, hm] at e
  exact ⟨g, c_, e⟩
theorem gset {xs : List (List Bool)} {p : Nat} {r : List Bool} (h : p < xs.length) : (xs.set p r).getD p [] = r := by
  simp [List.getD_eq_getElem?_getD, List.getElem?_set_self h]
theorem gset_ne {xs : List (List Bool)} {p q : Nat} {r : List Bool} (h : p ≠ q) : (xs.set p r).getD q [] = xs.getD q [] := by
  simp [List.getD_eq_getElem?_getD, List.getElem?_set_ne h]
theorem bget {xs : List Bool} {p : Nat} {r : Bool} (h : p < xs.length) : (xs.set p r).getD p false = r := by
  simp [List.getD_eq_getElem?_getD, List.getElem?_set_self h]
end Go.Proofs.Ytcaikaflpmaocaa
namespace Go.Proofs.Ytcaikaflpmaocaa
open Go Go.RowKit Go.Proofs Go.Proofs.YtcaikaflpmaocaaW.PrintWords Go.Proofs.YtcaikaflpmaocaaW.PrintLast Go.Proofs.YtcaikaflpmaocaaW.PrintMore Go.Proofs.Ytcaikaflpmaocaa.Q
set_option linter.unusedVariables false
set_option linter.unusedSimpArgs false
def newf_T4 : Bool × List (List Nat × List Nat) := (true, [([], []), ([], []), ([1], [1]), ([2], [2]), ([3], [3]), ([], []), ([5], [5]), ([6], [6]), ([7], [7]), ([], []), ([9], [9]), ([10], [10]), ([11], [11]), ([12], [12]), ([13], [13]), ([8, 14], [8, 14]), ([15], [15]), ([], []), ([17], [17]), ([16, 18], [16, 18]), ([19], [19]), ([4, 20], [4, 20]), ([0, 0, 1, 2, 3, 4, 5, 6, 7, 8, 9, 10, 11, 12, 13, 14, 15, 16, 17, 18, 19, 20, 21], [0]), ([22, 0, 1, 2, 3, 4, 5, 6, 7, 8, 9, 10, 11, 12, 13, 14, 15, 16, 17, 18, 19, 20, 21], [22]), ([23, 21, 21, 0, 1, 2, 3, 4, 5, 6, 7, 8, 9, 10, 11, 12, 13, 14, 15, 16, 17, 18, 19, 20, 21], [21, 23])])
def newf_B4 : List Nat := [0, 0, 2, 6, 14, 0, 32, 96, 224, 0, 512, 1536, 3584, 7680, 15872, 32736, 65504, 0, 131072, 524256, 1048544, 2097150, 4194303, 8388607, 16777215]
theorem newf_tab4 : rtab .any (opsOf Try.f60 4) = newf_T4 := by kernel_rfl
theorem newf_bits4 : waitsOk newf_T4.2 newf_B4 = true := by kernel_rfl
def newf_T32 : Bool × List (List Nat × List Nat) := (true, [([], []), ([0], [0]), ([1], [1]), ([2], [2]), ([], []), ([], []), ([5, 5], [5]), ([3, 4, 0, 1, 2, 3, 4, 5, 6], [3, 4]), ([7, 6, 0, 1, 2, 3, 4, 5, 6], [6, 7])])
def newf_B32 : List Nat := [0, 1, 3, 7, 0, 0, 32, 127, 255]
theorem newf_tab32 : rtab .any (opsOf Try.f60 32) = newf_T32 := by kernel_rfl
theorem newf_bits32 : waitsOk newf_T32.2 newf_B32 = true := by kernel_rfl
def newf_T37 : Bool × List (List Nat × List Nat) := (true, [([], []), ([0], [0]), ([1], [1]), ([2], [2]), ([], []), ([3, 4], [3, 4]), ([5], [5]), ([], []), ([], []), ([], []), ([9], [9]), ([8, 10], [8, 10]), ([6, 7, 0, 1, 2, 3, 4, 5, 6, 7, 8, 9, 10, 11], [6, 7]), ([12, 11, 10, 0, 1, 2, 3, 4, 5, 6, 7, 8, 9, 10, 11], [11, 12])])
def newf_B37 : List Nat := [0, 1, 3, 7, 0, 31, 63, 0, 0, 0, 512, 1792, 4095, 8191]
theorem newf_tab37 : rtab .any (opsOf Try.f60 37) = newf_T37 := by kernel_rfl
theorem newf_bits37 : waitsOk newf_T37.2 newf_B37 = true := by kernel_rfl
def newf_T43 : Bool × List (List Nat × List Nat) := (true, [([], []), ([0], [0]), ([1], [1]), ([2], [2]), ([], []), ([3, 4], [3, 4]), ([5], [5]), ([], []), ([], []), ([8], [8]), ([9], [9]), ([10, 9], [9, 10]), ([11, 9], [9, 11]), ([12, 9], [9, 12]), ([9], [9]), ([14, 9], [9, 14]), ([13, 15, 9], [9, 13, 15]), ([16, 9], [9, 16]), ([9], [9]), ([17, 18, 9], [9, 17, 18]), ([19, 9], [9, 19]), ([9, 20], [9, 20]), ([6, 7, 0, 1, 2, 3, 4, 5, 6, 7, 8, 9, 10, 11, 12, 13, 14, 15, 16, 17, 18, 19, 20, 21], [6, 7]), ([22, 21, 9, 0, 1, 2, 3, 4, 5, 6, 7, 8, 9, 10, 11, 12, 13, 14, 15, 16, 17, 18, 19, 20, 21], [21, 22])])
def newf_B43 : List Nat := [0, 1, 3, 7, 0, 31, 63, 0, 0, 256, 768, 1792, 3840, 7936, 768, 17152, 65280, 130816, 768, 524032, 1048320, 2096896, 4194303, 8388607]
theorem newf_tab43 : rtab .any (opsOf Try.f60 43) = newf_T43 := by kernel_rfl
theorem newf_bits43 : waitsOk newf_T43.2 newf_B43 = true := by kernel_rfl
theorem name3n {P : Program} {c : Code} {Q : Exit → Act → World → Prop} {a : Act} {w : World} {C1 C2 C3 : Array Value} {E1 E2 E3 : TypeId}
    (h : ∀ W, BK W w.heap.size C1 E1 → BK W (w.heap.size + 1) C2 E2 → BK W (w.heap.size + 1 + 1) C3 E3 → Below w.heap.size w W → c.wp P Q a W) : c.wp P Q a (((w.alloc (.cells C1 E1)).alloc (.cells C2 E2)).alloc (.cells C3 E3)) :=
  h _ (((BK.new _ _ _).alloc _).alloc _) (by simpa using (BK.new (w.alloc (.cells C1 E1)) C2 E2).alloc (.cells C3 E3)) (by simpa using BK.new ((w.alloc (.cells C1 E1)).alloc (.cells C2 E2)) C3 E3) (below_alloc (below_alloc (below_alloc (Below.refl _ _) _) _) _)
attribute [local go_sem] max2_int min2_int max_two min_two
set_option maxHeartbeats 16000000 in
set_option maxRecDepth 100000 in
theorem newFiller_any (C : Int) (cn : Nat) (A : Option Addr) (ts : List T4) (n c : Nat) (A1 : Option Addr) (plan : List (List Int)) (m1 c1 : Nat) (A2 : Option Addr) (bs : List (List Int)) (m2 c2 : Nat) (w : World)
    (hC : C = (cn : Int)) (hcn : 0 < cn) (c6 : cn ≤ 6) (hn : n = ts.length) (hA : RT w A ts) (hl : n ≤ 1000) (hm1 : m1 = plan.length) (hA1 : RR w A1 plan) (hm2 : m2 = bs.length) (hA2 : RR w A2 bs) (hsh : Shape plan bs) (hcol : ∀ t ∈ ts.map toS, Col cn t) :
    Calls Try.prog 60 #[.agg #[.int .i64 C, .slice A n c], .slice A1 m1 c1, .slice A2 m2 c2] w fun e w' => ∃ F : Nat, e = .returned (.pointer (some ⟨F, 0, none⟩)) ∧ Below w.heap.size w w' ∧ w.heap.size ≤ F ∧ FIL w' F C cn A ts n c A1 plan m1 c1 A2 bs m2 c2 := by
  have HC := Lib.hid hC; have HCN := Lib.hid hcn; have HN := Lib.hid hn; have HA := Lib.hid hA; have HM1 := Lib.hid hm1; have HA1 := Lib.hid hA1; have HM2 := Lib.hid hm2; have HA2 := Lib.hid hA2; have HSH := Lib.hid hsh; have HCOL := Lib.hid hcol
  obtain ⟨h1, h5, w1, w5, hlen, h4, hbl⟩ := hsh
  obtain ⟨pb, po, PA, pc, hPA, hpb, p0, -, -, -⟩ := hA1 0 (by omega)
  subst hPA
  rw [Nat.add_zero] at p0
  have j1 : (0 : Int) < m1 := by omega
  have j2 : 0 < m1 := by omega
  have hw9 : rowLen plan 0 ≤ 35184372088832 := by omega
  clear hC hcn hn hA hm1 hA1 hm2 hA2 hcol hbl hlen
  go_enter Try.func60, Try.ntmps60
  go_upto_region 2 with fail
  refine name3n ?_
  intro W1 b1 b2 b3 hb0
  have hP : PW w W1 (w.heap.size + 1 + 1) C A n c (some ⟨pb, po, none⟩) m1 c1 A2 m2 c2 (.slice (some ⟨w.heap.size + 1, 0, none⟩) 1 1) (powL cn 0) := ⟨hb0, by omega, b1, b3, one_row b2 (by omega)⟩
  obtain ⟨F, hF⟩ : ∃ F_, F_ = w.heap.size + 1 + 1 := ⟨_, rfl⟩
  rw [← hF] at hP ⊢
  have p0' := cell_to hb0 p0
  have lp := World.block_lt_of_cell? W1 _ p0'
  clear hF b1 b2 b3
  have HP := Lib.hid hP; clear hP
  have HB0 := Lib.hid hb0; clear hb0
  go_upto_block 0 with fail
  go_cut [33] from 23 (fun s33 wx => ∃ pv, PW w wx F C A n c (some ⟨pb, po, none⟩) m1 c1 A2 m2 c2 pv (powL cn (rowLen plan 0)))
  case first =>
   as_aux_lemma =>
    go_wp2_with fail
    go_loopw [33] (fun i wr => ∃ k : Nat, k ≤ rowLen plan 0 ∧ i = .int .i64 k ∧ ∃ pv, PW w wr F C A n c (some ⟨pb, po, none⟩) m1 c1 A2 m2 c2 pv (powL cn k)) (fun i _ => rowLen plan 0 - (intOf i).toNat)
    case atStart => exact ⟨0, by omega, rfl, _, HP.out⟩
    case round =>
      obtain ⟨k, hk, rfl, pv, hP⟩ := hrel
      by_cases hlt : k < rowLen plan 0
      · have i1 : (k : Int) < rowLen plan 0 := by omega
        obtain ⟨pg, pc_, rfl⟩ : ∃ g c_, pv = .slice (some ⟨g, 0, none⟩) (k + 1) c_ := by
          obtain ⟨g, c_, e, -⟩ := Kd.R_form hP.row (by rw [powL_len]; omega)
          rw [powL_len] at e
          exact ⟨g, c_, e⟩
        obtain ⟨Bk, hBk⟩ : ∃ z : Int, z = ((cn ^ k : Nat) : Int) := ⟨_, rfl⟩
        have HBk := Lib.hid hBk
        have z4 : wr.cell? ⟨F, 4, none⟩ = some (.slice (some ⟨pg, 0, none⟩) (k + 1) pc_) := hP.bf.cell rfl
        have z1 : wr.cell? ⟨w.heap.size, 0, none⟩ = some (.int .i64 C) := hP.bs.cell rfl
        have hCk := (Kd.R_reads' hP.row).2.2
        obtain ⟨b_, o_, e1, -, zk⟩ := (ri_of_C hCk) k (by rw [powL_len]; omega)
        injection e1 with e1; injection e1 with e4 e5; subst e4 e5
        rw [Nat.zero_add, powL_at cn k k (Nat.le_refl _), ← hBk] at zk
        have i2 : (k : Int) < (k : Int) + 1 := by omega
        have i3 : k < k + 1 := by omega
        have HPL := Lib.hid (show (powL cn k).length ≤ 100 by rw [powL_len]; omega)
        have HNX := Lib.hid (show wrap64 (Bk * C) = ((cn ^ (k + 1) : Nat) : Int) by rw [hBk, HC.out]; exact pow_next cn k c6 (by omega))
        clear hBk hCk
        go_upto_region 4 with fail
        have hD := (Below.refl wr.heap.size wr).drew
        refine start_ (n := 25) (S := fun w' => w'.cell? ⟨F, 4, none⟩ = some (.slice (some ⟨pg, 0, none⟩) (k + 1) pc_) ∧ w'.cell? ⟨w.heap.size, 0, none⟩ = some (.int .i64 C) ∧ w'.cell? ⟨pg, k, none⟩ = some (.int .i64 Bk)) (ds := [21, 24]) #[false, false, false, false, false, false, false, false, false, false, false, false, false, false, false, false, false, false, false, false, false, false, false, false, false] (by kernel_rfl) rfl rfl ⟨cell_to hD z4, cell_to hD z1, cell_to hD zk⟩ (fun hHeld => ?_)
        refine with_tabW newf_tab4 newf_bits4 (fun HT_ HW_ => ?_)
        replace hP := hP.to hD
        generalize wr.drew = wd at hD hP hHeld ⊢
        refine pure_ (i := 0) (N := some 35) (v := ?_) (a' := ?_) #[true, false, false, false, false, false, false, false, false, false, false, false, false, false, false, false, false, false, false, false, false, false, false, false, false] rfl rfl (any_of HT_.out (by kernel_rfl)) (fun _ _ _ h => h) (Or.inl ⟨by rfl, ?_⟩) ?_ ?_
        rotate_left
        · intro w'
          go_simp
          with_reducible rfl
        rotate_left
        · simp only [Act.put, List.setIfInBounds_toArray, List.set_cons_zero, List.set_cons_succ, i64_w, i32_w]
          rfl
        refine pure_ (i := 1) (N := some 36) (v := ?_) (a' := ?_) #[true, true, false, false, false, false, false, false, false, false, false, false, false, false, false, false, false, false, false, false, false, false, false, false, false] rfl rfl (any_of HT_.out (by kernel_rfl)) (fun _ _ _ h => h) (Or.inl ⟨by rfl, ?_⟩) ?_ ?_
        rotate_left
        · intro w'
          go_simp
          with_reducible rfl
        rotate_left
        · simp only [Act.put, List.setIfInBounds_toArray, List.set_cons_zero, List.set_cons_succ, i64_w, i32_w]
          rfl
        refine pure_ (i := 2) (N := some 37) (v := ?_) (a' := ?_) #[true, true, true, false, false, false, false, false, false, false, false, false, false, false, false, false, false, false, false, false, false, false, false, false, false] rfl rfl (any_of HT_.out (by kernel_rfl)) (fun _ _ _ h => h) (Or.inl ⟨by rfl, ?_⟩) ?_ ?_
        rotate_left
        · intro w'
          go_simp
          with_reducible rfl
        rotate_left
        · simp only [Act.put, List.setIfInBounds_toArray, List.set_cons_zero, List.set_cons_succ, i64_w, i32_w]
          rfl
        refine pure_ (i := 3) (N := some 38) (v := ?_) (a' := ?_) #[true, true, true, true, false, false, false, false, false, false, false, false, false, false, false, false, false, false, false, false, false, false, false, false, false] rfl rfl (any_of HT_.out (by kernel_rfl)) (fun _ _ _ h => h) (Or.inl ⟨by rfl, ?_⟩) ?_ ?_
        rotate_left
        · intro w'
          go_simp
          with_reducible rfl
        rotate_left
        · simp only [Act.put, List.setIfInBounds_toArray, List.set_cons_zero, List.set_cons_succ, i64_w, i32_w]
          rfl
        refine pure_ (i := 5) (N := some 40) (v := ?_) (a' := ?_) #[true, true, true, true, false, true, false, false, false, false, false, false, false, false, false, false, false, false, false, false, false, false, false, false, false] rfl rfl (any_of HT_.out (by kernel_rfl)) (fun _ _ _ h => h) (Or.inl ⟨by rfl, ?_⟩) ?_ ?_
        rotate_left
        · intro w'
          go_simp
          with_reducible rfl
        rotate_left
        · simp only [Act.put, List.setIfInBounds_toArray, List.set_cons_zero, List.set_cons_succ, i64_w, i32_w]
          rfl
        refine pure_ (i := 6) (N := some 41) (v := ?_) (a' := ?_) #[true, true, true, true, false, true, true, false, false, false, false, false, false, false, false, false, false, false, false, false, false, false, false, false, false] rfl rfl (any_of HT_.out (by kernel_rfl)) (fun _ _ _ h => h) (Or.inl ⟨by rfl, ?_⟩) ?_ ?_
        rotate_left
        · intro w'
          go_simp
          with_reducible rfl
        rotate_left
        · simp only [Act.put, List.setIfInBounds_toArray, List.set_cons_zero, List.set_cons_succ, i64_w, i32_w]
          rfl
        refine pure_ (i := 7) (N := some 42) (v := ?_) (a' := ?_) #[true, true, true, true, false, true, true, true, false, false, false, false, false, false, false, false, false, false, false, false, false, false, false, false, false] rfl rfl (any_of HT_.out (by kernel_rfl)) (fun _ _ _ h => h) (Or.inl ⟨by rfl, ?_⟩) ?_ ?_
        rotate_left
        · intro w'
          go_simp
          with_reducible rfl
        rotate_left
        · simp only [Act.put, List.setIfInBounds_toArray, List.set_cons_zero, List.set_cons_succ, i64_w, i32_w]
          rfl
        refine pure_ (i := 9) (N := some 44) (v := ?_) (a' := ?_) #[true, true, true, true, false, true, true, true, false, true, false, false, false, false, false, false, false, false, false, false, false, false, false, false, false] rfl rfl (any_of HT_.out (by kernel_rfl)) (fun _ _ _ h => h) (Or.inl ⟨by rfl, ?_⟩) ?_ ?_
        rotate_left
        · intro w'
          go_simp
          with_reducible rfl
        rotate_left
        · simp only [Act.put, List.setIfInBounds_toArray, List.set_cons_zero, List.set_cons_succ, i64_w, i32_w]
          rfl
        refine pure_ (i := 10) (N := some 45) (v := ?_) (a' := ?_) #[true, true, true, true, false, true, true, true, false, true, true, false, false, false, false, false, false, false, false, false, false, false, false, false, false] rfl rfl (any_of HT_.out (by kernel_rfl)) (fun _ _ _ h => h) (Or.inl ⟨by rfl, ?_⟩) ?_ ?_
        rotate_left
        · intro w'
          go_simp
          with_reducible rfl
        rotate_left
        · simp only [Act.put, List.setIfInBounds_toArray, List.set_cons_zero, List.set_cons_succ, i64_w, i32_w]
          rfl
        refine pure_ (i := 11) (N := some 46) (v := ?_) (a' := ?_) #[true, true, true, true, false, true, true, true, false, true, true, true, false, false, false, false, false, false, false, false, false, false, false, false, false] rfl rfl (any_of HT_.out (by kernel_rfl)) (fun _ _ _ h => h) (Or.inl ⟨by rfl, ?_⟩) ?_ ?_
        rotate_left
        · intro w'
          go_simp
          with_reducible rfl
        rotate_left
        · simp only [Act.put, List.setIfInBounds_toArray, List.set_cons_zero, List.set_cons_succ, i64_w, i32_w]
          rfl
        refine pure_ (i := 17) (N := some 52) (v := ?_) (a' := ?_) #[true, true, true, true, false, true, true, true, false, true, true, true, false, false, false, false, false, true, false, false, false, false, false, false, false] rfl rfl (any_of HT_.out (by kernel_rfl)) (fun _ _ _ h => h) (Or.inl ⟨by rfl, ?_⟩) ?_ ?_
        rotate_left
        · intro w'
          go_simp
          with_reducible rfl
        rotate_left
        · simp only [Act.put, List.setIfInBounds_toArray, List.set_cons_zero, List.set_cons_succ, i64_w, i32_w]
          rfl
        refine take_ (i := 4) (N := some 39) (v := ?_) (a' := ?_) #[true, true, true, true, true, true, true, true, false, true, true, true, false, false, false, false, false, true, false, false, false, false, false, false, false] rfl rfl (take_ofW HT_.out HW_.out (by kernel_rfl)) (fun _ _ _ h => h) (Or.inl ⟨by rfl, ?_⟩) hHeld ?_ ?_
        rotate_left
        · rintro w' ⟨s0, s1, s2⟩
          go_simp
          with_reducible rfl
        rotate_left
        · simp only [Act.put, List.setIfInBounds_toArray, List.set_cons_zero, List.set_cons_succ, i64_w, i32_w]
          rfl
        refine take_ (i := 8) (N := some 43) (v := ?_) (a' := ?_) #[true, true, true, true, true, true, true, true, true, true, true, true, false, false, false, false, false, true, false, false, false, false, false, false, false] rfl rfl (take_ofW HT_.out HW_.out (by kernel_rfl)) (fun _ _ _ h => h) (Or.inl ⟨by rfl, ?_⟩) hHeld ?_ ?_
        rotate_left
        · rintro w' ⟨s0, s1, s2⟩
          go_simp
          with_reducible rfl
        rotate_left
        · simp only [Act.put, List.setIfInBounds_toArray, List.set_cons_zero, List.set_cons_succ, i64_w, i32_w]
          rfl
        refine take_ (i := 12) (N := some 47) (v := ?_) (a' := ?_) #[true, true, true, true, true, true, true, true, true, true, true, true, true, false, false, false, false, true, false, false, false, false, false, false, false] rfl rfl (take_ofW HT_.out HW_.out (by kernel_rfl)) (fun _ _ _ h => h) (Or.inl ⟨by rfl, ?_⟩) hHeld ?_ ?_
        rotate_left
        · rintro w' ⟨s0, s1, s2⟩
          go_simp
          with_reducible rfl
        rotate_left
        · simp only [Act.put, List.setIfInBounds_toArray, List.set_cons_zero, List.set_cons_succ, i64_w, i32_w]
          rfl
        refine pure_ (i := 13) (N := some 48) (v := ?_) (a' := ?_) #[true, true, true, true, true, true, true, true, true, true, true, true, true, true, false, false, false, true, false, false, false, false, false, false, false] rfl rfl (any_of HT_.out (by kernel_rfl)) (fun _ _ _ h => h) (Or.inl ⟨by rfl, ?_⟩) ?_ ?_
        rotate_left
        · intro w'
          go_simp
          with_reducible rfl
        rotate_left
        · simp only [Act.put, List.setIfInBounds_toArray, List.set_cons_zero, List.set_cons_succ, i64_w, i32_w]
          rfl
        refine pure_ (i := 14) (N := some 49) (v := ?_) (a' := ?_) #[true, true, true, true, true, true, true, true, true, true, true, true, true, true, true, false, false, true, false, false, false, false, false, false, false] rfl rfl (any_of HT_.out (by kernel_rfl)) (fun _ _ _ h => h) (Or.inl ⟨by rfl, ?_⟩) ?_ ?_
        rotate_left
        · intro w'
          go_simp
          with_reducible rfl
        rotate_left
        · simp only [Act.put, List.setIfInBounds_toArray, List.set_cons_zero, List.set_cons_succ, i64_w, i32_w]
          rfl
        rw [wrapN k (by omega)]
        refine pure_ (i := 15) (N := some 50) (v := ?_) (a' := ?_) #[true, true, true, true, true, true, true, true, true, true, true, true, true, true, true, true, false, true, false, false, false, false, false, false, false] rfl rfl (any_of HT_.out (by kernel_rfl)) (fun _ _ _ h => h) (Or.inl ⟨by rfl, ?_⟩) ?_ ?_
        rotate_left
        · intro w'
          go_simp
          with_reducible rfl
        rotate_left
        · simp only [Act.put, List.setIfInBounds_toArray, List.set_cons_zero, List.set_cons_succ, i64_w, i32_w]
          rfl
        refine take_ (i := 16) (N := some 51) (v := ?_) (a' := ?_) #[true, true, true, true, true, true, true, true, true, true, true, true, true, true, true, true, true, true, false, false, false, false, false, false, false] rfl rfl (take_ofW HT_.out HW_.out (by kernel_rfl)) (fun _ _ _ h => h) (Or.inl ⟨by rfl, ?_⟩) hHeld ?_ ?_
        rotate_left
        · rintro w' ⟨s0, s1, s2⟩
          go_simp
          with_reducible rfl
        rotate_left
        · simp only [Act.put, List.setIfInBounds_toArray, List.set_cons_zero, List.set_cons_succ, i64_w, i32_w]
          rfl
        refine take_ (i := 18) (N := some 53) (v := ?_) (a' := ?_) #[true, true, true, true, true, true, true, true, true, true, true, true, true, true, true, true, true, true, true, false, false, false, false, false, false] rfl rfl (take_ofW HT_.out HW_.out (by kernel_rfl)) (fun _ _ _ h => h) (Or.inl ⟨by rfl, ?_⟩) hHeld ?_ ?_
        rotate_left
        · rintro w' ⟨s0, s1, s2⟩
          go_simp
          with_reducible rfl
        rotate_left
        · simp only [Act.put, List.setIfInBounds_toArray, List.set_cons_zero, List.set_cons_succ, i64_w, i32_w]
          rfl
        refine pure_ (i := 19) (N := some 54) (v := ?_) (a' := ?_) #[true, true, true, true, true, true, true, true, true, true, true, true, true, true, true, true, true, true, true, true, false, false, false, false, false] rfl rfl (any_of HT_.out (by kernel_rfl)) (fun _ _ _ h => h) (Or.inl ⟨by rfl, ?_⟩) ?_ ?_
        rotate_left
        · intro w'
          go_simp
          with_reducible rfl
        rotate_left
        · simp only [Act.put, List.setIfInBounds_toArray, List.set_cons_zero, List.set_cons_succ, i64_w, i32_w]
          rfl
        refine one_ (i := 20) (N := some 55) #[true, true, true, true, true, true, true, true, true, true, true, true, true, true, true, true, true, true, true, true, true, false, false, false, false] rfl rfl (one_of HT_.out (by kernel_rfl)) (by decide) (fun K hK => ?_)
        refine value_ (w1 := ?_) (v := ?_) (by rfl) rfl ?_ ?_
        rotate_left 2
        · go_simp
          constructor
          · rfl
          · rfl
        refine hK.out _ _ ⟨cell_to (below_alloc (Below.refl _ _) _) hHeld.1, cell_to (below_alloc (Below.refl _ _) _) hHeld.2.1, cell_to (below_alloc (Below.refl _ _) _) hHeld.2.2⟩ (fun hHeld => ?_)
        clear hK K
        refine norm_ (a' := ?_) ?_ ?_
        rotate_left
        · show Act.put _ (some 55) _ = _
          simp only [Act.put, List.setIfInBounds_toArray, List.set_cons_zero, List.set_cons_succ, i64_w, i32_w]
          rfl
        refine last_ (i := 21) (N := some 56) #[true, true, true, true, true, true, true, true, true, true, true, true, true, true, true, true, true, true, true, true, true, true, false, false, false] rfl rfl (one_of HT_.out (by kernel_rfl)) (by decide) (fun K hK => ?_)
        refine Kd.R_append_step (Kd.int .i64) (w0 := w) w.heap.size (by rfl) (.tmp 39) (.tmp 55) 56 2 (.int .i64 0) 8 rfl Try.underlying56 info2 rfl (by decide) (by omega) (.slice (some ⟨pg, 0, none⟩) (k + 1) pc_) (powL cn k) (wrap64 (Bk * C)) [.int .i64 (wrap64 (Bk * C))] (fun _ => True) (fun _ => False) rfl rfl ?aP (fun _ hk => hk.elim) ?aF ?aO ?aB ?aS ?aL ?_
        (case aP => exact rfl)
        (case aF => exact fun _ _ => trivial)
        (case aO => exact hP.row)
        (case aB => exact hP.be)
        (case aS => exact hP.be.size)
        (case aL => have := HPL.out; omega)
        intro v1 w56 ho hb hg hat
        obtain ⟨Ao, co, hv1⟩ : ∃ A_ c_, v1 = .slice A_ (powL cn k ++ [wrap64 (Bk * C)]).length c_ := Kd.R_slice ho
        obtain ⟨n1, hn1_⟩ : ∃ k_, k_ = (powL cn k ++ [wrap64 (Bk * C)]).length := ⟨_, rfl⟩
        rw [← hn1_] at hv1
        clear hn1_
        subst hv1
        have z0 : w56.cell? ⟨F, 4, none⟩ = some (.slice (some ⟨pg, 0, none⟩) (k + 1) pc_) := (blk_cell (blk_grown hP.bf hg (Kd.R_ne hP.row hP.bf (by decide))) 4).trans rfl
        have f0 : w56.frozen? ⟨F, 4, none⟩ = false := blk_frozen (blk_grown hP.bf hg (Kd.R_ne hP.row hP.bf (by decide))) 4
        have bf : BK w56 F _ 65 := blk_grown hP.bf hg (Kd.R_ne hP.row hP.bf (by decide))
        have bs : BK w56 w.heap.size _ 36 := blk_grown hP.bs hg (Kd.R_ne hP.row hP.bs (by decide))
        refine hK.out _ _ ?_
        clear hK K
        refine norm_ (a' := ?_) ?_ ?_
        rotate_left
        · show Act.put _ (some 56) _ = _
          simp only [Act.put, List.setIfInBounds_toArray, List.set_cons_zero, List.set_cons_succ, i64_w, i32_w]
          rfl
        refine pure_ (i := 22) (N := some 57) (v := ?_) (a' := ?_) #[true, true, true, true, true, true, true, true, true, true, true, true, true, true, true, true, true, true, true, true, true, true, true, false, false] rfl rfl (any_of HT_.out (by kernel_rfl)) (fun _ _ _ h => h) (Or.inl ⟨by rfl, ?_⟩) ?_ ?_
        rotate_left
        · intro w'
          go_simp
          with_reducible rfl
        rotate_left
        · simp only [Act.put, List.setIfInBounds_toArray, List.set_cons_zero, List.set_cons_succ, i64_w, i32_w]
          rfl
        refine pure_ (i := 23) (N := some 58) (v := ?_) (a' := ?_) #[true, true, true, true, true, true, true, true, true, true, true, true, true, true, true, true, true, true, true, true, true, true, true, true, false] rfl rfl (any_of HT_.out (by kernel_rfl)) (fun _ _ _ h => h) (Or.inl ⟨by rfl, ?_⟩) ?_ ?_
        rotate_left
        · intro w'
          go_simp
          with_reducible rfl
        rotate_left
        · simp only [Act.put, List.setIfInBounds_toArray, List.set_cons_zero, List.set_cons_succ, i64_w, i32_w]
          rfl
        refine last_ (i := 24) (N := none) #[true, true, true, true, true, true, true, true, true, true, true, true, true, true, true, true, true, true, true, true, true, true, true, true, true] rfl rfl (one_of HT_.out (by kernel_rfl)) (by decide) (fun K hK => ?_)
        refine skip_ (w1 := ?_) (by rfl) rfl ?_ ?_
        rotate_left
        · go_simp
          rfl
        refine hK.out _ _ ?_
        clear hK K
        refine done_ (done_of HT_.out (by kernel_rfl)) ?_
        have hP2 : PW w (w56.setCell ⟨F, 4, none⟩ (.slice Ao n1 co)) F C A n c (some ⟨pb, po, none⟩) m1 c1 A2 m2 c2 (.slice Ao n1 co) (powL cn (k + 1)) := by
          have e2 : powL cn k ++ [wrap64 (Bk * C)] = powL cn (k + 1) := by rw [powL_succ, HNX.out]
          rw [← e2]
          refine ⟨hb.setCell hP.gF _, hP.gF, bs.set_ne (blk_ne bs bf (by decide)) 4 (.slice Ao n1 co), bf.set 4 (.slice Ao n1 co), Kd.R_set ho bf (fun q hq => by rw [int_types hq]; decide) 4 (.slice Ao n1 co)⟩
        have HP2 := Lib.hid hP2; clear hP2
        generalize w56.setCell ⟨F, 4, none⟩ (.slice Ao n1 co) = w57 at HP2 ⊢
        clear ho hb hg hat bf bs z0 f0 hP
        go_wp2_with fail
        go_roundw
        case rel => exact ⟨k + 1, by omega, by go_num, _, HP2.out⟩
        case measure => simp [intOf]; omega
      · have i1 : ¬ (k : Int) < rowLen plan 0 := by omega
        have e : k = rowLen plan 0 := by omega
        have HEQ := Lib.hid e; clear e
        have HPk := Lib.hid hP; clear hP
        go_wp2_with fail
        go_meet
        exact ⟨pv, by rw [← HEQ.out]; exact HPk.out⟩
  case rest =>
  obtain ⟨pv, hP⟩ := hcut
  clear HP
  obtain ⟨pg, pc_, hpv⟩ : ∃ g c_, pv = .slice (some ⟨g, 0, none⟩) (rowLen plan 0 + 1) c_ := by
    obtain ⟨g, c_, e, -⟩ := Kd.R_form hP.row (by rw [powL_len]; omega)
    rw [powL_len] at e
    exact ⟨g, c_, e⟩
  subst hpv
  obtain ⟨Bk, hBk⟩ : ∃ z : Int, z = ((cn ^ rowLen plan 0 : Nat) : Int) := ⟨_, rfl⟩
  have z4 : wc.cell? ⟨F, 4, none⟩ = some (.slice (some ⟨pg, 0, none⟩) (rowLen plan 0 + 1) pc_) := hP.bf.cell rfl
  have z1 : wc.cell? ⟨w.heap.size, 0, none⟩ = some (.int .i64 C) := hP.bs.cell rfl
  have hCk := (Kd.R_reads' hP.row).2.2
  obtain ⟨b_, o_, e1, -, zk⟩ := (ri_of_C hCk) (rowLen plan 0) (by rw [powL_len]; omega)
  injection e1 with e1; injection e1 with e4 e5; subst e4 e5
  rw [Nat.zero_add, powL_at _ _ _ (Nat.le_refl _), ← hBk] at zk
  have i2 : ((rowLen plan 0 : Nat) : Int) < ((rowLen plan 0 : Nat) : Int) + 1 := by omega
  have HNX := Lib.hid (show wrap64 (Bk * C) = ((size cn plan : Nat) : Int) by rw [hBk, HC.out]; exact pow_next cn _ c6 (by omega))
  have hs9 : size cn plan ≤ 46656 := pow_le cn (rowLen plan 0 + 1) c6 (by omega)
  have hs0 : 0 < size cn plan := Nat.pow_pos HCN.out
  have lF := hP.bf.lt; have l0 := hP.bs.lt; have lk := World.block_lt_of_cell? wc _ zk
  simp only at lk
  clear hBk hCk
  go_upto_region 6 with fail
  refine wp_region_gro (by kernel_rfl) (by kernel_rfl) ?_
  repeat (first | go_big_quiet_step (fail) | quiet_step (fail))
  refine wpQuiet_nil ?_
  intro W2 hB2
  have hP2 := hP.to hB2
  clear hP z4 z1 zk lF l0 lk hB2
  simp only [HNX.out]
  generalize hsz : size cn plan = sz at *
  go_upto_region 8 with (first | ((with_reducible refine gate_dst (N := 76) rfl ?_); refine Kd.R_make (Kd.int .i64) (w0 := W2) W2.heap.size 2 rfl (N := 76) rfl 56 _ _ rfl (sz : Int) rfl rfl Try.underlying56 (.int .i64 0) 8 info2 rfl (by decide) (by omega) 0 (ok := fun _ => True) (okp := fun _ => True) rfl (fun _ hk => hk) trivial (by omega) (by omega) (Below.refl _ _) (Nat.le_refl _) ?_; intro nv W3 hnw hb3 hg3 hnew3))
  have hF2 := FW.start hP2
  have hF3 := hF2.to hb3
  obtain ⟨g9, c9, hnv⟩ : ∃ g c_, nv = .slice (some ⟨g, 0, none⟩) sz c_ := by
    obtain ⟨g, c_, e, -⟩ := Kd.R_form hnw (by simp; omega)
    exact ⟨g, c_, by rw [e]; simp⟩
  subst hnv
  have hg9 : W2.heap.size ≤ g9 := Kd.R_base hnw g9 rfl
  obtain ⟨x0_, f0_⟩ := Kd.R_celln 0 hnw 0 (by omega) (by omega)
  obtain ⟨z9, x0⟩ : ∃ z : Int, W3.cell? ⟨g9, 0, none⟩ = some (.int .i64 z) := ⟨_, x0_⟩
  have f0 : W3.frozen? ⟨g9, 0, none⟩ = false := f0_
  clear x0_ f0_
  have hput : Kd.R (Kd.int .i64) 2 (W3.setCell ⟨g9, 0, none⟩ (.int .i64 1)) W2.heap.size (fun _ => True) (.slice (some ⟨g9, 0, none⟩) sz c9) ((List.replicate (sz : Int).toNat 0).set 0 1) := (Kd.R_putg hnw 0 1).1
  have l9 : g9 < W3.heap.size := Kd.R_lt hnw g9 rfl
  have i8 : (0 : Int) < sz := by omega
  have hF4 := hF3.far hg9 0 (.int .i64 1)
  have hb4 : Below W2.heap.size W2 (W3.setCell ⟨g9, 0, none⟩ (.int .i64 1)) := hb3.setCell hg9 _
  have HF4 := Lib.hid hF4; have HPUT := Lib.hid hput; have HB4 := Lib.hid hb4
  clear hF4 hput hb4 hF2 hF3 hnw hb3 hg3 hnew3
  go_upto_region 9 with fail
  generalize W3.setCell ⟨g9, 0, none⟩ (.int .i64 1) = W4 at HF4 HPUT HB4 ⊢
  have z5 : W4.cell? ⟨F, 5, none⟩ = some (.slice none 0 0) := HF4.out.bf.cell rfl
  have lF := HF4.out.bf.lt
  go_wp2_with (first | ((with_reducible refine gate_builtin (b := .append) (xs := #[.tmp 83, .tmp 85]) rfl ?_); at_builtin; refine Kd.S_append (Kd.slice 2 (Kd.int .i64)) (w0 := W4) W2.heap.size rfl (.tmp 83) (.tmp 85) 22 56 (.slice none 0 0) 24 rfl Try.underlying22 info56 rfl (by decide) (by omega) (.slice none 0 0) ([]) ((List.replicate (sz : Int).toNat 0).set 0 1) [.slice (some ⟨g9, 0, none⟩) sz c9] (fun _ => True) (fun k_ => some k_ = (.slice (some ⟨g9, 0, none⟩) sz c9 : Value).ownBlock) rfl rfl ?aP ?aK ?aF ?aO ?aB ?aS ?aL ?_; (case aP => exact Kd.M_row (Kd.R_tight rfl HPUT.out)); (case aK => exact fun k hk => ⟨trivial, by simp [Value.ownBlock]⟩); (case aF => exact fun _ _ => trivial); (case aO => exact Kd.S_nil _ _ _ _ _); (case aB => exact Below.refl _ _); (case aS => have := HF4.out.lN; have := HF4.out.lM; omega); (case aL => first | (rw [cntL_len]; omega) | (simp; done) | (simp; omega)); intro v1 W5 ho hb hg hat; have HO := Lib.hid ho; have HBA := Lib.hid hb; have HGA := Lib.hid hg; obtain ⟨Ac, cc, hv1⟩ := Kd.S_slice ho; have z6 : W5.cell? ⟨F, 5, none⟩ = some (.slice none 0 0) := (blk_cell (blk_grown HF4.out.bf hg (Kd.S_ne HF4.out.cnt HF4.out.bf (by decide))) 5).trans rfl; have f6 : W5.frozen? ⟨F, 5, none⟩ = false := blk_frozen (blk_grown HF4.out.bf hg (Kd.S_ne HF4.out.cnt HF4.out.bf (by decide))) 5; clear ho hb hg hat z5; subst hv1))
  have hF5 : FW w (W5.setCell ⟨F, 5, none⟩ (.slice Ac 1 cc)) W2.heap.size W5.heap.size F C A n c (some ⟨pb, po, none⟩) m1 c1 A2 m2 c2 (.slice (some ⟨pg, 0, none⟩) (rowLen plan 0 + 1) pc_) (.slice Ac 1 cc) (powL cn (rowLen plan 0)) (cntL cn plan bs (ts.map toS) 0) := by
    rw [cntL_zero, hsz]
    exact HF4.out.app HBA.out HO.out HGA.out
  generalize W5.setCell ⟨F, 5, none⟩ (.slice Ac 1 cc) = W6 at hF5 ⊢
  obtain ⟨M, hM⟩ : ∃ M_, M_ = W5.heap.size := ⟨_, rfl⟩
  rw [← hM] at hF5
  clear hM HBA HO HGA HF4 HPUT HB4 hg9 f6 z6 x0 f0 l9 i8
  have HF5 := Lib.hid hF5; clear hF5
  obtain ⟨N, hN⟩ : ∃ N_, N_ = W2.heap.size := ⟨_, rfl⟩
  rw [← hN] at HF5
  refine (size_any (some ⟨pb, po, none⟩) plan m1 c1 F W6 HM1.out (HA1.out.below HF5.out.be) h1 h5 w5 (HF5.out.bf.cell rfl)).mono ?_
  rintro e W7 ⟨rfl, hb7⟩
  have hF7 := HF5.out.to hb7
  have HF7 := Lib.hid hF7; clear hF7 hb7 HF5 hP2 hN lF
  go_upto_block 2 with fail
  have hpl : places plan ≤ 25 := by unfold places; exact Nat.mul_le_mul h5 w5
  go_cut [91] from 23 (fun s91 wx => ∃ cv M', FW w wx N M' F C A n c (some ⟨pb, po, none⟩) m1 c1 A2 m2 c2 (.slice (some ⟨pg, 0, none⟩) (rowLen plan 0 + 1) pc_) cv (powL cn (rowLen plan 0)) (cntL cn plan bs (ts.map toS) (places plan)))
  case first =>
   as_aux_lemma =>
    go_wp2_with fail
    go_loopw [91] (fun i wr => ∃ p : Nat, p ≤ places plan ∧ i = .int .i64 p ∧ ∃ cv M', FW w wr N M' F C A n c (some ⟨pb, po, none⟩) m1 c1 A2 m2 c2 (.slice (some ⟨pg, 0, none⟩) (rowLen plan 0 + 1) pc_) cv (powL cn (rowLen plan 0)) (cntL cn plan bs (ts.map toS) p)) (fun i _ => places plan - (intOf i).toNat)
    case atStart => exact ⟨0, by omega, rfl, _, _, HF7.out⟩
    case round =>
      obtain ⟨p, hp, rfl, cv, M, hF⟩ := hrel
      by_cases hlt : p < places plan
      · have i1 : (p : Int) < places plan := by omega
        obtain ⟨gc, cc', hcv⟩ : ∃ g c_, cv = .slice (some ⟨g, 0, none⟩) (p + 1) c_ := by
          obtain ⟨g, c_, e, -⟩ := Kd.S_form hF.cnt (by rw [cntL_len]; omega)
          rw [cntL_len] at e
          exact ⟨g, c_, e⟩
        subst hcv
        have HF := Lib.hid hF; clear hF
        have p9 : p ≤ 25 := by omega
        go_upto_region 14 with (first | ((with_reducible refine gate_dst (N := 95) rfl ?_); refine Kd.R_make (Kd.int .i64) (w0 := wr) wr.heap.size 2 rfl (N := 95) rfl 56 _ _ rfl (sz : Int) rfl rfl Try.underlying56 (.int .i64 0) 8 info2 rfl (by decide) (by omega) 0 (ok := fun _ => True) (okp := fun _ => True) rfl (fun _ hk => hk) trivial (by omega) (by omega) (Below.refl _ _) (Nat.le_refl _) ?_; intro nv W8 hnw hb8 hg8 hnew8))
        obtain ⟨gn, cn_, hnv⟩ : ∃ g c_, nv = .slice (some ⟨g, 0, none⟩) sz c_ := by
          obtain ⟨g, c_, e, -⟩ := Kd.R_form hnw (by simp; omega)
          exact ⟨g, c_, by rw [e]; simp⟩
        subst hnv
        have hgn : wr.heap.size ≤ gn := Kd.R_base hnw gn rfl
        have hF8 := (HF.out.rise HF.out.lM (Nat.le_refl _)).to hb8
        have hC8 := (Kd.S_reads' HF.out.cnt).2.2
        have z5 : W8.cell? ⟨F, 5, none⟩ = some (.slice (some ⟨gc, 0, none⟩) (p + 1) cc') := hF8.bf.cell rfl
        obtain ⟨b_, o_, A8, c8, e1, -, z8_, hri8, -, -⟩ := (rr_of_C hC8) p (by rw [cntL_len]; omega)
        injection e1 with e1; injection e1 with e4 e5; subst e4 e5
        have z8 := cell_to hb8 z8_
        clear z8_
        have hlen8 : rowLen (cntL cn plan bs (ts.map toS) p) p = sz := by rw [← hsz]; simp [rowLen, rowAt, cntL, List.getD_eq_getElem?_getD, fwd_len]
        have hrow8 : rowAt (cntL cn plan bs (ts.map toS) p) p = fwd (stepI cn plan bs (ts.map toS)) (ts.map toS).length sz p := by rw [← hsz]; simp [rowAt, cntL, List.getD_eq_getElem?_getD]
        rw [hlen8, Nat.zero_add] at z8
        rw [hrow8] at hri8
        have i2 : (p : Int) < (p : Int) + 1 := by omega
        have l8 := World.block_lt_of_cell? W8 _ z8
        have lF8 := World.block_lt_of_cell? W8 _ z5
        have HK8 := Lib.hid (fun k (hk : k < wr.heap.size) => hb8.block k hk)
        have HF8 := Lib.hid hF8; have HRI8 := Lib.hid hri8; have HNW := Lib.hid hnw
        clear hF8 hC8 hri8 hnw hb8 hg8 hnew8 hlen8 hrow8
        go_upto_block 4 with fail
        go_cut [104] from 92 to 148 (fun s104 wx => FW w wx N wr.heap.size F C A n c (some ⟨pb, po, none⟩) m1 c1 A2 m2 c2 (.slice (some ⟨pg, 0, none⟩) (rowLen plan 0 + 1) pc_) (.slice (some ⟨gc, 0, none⟩) (p + 1) cc') (powL cn (rowLen plan 0)) (cntL cn plan bs (ts.map toS) p) ∧ Kd.R (Kd.int .i64) 2 wx wr.heap.size (fun _ => True) (.slice (some ⟨gn, 0, none⟩) sz cn_) (fwd (stepI cn plan bs (ts.map toS)) (ts.map toS).length sz (p + 1)))
        case first =>
         as_aux_lemma =>
          obtain ⟨wo, rfl⟩ : ∃ wo : World, wo = wr := ⟨_, rfl⟩
          have hk8 : ∀ k, k < wo.heap.size → W8.heap[k]? = wo.heap[k]? := HK8.out
          go_wp2_with fail
          go_loopw [104] (fun i wr => ∃ s : Nat, s ≤ sz ∧ i = .int .i64 s ∧ FW w wr N wo.heap.size F C A n c (some ⟨pb, po, none⟩) m1 c1 A2 m2 c2 (.slice (some ⟨pg, 0, none⟩) (rowLen plan 0 + 1) pc_) (.slice (some ⟨gc, 0, none⟩) (p + 1) cc') (powL cn (rowLen plan 0)) (cntL cn plan bs (ts.map toS) p) ∧ (∀ k, k < wo.heap.size → wr.heap[k]? = wo.heap[k]?) ∧
            Kd.R (Kd.int .i64) 2 wr wo.heap.size (fun _ => True) (.slice (some ⟨gn, 0, none⟩) sz cn_) (uptoN (stepI cn plan bs (ts.map toS)) (ts.map toS).length sz p s 0)) (fun i _ => sz - (intOf i).toNat)
          case atStart => exact ⟨0, by omega, rfl, HF8.out, hk8, by have h := HNW.out; rw [Int.toNat_natCast] at h; rw [uptoN_start]; exact h⟩
          case round =>
            obtain ⟨s, hs, rfl, hFs, hks, hRs⟩ := hrel
            have HFs := Lib.hid hFs; have HKs := Lib.hid hks; have HRs := Lib.hid hRs
            clear hFs hks hRs hk8
            by_cases hlt : s < sz
            · have i3 : (s : Int) < sz := by omega
              have hsz8 : (fwd (stepI cn plan bs (ts.map toS)) (ts.map toS).length sz p).length = sz := fwd_len _ _ _ _
              obtain ⟨rb, ro, hRA, hrb, hx⟩ := (HRI8.out.keep HKs.out HFs.out.lM) s (by rw [hsz8]; exact hlt)
              subst hRA
              have y1 : wr.cell? ⟨w.heap.size, 1, none⟩ = some (.slice A n c) := HFs.out.bs.cell rfl
              obtain ⟨x8, hx8⟩ : ∃ z : Int, z = ik (fwd (stepI cn plan bs (ts.map toS)) (ts.map toS).length sz p) s := ⟨_, rfl⟩
              rw [← hx8] at hx
              have HX8 := Lib.hid hx8
              have lb := World.block_lt_of_cell? wr _ hx
              simp only at lb
              clear hx8 hsz8
              have hst : ∀ q, Stay (stepI cn plan bs (ts.map toS)) (ts.map toS).length sz q := fun q => by rw [← hsz]; exact nx_stay false cn (rowLen plan 0) (ts.map toS) _ HCN.out w1 HCOL.out q
              have HST := Lib.hid hst
              clear hst
              go_upto_block 6 with fail
              obtain ⟨wp, rfl⟩ : ∃ w_ : World, w_ = wr := ⟨_, rfl⟩
              go_wp2_with fail
              go_loopw [112] (fun i wr => ∃ j : Nat, j ≤ n ∧ i = .int .i64 j ∧ FW w wr N wo.heap.size F C A n c (some ⟨pb, po, none⟩) m1 c1 A2 m2 c2 (.slice (some ⟨pg, 0, none⟩) (rowLen plan 0 + 1) pc_) (.slice (some ⟨gc, 0, none⟩) (p + 1) cc') (powL cn (rowLen plan 0)) (cntL cn plan bs (ts.map toS) p) ∧ (∀ k, k < wo.heap.size → wr.heap[k]? = wo.heap[k]?) ∧
                Kd.R (Kd.int .i64) 2 wr wo.heap.size (fun _ => True) (.slice (some ⟨gn, 0, none⟩) sz cn_) (uptoN (stepI cn plan bs (ts.map toS)) (ts.map toS).length sz p s j)) (fun i _ => n - (intOf i).toNat)
              case atStart => exact ⟨0, by omega, rfl, HFs.out, HKs.out, HRs.out⟩
              case round =>
                obtain ⟨j, hj, rfl, hFt, hkt, hRt⟩ := hrel
                have HFt := Lib.hid hFt; have HKt := Lib.hid hkt; have HRt := Lib.hid hRt
                clear hFt hkt hRt hx y1 lb
                by_cases hjn : j < n
                · have i4 : (j : Int) < n := by omega
                  by_cases hx0 : x8 = 0
                  · subst hx0
                    go_wp2_with fail
                    go_roundw
                    case rel => exact ⟨s + 1, by omega, by go_num, HFt.out, HKt.out, by rw [← uptoN_dead HST.out hlt (by rw [List.length_map, ← HN.out]; exact hj) HX8.out.symm]; exact HRt.out⟩
                    case measure => simp [intOf]; omega
                  · have v0 : (x8 == 0) = false := by simp [hx0]
                    go_wp2_with fail
                    have HJN := Lib.hid hjn
                    refine (ifits_any C cn A ts n c (some ⟨pb, po, none⟩) plan m1 c1 A2 bs m2 c2 (some ⟨pg, 0, none⟩) (powL cn (rowLen plan 0)) (rowLen plan 0 + 1) pc_ F p s j _ HC.out HCN.out c6 HN.out (HA.out.below HFt.out.be) (by omega) HM1.out (HA1.out.below HFt.out.be) HM2.out (HA2.out.below HFt.out.be) (by rw [powL_len]) (ri_of_C (Kd.R_reads' HFt.out.row).2.2) HSH.out (powL_len _ _) (fun k hk => powL_at _ _ _ hk) HCOL.out (HFt.out.bf.cell rfl) (HFt.out.bf.cell rfl) (HFt.out.bf.cell rfl) (HFt.out.bf.cell rfl) (HFt.out.bf.cell rfl) ‹_› (by rw [hsz]; exact hlt) (by rw [← HN.out]; exact hjn)).mono ?_
                    rintro e W9 ⟨rfl, hb9⟩
                    have hF9 := HFt.out.to hb9
                    have hK9 : ∀ k, k < wo.heap.size → W9.heap[k]? = wo.heap[k]? := fun k hk => (hb9.block k (by have := HFt.out.lM; omega)).trans (HKt.out k hk)
                    have hR9 := Kd.R_below HRt.out hb9
                    generalize hT : stepI cn plan bs (ts.map toS) p s j = o
                    cases o with
                    | none =>
                      rw [← uptoN_none hT] at hR9
                      have HF9 := Lib.hid hF9; have HK9 := Lib.hid hK9; have HR9 := Lib.hid hR9
                      clear hF9 hK9 hR9 hb9 hT
                      simp only [outI, someB]
                      go_wp2_with fail
                      go_roundw
                      case rel => exact ⟨j + 1, by have := HJN.out; omega, by go_num, HF9.out, HK9.out, HR9.out⟩
                      case measure => simp [intOf]; omega
                    | some b =>
                      have hbz : b < sz := HST.out p s j b hlt (by rw [List.length_map, ← HN.out]; exact hjn) hT
                      have hbd := uptoN_bd (p := p) HST.out hlt (show j ≤ (ts.map toS).length by rw [List.length_map, ← HN.out]; exact hj) b
                      have hxd := bd_fwd (stepI cn plan bs (ts.map toS)) (ts.map toS).length sz p (fun q _ => HST.out q) s
                      obtain ⟨x0_, f0_⟩ := Kd.R_celln 0 hR9 (b : Int) (by omega) (by omega)
                      rw [Int.toNat_natCast, rdOf_getD] at x0_
                      rw [Int.toNat_natCast] at f0_
                      have hput := fun z => (Kd.R_putg hR9 (b : Int) z).1
                      rw [Int.toNat_natCast] at hput
                      have hst := uptoN_some (n := (ts.map toS).length) (c := sz) hT
                      rw [← HX8.out] at hst
                      have hxe : x8 = (fwd (stepI cn plan bs (ts.map toS)) (ts.map toS).length sz p).getD s 0 := HX8.out
                      rw [← hxe] at hxd
                      obtain ⟨v, hv⟩ : ∃ v_ : Int, v_ = (uptoN (stepI cn plan bs (ts.map toS)) (ts.map toS).length sz p s j).getD b 0 := ⟨_, rfl⟩
                      rw [← hv] at x0_ hst hbd
                      have x0 : W9.cell? ⟨gn, b, none⟩ = some (.int .i64 v) := x0_
                      have f0 : W9.frozen? ⟨gn, b, none⟩ = false := f0_
                      have i5 : (b : Int) < sz := by omega
                      have lgn := World.block_lt_of_cell? W9 _ x0
                      simp only at lgn
                      have HF9 := Lib.hid hF9; have HK9 := Lib.hid hK9; have HPUT := Lib.hid hput; have HST2 := Lib.hid hst
                      clear hF9 hK9 hR9 hb9 hT x0_ f0_ hput hst hxe hv
                      obtain ⟨bd1, bd2⟩ := hbd
                      obtain ⟨bd3, bd4⟩ := hxd
                      simp only [outI, someB]
                      go_wp2_with fail
                      have hcap : (if v + x8 < 1000000000000001 then v + x8 else 1000000000000001) = cap (v + x8) := by unfold cap; split <;> split <;> omega
                      rw [hcap]
                      refine ⟨⟨j + 1, by have := HJN.out; omega, by go_num, HF9.out.far hgn b _, fun k hk => (Below.heap_setCell W9 ⟨gn, b, none⟩ (.int .i64 (cap (v + x8))) k (by show k ≠ gn; omega)).trans (HK9.out k hk), by rw [HST2.out]; exact HPUT.out _⟩, by simp [intOf]; omega⟩
                · have i4 : ¬ (j : Int) < n := by omega
                  have e : j = n := by omega
                  have HEQ := Lib.hid e; clear e
                  go_wp2_with fail
                  go_roundw
                  case rel => exact ⟨s + 1, by omega, by go_num, HFt.out, HKt.out, by
                    have h := HRt.out
                    rw [HEQ.out, HN.out, show ts.length = (ts.map toS).length by rw [List.length_map], uptoN_all] at h
                    exact h⟩
                  case measure => simp [intOf]; omega
            · have i3 : ¬ (s : Int) < sz := by omega
              have e : s = sz := by omega
              subst e
              go_wp2_with fail
              go_meet
              refine ⟨HFs.out, ?_⟩
              rw [← uptoN_end]
              exact HRs.out
        case rest =>
        obtain ⟨hF9, hR9⟩ := hcut
        have hgcM : gc < wr.heap.size := by
          have h := (Kd.S_R hF9.cnt).1 gc rfl
          exact h
        have HF9 := Lib.hid hF9; have HR9 := Lib.hid hR9
        have hNM : N ≤ wr.heap.size := hF9.lN
        clear hF9 hR9 HF8 HRI8 HNW z5 z8 l8 lF8
        have z5 : wc.cell? ⟨F, 5, none⟩ = some (.slice (some ⟨gc, 0, none⟩) (p + 1) cc') := HF9.out.bf.cell rfl
        have lF := HF9.out.bf.lt
        go_wp2_with (first | ((with_reducible refine gate_builtin (b := .append) (xs := #[.tmp 142, .tmp 144]) rfl ?_); at_builtin; refine Kd.S_append (Kd.slice 2 (Kd.int .i64)) (w0 := wc) N rfl (.tmp 142) (.tmp 144) 22 56 (.slice none 0 0) 24 rfl Try.underlying22 info56 rfl (by decide) (by omega) (.slice (some ⟨gc, 0, none⟩) (p + 1) cc') (cntL cn plan bs (ts.map toS) p) (fwd (stepI cn plan bs (ts.map toS)) (ts.map toS).length sz (p + 1)) [.slice (some ⟨gn, 0, none⟩) sz cn_] (fun _ => True) (fun k_ => some k_ = (.slice (some ⟨gn, 0, none⟩) sz cn_ : Value).ownBlock) rfl rfl ?aP ?aK ?aF ?aO ?aB ?aS ?aL ?_; (case aP => exact Kd.M_row (Kd.R_tight rfl (Kd.R_lower HR9.out hNM))); (case aK => exact fun k hk => ⟨trivial, fun e => by have e2 : k = gn := Option.some.inj hk; have e3 : k = gc := Option.some.inj e; omega⟩); (case aF => exact fun _ _ => trivial); (case aO => exact (Kd.S_mono HF9.out.cnt (fun k hk => ⟨trivial, fun e => by have e2 : k = gn := Option.some.inj e; omega⟩))); (case aB => exact Below.refl _ _); (case aS => have := HF9.out.lN; have := HF9.out.lM; omega); (case aL => first | (rw [cntL_len]; omega) | (simp; done) | (simp; omega)); intro v1 W10 ho hb hg hat; have HO := Lib.hid ho; have HBA := Lib.hid hb; have HGA := Lib.hid hg; obtain ⟨Ac, cc, hv1⟩ := Kd.S_slice ho; have z6 : W10.cell? ⟨F, 5, none⟩ = some (.slice (some ⟨gc, 0, none⟩) (p + 1) cc') := (blk_cell (blk_grown HF9.out.bf hg (Kd.S_ne HF9.out.cnt HF9.out.bf (by decide))) 5).trans rfl; have f6 : W10.frozen? ⟨F, 5, none⟩ = false := blk_frozen (blk_grown HF9.out.bf hg (Kd.S_ne HF9.out.cnt HF9.out.bf (by decide))) 5; clear ho hb hg hat z5; subst hv1))
        have hF10 : FW w (W10.setCell ⟨F, 5, none⟩ (.slice Ac ((cntL cn plan bs (ts.map toS) p).length + 1) cc)) N W10.heap.size F C A n c (some ⟨pb, po, none⟩) m1 c1 A2 m2 c2 (.slice (some ⟨pg, 0, none⟩) (rowLen plan 0 + 1) pc_) (.slice Ac ((cntL cn plan bs (ts.map toS) p).length + 1) cc) (powL cn (rowLen plan 0)) (cntL cn plan bs (ts.map toS) (p + 1)) := by
          have h := HF9.out.app HBA.out HO.out HGA.out
          rw [cntL_succ, hsz]
          have e : (cntL cn plan bs (ts.map toS) p ++ [fwd (stepI cn plan bs (ts.map toS)) (ts.map toS).length sz (p + 1)]).length = (cntL cn plan bs (ts.map toS) p).length + 1 := by simp
          rw [e] at h
          exact h
        go_roundw
        case rel => exact ⟨p + 1, by omega, by go_num, _, _, hF10⟩
        case measure => simp [intOf]; omega
      · have i1 : ¬ (p : Int) < places plan := by omega
        have e : p = places plan := by omega
        subst e
        have HF := Lib.hid hF; clear hF
        go_wp2_with fail
        go_meet
        exact ⟨_, _, HF.out⟩
  case rest =>
  have HA_ := HA
  obtain ⟨cv, M, hF⟩ := hcut
  clear HF7
  obtain ⟨gc, cc', hcv⟩ : ∃ g c_, cv = .slice (some ⟨g, 0, none⟩) (places plan + 1) c_ := by
    obtain ⟨g, c_, e, -⟩ := Kd.S_form hF.cnt (by rw [cntL_len]; omega)
    rw [cntL_len] at e
    exact ⟨g, c_, e⟩
  subst hcv
  have HF := Lib.hid hF; clear hF
  have hst : ∀ q, Stay (stepI cn plan bs (ts.map toS)) (ts.map toS).length sz q := fun q => by rw [← hsz]; exact nx_stay false cn (rowLen plan 0) (ts.map toS) _ HCN.out w1 HCOL.out q
  have HST := Lib.hid hst
  clear hst
  go_wp2_with fail
  refine (size_any (some ⟨pb, po, none⟩) plan m1 c1 F wc HM1.out (HA1.out.below HF.out.be) h1 h5 w5 (HF.out.bf.cell rfl)).mono ?_
  rintro e W20 ⟨rfl, hb20⟩
  have hF20 := HF.out.to hb20
  have HF20 := Lib.hid hF20; clear hF20 hb20 HF
  have i20 : (places plan : Int) ≤ 25 := by omega
  go_upto_region 29 with (first | ((with_reducible refine gate_dst (N := 153) rfl ?_); refine Kd.S_make (Kd.slice 4 Kd.bool) (w0 := W20) W20.heap.size 62 rfl (N := 153) rfl 63 _ _ rfl ((places plan : Int) + 1) ?hx ?hy Try.underlying63 (.slice none 0 0) 24 infoBools rfl (by decide) (by omega) [] (ok := fun _ => True) (okp := fun _ => True) ⟨_, rfl, Kd.R_nil _ _ _ _ _⟩ (fun _ hk => hk) trivial (by omega) (by omega) (Below.refl _ _) (Nat.le_refl _) ?_; (case hx => first | rfl | (go_simp; done) | (go_simp; rfl)); (case hy => first | rfl | (go_simp; done) | (go_simp; rfl)); intro nv W21 hnw21 hb21 hg21 hnew21; (have hF21 := HF20.out.to hb21); (have z6 : W21.cell? ⟨F, 6, none⟩ = some (.slice none 0 0) := hF21.bf.cell rfl); (have f6 : W21.frozen? ⟨F, 6, none⟩ = false := hF21.bf.frozen 6); (have l6 := hF21.bf.lt); clear hF21; obtain ⟨ga, ca, hnv⟩ := rep_form hnw21 (m := places plan + 1) (by omega) (by omega); subst hnv))
  have hA22 := AW.start HF20.out hb21 hnw21
  rw [show ((places plan : Int) + 1).toNat = places plan + 1 by omega, ← alvL_top (stepI cn plan bs (ts.map toS)) (ts.map toS).length sz (places plan)] at hA22
  generalize W21.setCell ⟨F, 6, none⟩ (.slice (some ⟨ga, 0, none⟩) (places plan + 1) ca) = W22 at hA22 ⊢
  obtain ⟨M2, hM2⟩ : ∃ M_, M_ = W20.heap.size := ⟨_, rfl⟩
  rw [← hM2] at hA22
  have HA22 := Lib.hid hA22
  clear hA22 hM2 hnw21 hb21 hg21 hnew21 z6 f6 l6 HF20
  go_wp2_with fail
  refine (size_any (some ⟨pb, po, none⟩) plan m1 c1 F W22 HM1.out (HA1.out.below HA22.out.be) h1 h5 w5 (HA22.out.bf.cell rfl)).mono ?_
  rintro e W23 ⟨rfl, hb23⟩
  have hA23 := HA22.out.to hb23
  have HA23 := Lib.hid hA23; clear hA23 hb23 HA22
  go_upto_block 8 with fail
  go_wp2_with fail
  go_loopw [17] (fun i wr => ∃ (k : Nat) (z : Int), k ≤ places plan + 1 ∧ i = .int .i64 z ∧ z = (k : Int) - 1 ∧ AW w wr N M2 F C A n c (some ⟨pb, po, none⟩) m1 c1 A2 m2 c2 (.slice (some ⟨pg, 0, none⟩) (rowLen plan 0 + 1) pc_) (.slice (some ⟨gc, 0, none⟩) (places plan + 1) cc') (powL cn (rowLen plan 0)) (cntL cn plan bs (ts.map toS) (places plan)) ga (places plan + 1) ca (alvL (stepI cn plan bs (ts.map toS)) (ts.map toS).length sz (places plan) k)) (fun i _ => (intOf i + 1).toNat)
  case atStart => exact ⟨places plan + 1, _, by omega, rfl, by omega, HA23.out⟩
  case round =>
   as_aux_lemma =>
    obtain ⟨k, z, hk, rfl, hz, hA⟩ := hrel
    rcases k with _ | p
    · have i9 : ¬ z ≥ 0 := by omega
      have HZ := Lib.hid hz; clear hz
      have HA9 := Lib.hid hA; clear hA
      go_wp2_with fail
      go_ret
      refine ⟨F, rfl, HA9.out.be, HA9.out.gF, ?_⟩
      have h := HA9.out
      refine ⟨(some ⟨pg, 0, none⟩), pc_, gc, cc', ga, ca, ⟨h.bf.cell rfl, h.bf.cell rfl, h.bf.cell rfl, h.bf.cell rfl⟩, h.bf.cell rfl, h.bf.cell rfl, h.bf.cell rfl, ri_of_C (Kd.R_reads' h.row).2.2, rr_of_C (Kd.S_reads' h.cnt).2.2, ?_⟩
      rw [hsz]
      have h2 := h.alv
      have h3 := h.len
      rw [h3] at h2
      exact rb_of_S h2
    ·
     as_aux_lemma =>
      obtain rfl : z = (p : Int) := by omega
      have hp : p ≤ places plan := by omega
      have i1 : (0 : Int) ≤ (p : Int) := by omega
      have i2 : (p : Int) < ((places plan + 1 : Nat) : Int) := by omega
      have i3 : p < places plan + 1 := by omega
      have i4 : (p : Int) < (places plan : Int) + 1 := by omega
      obtain ⟨u0, z6, zp, fp, lg⟩ := hA.head i3
      clear hz
      go_upto_region 32 with fail
      have hD := (Below.refl wr.heap.size wr).drew
      refine start_ (n := 9) (S := fun w' => w'.cell? ⟨F, 6, none⟩ = some (.slice (some ⟨ga, 0, none⟩) (places plan + 1) ca)) (ds := [8]) #[false, false, false, false, false, false, false, false, false] (by kernel_rfl) rfl rfl (cell_to hD z6) (fun hHeld => ?_)
      refine with_tabW newf_tab32 newf_bits32 (fun HT_ HW_ => ?_)
      replace hA := hA.to hD
      generalize wr.drew = wd at hD hA hHeld ⊢
      refine pure_ (i := 0) (N := some 162) (v := ?_) (a' := ?_) #[true, false, false, false, false, false, false, false, false] rfl rfl (any_of HT_.out (by kernel_rfl)) (fun _ _ _ h => h) (Or.inl ⟨by rfl, ?_⟩) ?_ ?_
      rotate_left
      · intro w'
        go_simp
        with_reducible rfl
      rotate_left
      · simp only [Act.put, List.setIfInBounds_toArray, List.set_cons_zero, List.set_cons_succ, i64_w, i32_w]
        rfl
      refine pure_ (i := 1) (N := some 163) (v := ?_) (a' := ?_) #[true, true, false, false, false, false, false, false, false] rfl rfl (any_of HT_.out (by kernel_rfl)) (fun _ _ _ h => h) (Or.inl ⟨by rfl, ?_⟩) ?_ ?_
      rotate_left
      · intro w'
        go_simp
        with_reducible rfl
      rotate_left
      · simp only [Act.put, List.setIfInBounds_toArray, List.set_cons_zero, List.set_cons_succ, i64_w, i32_w]
        rfl
      refine pure_ (i := 2) (N := some 164) (v := ?_) (a' := ?_) #[true, true, true, false, false, false, false, false, false] rfl rfl (any_of HT_.out (by kernel_rfl)) (fun _ _ _ h => h) (Or.inl ⟨by rfl, ?_⟩) ?_ ?_
      rotate_left
      · intro w'
        go_simp
        with_reducible rfl
      rotate_left
      · simp only [Act.put, List.setIfInBounds_toArray, List.set_cons_zero, List.set_cons_succ, i64_w, i32_w]
        rfl
      refine pure_ (i := 4) (N := some 166) (v := ?_) (a' := ?_) #[true, true, true, false, true, false, false, false, false] rfl rfl (any_of HT_.out (by kernel_rfl)) (fun _ _ _ h => h) (Or.inl ⟨by rfl, ?_⟩) ?_ ?_
      rotate_left
      · intro w'
        go_simp
        with_reducible rfl
      rotate_left
      · simp only [Act.put, List.setIfInBounds_toArray, List.set_cons_zero, List.set_cons_succ, i64_w, i32_w]
        rfl
      refine pure_ (i := 5) (N := some 167) (v := ?_) (a' := ?_) #[true, true, true, false, true, true, false, false, false] rfl rfl (any_of HT_.out (by kernel_rfl)) (fun _ _ _ h => h) (Or.inl ⟨by rfl, ?_⟩) ?_ ?_
      rotate_left
      · intro w'
        go_simp
        with_reducible rfl
      rotate_left
      · simp only [Act.put, List.setIfInBounds_toArray, List.set_cons_zero, List.set_cons_succ, i64_w, i32_w]
        rfl
      refine take_ (i := 3) (N := some 165) (v := ?_) (a' := ?_) #[true, true, true, true, true, true, false, false, false] rfl rfl (take_ofW HT_.out HW_.out (by kernel_rfl)) (fun _ _ _ h => h) (Or.inl ⟨by rfl, ?_⟩) hHeld ?_ ?_
      rotate_left
      · intro w' s0
        go_simp
        with_reducible rfl
      rotate_left
      · simp only [Act.put, List.setIfInBounds_toArray, List.set_cons_zero, List.set_cons_succ, i64_w, i32_w]
        rfl
      refine one_ (i := 6) (N := some 168) #[true, true, true, true, true, true, true, false, false] rfl rfl (one_of HT_.out (by kernel_rfl)) (by decide) (fun K hK => ?_)
      refine Kd.R_make_step Kd.bool (w0 := wd) wd.heap.size 4 (by rfl) (N := 168) rfl 62 (.tmp 167) (.tmp 167) rfl (sz : Int) rfl rfl Try.underlying62 (.bool false) 1 infoBool rfl (by decide) (by omega) false (ok := fun _ => True) (okp := fun _ => True) rfl (fun _ hk => hk) trivial (by omega) (by omega) (Below.refl _ _) (Nat.le_refl _) ?_
      intro nv w168 hnw hb hg hnew
      rw [Int.toNat_natCast] at hnw
      obtain ⟨gr, cr, hnv⟩ := repR_form hnw rfl hs0
      subst hnv
      obtain ⟨u1, -, zz, fz, lz⟩ := (hA.to hb).head i3
      refine hK.out _ _ (cell_to hb hHeld) (fun hHeld => ?_)
      clear hK K
      refine norm_ (a' := ?_) ?_ ?_
      rotate_left
      · show Act.put _ (some 168) _ = _
        simp only [Act.put, List.setIfInBounds_toArray, List.set_cons_zero, List.set_cons_succ, i64_w, i32_w]
        rfl
      refine pure_ (i := 7) (N := some 169) (v := ?_) (a' := ?_) #[true, true, true, true, true, true, true, true, false] rfl rfl (any_of HT_.out (by kernel_rfl)) (fun _ _ _ h => h) (Or.inl ⟨by rfl, ?_⟩) ?_ ?_
      rotate_left
      · intro w'
        go_simp
        with_reducible rfl
      rotate_left
      · simp only [Act.put, List.setIfInBounds_toArray, List.set_cons_zero, List.set_cons_succ, i64_w, i32_w]
        rfl
      refine last_ (i := 8) (N := none) #[true, true, true, true, true, true, true, true, true] rfl rfl (one_of HT_.out (by kernel_rfl)) (by decide) (fun K hK => ?_)
      refine skip_ (w1 := ?_) (by rfl) rfl ?_ ?_
      rotate_left
      · go_simp
        rfl
      refine hK.out _ _ ?_
      clear hK K
      refine done_ (done_of HT_.out (by kernel_rfl)) ?_
      have hA3 := hA.put hb hnw i3
      rw [← alvTo_zero (stepI cn plan bs (ts.map toS)) (ts.map toS).length sz (places plan) p] at hA3
      generalize w168.setCell ⟨ga, p, none⟩ (.slice (some ⟨gr, 0, none⟩) sz cr) = W30 at hA3 ⊢
      have HA3 := Lib.hid hA3
      clear hA3 hA hb hnw hg hnew zp fp lg z6 hD u0
      try clear hHeld
      try clear fz zz lz
      have hC8 := (Kd.S_reads' HA3.out.cnt).2.2
      have z5 : W30.cell? ⟨F, 5, none⟩ = some (.slice (some ⟨gc, 0, none⟩) (places plan + 1) cc') := HA3.out.bf.cell rfl
      obtain ⟨b_, o_, A8, c8, e1, -, z8, hri8, -, -⟩ := (rr_of_C hC8) p (by rw [cntL_len]; omega)
      injection e1 with e1; injection e1 with e4 e5; subst e4 e5
      have hlen8 : rowLen (cntL cn plan bs (ts.map toS) (places plan)) p = sz := by rw [← hsz]; simp [rowLen, rowAt, cntL, List.getD_eq_getElem?_getD, List.getElem?_range i3, fwd_len]
      have hrow8 : rowAt (cntL cn plan bs (ts.map toS) (places plan)) p = fwd (stepI cn plan bs (ts.map toS)) (ts.map toS).length sz p := by rw [← hsz]; simp [rowAt, cntL, List.getD_eq_getElem?_getD, List.getElem?_range i3]
      rw [hlen8, Nat.zero_add] at z8
      rw [hrow8] at hri8
      have l8 := World.block_lt_of_cell? W30 _ z8
      have lF8 := World.block_lt_of_cell? W30 _ z5
      simp only at l8 lF8
      have HRI8 := Lib.hid hri8
      have HK0 := Lib.hid (show M2 ≤ W30.heap.size from HA3.out.lM)
      clear hC8 hri8 hlen8 hrow8
      go_upto_block 10 with fail
      obtain ⟨wq, rfl⟩ : ∃ w_ : World, w_ = W30 := ⟨_, rfl⟩
      go_wp2_with fail
      go_loopw [178] (fun i wr => ∃ s : Nat, s ≤ sz ∧ i = .int .i64 s ∧ AW w wr N M2 F C A n c (some ⟨pb, po, none⟩) m1 c1 A2 m2 c2 (.slice (some ⟨pg, 0, none⟩) (rowLen plan 0 + 1) pc_) (.slice (some ⟨gc, 0, none⟩) (places plan + 1) cc') (powL cn (rowLen plan 0)) (cntL cn plan bs (ts.map toS) (places plan)) ga (places plan + 1) ca ((alvL (stepI cn plan bs (ts.map toS)) (ts.map toS).length sz (places plan) (p + 1)).set p (alvTo (stepI cn plan bs (ts.map toS)) (ts.map toS).length sz (places plan) p s)) ∧ ∀ k, k < M2 → wr.heap[k]? = wq.heap[k]?) (fun i _ => sz - (intOf i).toNat)
      case atStart => exact ⟨0, by omega, rfl, HA3.out, fun k hk => rfl⟩
      case round =>
       as_aux_lemma =>
        obtain ⟨s, hs, rfl, hA, hK⟩ := hrel
        have HA := Lib.hid hA; have HK := Lib.hid hK; clear hA hK
        by_cases hlt : s < sz
        · have i5 : (s : Int) < sz := by omega
          have hsz8 : (fwd (stepI cn plan bs (ts.map toS)) (ts.map toS).length sz p).length = sz := fwd_len _ _ _ _
          obtain ⟨b_, o_, A9, c9_, e1, -, z9_, hri9, -, -⟩ := (rr_of_C (Kd.S_reads' HA.out.cnt).2.2) p (by rw [cntL_len]; omega)
          injection e1 with e1; injection e1 with e4 e5; subst e4 e5
          rw [Nat.zero_add, HA3.out.same HK.out, z8] at z9_
          injection z9_ with z9_; injection z9_ with z9_ e2_ e3_; subst z9_; clear e2_ e3_
          have hrow9 : rowAt (cntL cn plan bs (ts.map toS) (places plan)) p = fwd (stepI cn plan bs (ts.map toS)) (ts.map toS).length sz p := by rw [← hsz]; simp [rowAt, cntL, List.getD_eq_getElem?_getD, List.getElem?_range i3]
          rw [hrow9] at hri9
          obtain ⟨rb, ro, hRA, hrb, hx⟩ := hri9 s (by rw [hsz8]; exact hlt)
          subst hRA
          obtain ⟨x8, hx8⟩ : ∃ z : Int, z = ik (fwd (stepI cn plan bs (ts.map toS)) (ts.map toS).length sz p) s := ⟨_, rfl⟩
          rw [← hx8] at hx
          have HX8 := Lib.hid hx8
          clear hx8 hsz8 hri9 hrow9
          have HLT := Lib.hid hlt
          by_cases hx0 : x8 = 0
          · subst hx0
            go_wp2_with fail
            go_roundw
            case rel => exact ⟨s + 1, by omega, by go_num, by rw [← alvTo_dead _ _ _ _ _ _ HX8.out.symm]; exact HA.out, HK.out⟩
            case measure => simp [intOf]; omega
          ·
           as_aux_lemma =>
            have v0 : (x8 == 0) = false := by simp [hx0]
            have hrow : ((alvL (stepI cn plan bs (ts.map toS)) (ts.map toS).length sz (places plan) (p + 1)).set p (alvTo (stepI cn plan bs (ts.map toS)) (ts.map toS).length sz (places plan) p s)).getD p [] = alvTo (stepI cn plan bs (ts.map toS)) (ts.map toS).length sz (places plan) p s := gset (by rw [alvL_len]; exact i3)
            obtain ⟨gr, cr, z6, zp, -, -, -, -, -, -⟩ := HA.out.cell i3 (j := s) (by rw [hrow, alvTo_len]; exact hlt)
            rw [hrow, alvTo_len] at zp
            have hA := HA.out
            go_upto_region 37 with fail
            have hD := (Below.refl wr.heap.size wr).drew
            refine start_ (n := 14) (S := fun w' => w'.cell? ⟨F, 6, none⟩ = some (.slice (some ⟨ga, 0, none⟩) (places plan + 1) ca) ∧ w'.cell? ⟨ga, p, none⟩ = some (.slice (some ⟨gr, 0, none⟩) sz cr)) (ds := [13]) #[false, false, false, false, false, false, false, false, false, false, false, false, false, false] (by kernel_rfl) rfl rfl ⟨cell_to hD z6, cell_to hD zp⟩ (fun hHeld => ?_)
            refine with_tabW newf_tab37 newf_bits37 (fun HT_ HW_ => ?_)
            replace hA := hA.to hD
            generalize wr.drew = wd at hD hA hHeld ⊢
            refine pure_ (i := 0) (N := some 185) (v := ?_) (a' := ?_) #[true, false, false, false, false, false, false, false, false, false, false, false, false, false] rfl rfl (any_of HT_.out (by kernel_rfl)) (fun _ _ _ h => h) (Or.inl ⟨by rfl, ?_⟩) ?_ ?_
            rotate_left
            · intro w'
              go_simp
              with_reducible rfl
            rotate_left
            · simp only [Act.put, List.setIfInBounds_toArray, List.set_cons_zero, List.set_cons_succ, i64_w, i32_w]
              rfl
            refine pure_ (i := 1) (N := some 186) (v := ?_) (a' := ?_) #[true, true, false, false, false, false, false, false, false, false, false, false, false, false] rfl rfl (any_of HT_.out (by kernel_rfl)) (fun _ _ _ h => h) (Or.inl ⟨by rfl, ?_⟩) ?_ ?_
            rotate_left
            · intro w'
              go_simp
              with_reducible rfl
            rotate_left
            · simp only [Act.put, List.setIfInBounds_toArray, List.set_cons_zero, List.set_cons_succ, i64_w, i32_w]
              rfl
            refine pure_ (i := 2) (N := some 187) (v := ?_) (a' := ?_) #[true, true, true, false, false, false, false, false, false, false, false, false, false, false] rfl rfl (any_of HT_.out (by kernel_rfl)) (fun _ _ _ h => h) (Or.inl ⟨by rfl, ?_⟩) ?_ ?_
            rotate_left
            · intro w'
              go_simp
              with_reducible rfl
            rotate_left
            · simp only [Act.put, List.setIfInBounds_toArray, List.set_cons_zero, List.set_cons_succ, i64_w, i32_w]
              rfl
            refine pure_ (i := 4) (N := some 189) (v := ?_) (a' := ?_) #[true, true, true, false, true, false, false, false, false, false, false, false, false, false] rfl rfl (any_of HT_.out (by kernel_rfl)) (fun _ _ _ h => h) (Or.inl ⟨by rfl, ?_⟩) ?_ ?_
            rotate_left
            · intro w'
              go_simp
              with_reducible rfl
            rotate_left
            · simp only [Act.put, List.setIfInBounds_toArray, List.set_cons_zero, List.set_cons_succ, i64_w, i32_w]
              rfl
            refine pure_ (i := 7) (N := some 192) (v := ?_) (a' := ?_) #[true, true, true, false, true, false, false, true, false, false, false, false, false, false] rfl rfl (any_of HT_.out (by kernel_rfl)) (fun _ _ _ h => h) (Or.inl ⟨by rfl, ?_⟩) ?_ ?_
            rotate_left
            · intro w'
              go_simp
              with_reducible rfl
            rotate_left
            · simp only [Act.put, List.setIfInBounds_toArray, List.set_cons_zero, List.set_cons_succ, i64_w, i32_w]
              rfl
            refine pure_ (i := 8) (N := some 193) (v := ?_) (a' := ?_) #[true, true, true, false, true, false, false, true, true, false, false, false, false, false] rfl rfl (any_of HT_.out (by kernel_rfl)) (fun _ _ _ h => h) (Or.inl ⟨by rfl, ?_⟩) ?_ ?_
            rotate_left
            · intro w'
              go_simp
              with_reducible rfl
            rotate_left
            · simp only [Act.put, List.setIfInBounds_toArray, List.set_cons_zero, List.set_cons_succ, i64_w, i32_w]
              rfl
            refine pure_ (i := 9) (N := some 194) (v := ?_) (a' := ?_) #[true, true, true, false, true, false, false, true, true, true, false, false, false, false] rfl rfl (any_of HT_.out (by kernel_rfl)) (fun _ _ _ h => h) (Or.inl ⟨by rfl, ?_⟩) ?_ ?_
            rotate_left
            · intro w'
              go_simp
              with_reducible rfl
            rotate_left
            · simp only [Act.put, List.setIfInBounds_toArray, List.set_cons_zero, List.set_cons_succ, i64_w, i32_w]
              rfl
            refine take_ (i := 3) (N := some 188) (v := ?_) (a' := ?_) #[true, true, true, true, true, false, false, true, true, true, false, false, false, false] rfl rfl (take_ofW HT_.out HW_.out (by kernel_rfl)) (fun _ _ _ h => h) (Or.inl ⟨by rfl, ?_⟩) hHeld ?_ ?_
            rotate_left
            · rintro w' ⟨s0, s1⟩
              go_simp
              with_reducible rfl
            rotate_left
            · simp only [Act.put, List.setIfInBounds_toArray, List.set_cons_zero, List.set_cons_succ, i64_w, i32_w]
              rfl
            refine pure_ (i := 5) (N := some 190) (v := ?_) (a' := ?_) #[true, true, true, true, true, true, false, true, true, true, false, false, false, false] rfl rfl (any_of HT_.out (by kernel_rfl)) (fun _ _ _ h => h) (Or.inl ⟨by rfl, ?_⟩) ?_ ?_
            rotate_left
            · intro w'
              go_simp
              with_reducible rfl
            rotate_left
            · simp only [Act.put, List.setIfInBounds_toArray, List.set_cons_zero, List.set_cons_succ, i64_w, i32_w]
              rfl
            refine take_ (i := 6) (N := some 191) (v := ?_) (a' := ?_) #[true, true, true, true, true, true, true, true, true, true, false, false, false, false] rfl rfl (take_ofW HT_.out HW_.out (by kernel_rfl)) (fun _ _ _ h => h) (Or.inl ⟨by rfl, ?_⟩) hHeld ?_ ?_
            rotate_left
            · rintro w' ⟨s0, s1⟩
              go_simp
              with_reducible rfl
            rotate_left
            · simp only [Act.put, List.setIfInBounds_toArray, List.set_cons_zero, List.set_cons_succ, i64_w, i32_w]
              rfl
            refine one_ (i := 10) (N := some 195) #[true, true, true, true, true, true, true, true, true, true, true, false, false, false] rfl rfl (one_of HT_.out (by kernel_rfl)) (by decide) (fun K hK => ?_)
            refine goes_ Try.func74 (by kernel_rfl) rfl #[.pointer (some ⟨F, 0, none⟩)] (by rfl) rfl rfl (by simp only [List.map_toArray, List.map_cons, List.map_nil]; rfl) ?_
            with_reducible refine (size_any (some ⟨pb, po, none⟩) plan m1 c1 F wd HM1.out (HA1.out.below hA.be) h1 h5 w5 (hA.bf.cell rfl)).mono ?_
            rintro e w195 ⟨rfl, hbs⟩
            refine ⟨_, rfl, ?_⟩
            obtain ⟨hgr, fz, zz, lz, hput⟩ := (hA.to hbs).frozen i3 (by rw [hrow, alvTo_len]; exact HLT.out) (cell_to hbs hHeld.2)
            have hK4 : ∀ k, k < M2 → (w195.setCell ⟨gr, s, none⟩ (.bool ((p : Int) == ((places plan : Nat) : Int)))).heap[k]? = wq.heap[k]? := fun k hk => (Below.heap_setCell w195 ⟨gr, s, none⟩ _ k (by show k ≠ gr; omega)).trans ((hbs.block k (by have := hA.lM; omega)).trans ((hD.block k (by have := HA.out.lM; omega)).trans (HK.out k hk)))
            refine hK.out _ _ ⟨cell_to hbs hHeld.1, cell_to hbs hHeld.2⟩ (fun hHeld => ?_)
            clear hK K
            refine norm_ (a' := ?_) ?_ ?_
            rotate_left
            · show Act.put _ (some 195) _ = _
              simp only [Act.put, List.setIfInBounds_toArray, List.set_cons_zero, List.set_cons_succ, i64_w, i32_w]
              rfl
            refine pure_ (i := 11) (N := some 196) (v := ?_) (a' := ?_) #[true, true, true, true, true, true, true, true, true, true, true, true, false, false] rfl rfl (any_of HT_.out (by kernel_rfl)) (fun _ _ _ h => h) (Or.inl ⟨by rfl, ?_⟩) ?_ ?_
            rotate_left
            · intro w'
              go_simp
              with_reducible rfl
            rotate_left
            · simp only [Act.put, List.setIfInBounds_toArray, List.set_cons_zero, List.set_cons_succ, i64_w, i32_w]
              rfl
            refine pure_ (i := 12) (N := some 197) (v := ?_) (a' := ?_) #[true, true, true, true, true, true, true, true, true, true, true, true, true, false] rfl rfl (any_of HT_.out (by kernel_rfl)) (fun _ _ _ h => h) (Or.inl ⟨by rfl, ?_⟩) ?_ ?_
            rotate_left
            · intro w'
              go_simp
              with_reducible rfl
            rotate_left
            · simp only [Act.put, List.setIfInBounds_toArray, List.set_cons_zero, List.set_cons_succ, i64_w, i32_w]
              rfl
            refine last_ (i := 13) (N := none) #[true, true, true, true, true, true, true, true, true, true, true, true, true, true] rfl rfl (one_of HT_.out (by kernel_rfl)) (by decide) (fun K hK => ?_)
            refine skip_ (w1 := ?_) (by rfl) rfl ?_ ?_
            rotate_left
            · go_simp
              rfl
            refine hK.out _ _ ?_
            clear hK K
            refine done_ (done_of HT_.out (by kernel_rfl)) ?_
            have hA4 := hput ((p : Int) == ((places plan : Nat) : Int))
            rw [hrow, List.set_set] at hA4
            generalize hbq : ((p : Int) == ((places plan : Nat) : Int)) = bq at hA4 hK4 ⊢
            have hq : bq = nowT (stepI cn plan bs (ts.map toS)) (ts.map toS).length sz (places plan) p s 0 := by rw [nowT_zero, ← hbq]; exact (Bool.eq_iff_iff.2 (by rw [beq_iff_eq, decide_eq_true_eq]; omega))
            clear hbq
            generalize w195.setCell ⟨gr, s, none⟩ (.bool bq) = W31 at hA4 hK4 ⊢
            rw [hq] at hA4
            clear hq
            have HA4 := Lib.hid hA4; have HK4 := Lib.hid hK4
            have y1 : W31.cell? ⟨w.heap.size, 1, none⟩ = some (.slice A n c) := hA4.bs.cell rfl
            have ly := hA4.bs.lt
            clear hA4 hK4 hD hA hput hrow
            try clear hHeld
            try clear fz zz lz hbs
            clear zp z6 hx hrb HA HK
            obtain ⟨wt, rfl⟩ : ∃ w_ : World, w_ = W31 := ⟨_, rfl⟩
            go_upto_block 12 with fail
            go_wp2_with fail
            go_loopw [201] (fun i wr => ∃ j : Nat, j ≤ n ∧ i = .int .i64 j ∧ AW w wr N M2 F C A n c (some ⟨pb, po, none⟩) m1 c1 A2 m2 c2 (.slice (some ⟨pg, 0, none⟩) (rowLen plan 0 + 1) pc_) (.slice (some ⟨gc, 0, none⟩) (places plan + 1) cc') (powL cn (rowLen plan 0)) (cntL cn plan bs (ts.map toS) (places plan)) ga (places plan + 1) ca ((alvL (stepI cn plan bs (ts.map toS)) (ts.map toS).length sz (places plan) (p + 1)).set p ((alvTo (stepI cn plan bs (ts.map toS)) (ts.map toS).length sz (places plan) p s).set s (nowT (stepI cn plan bs (ts.map toS)) (ts.map toS).length sz (places plan) p s j))) ∧ ∀ k, k < M2 → wr.heap[k]? = wq.heap[k]?) (fun i _ => n - (intOf i).toNat)
            case atStart => exact ⟨0, by omega, rfl, HA4.out, HK4.out⟩
            case round =>
             as_aux_lemma =>
              obtain ⟨j, hj, rfl, hA, hK⟩ := hrel
              have HA := Lib.hid hA; have HK := Lib.hid hK
              clear hA hK y1 ly
              have HJ := Lib.hid (show j ≤ (ts.map toS).length by rw [List.length_map, ← HN.out]; exact hj)
              have HX0 := Lib.hid (show ik (fwd (stepI cn plan bs (ts.map toS)) (ts.map toS).length sz p) s ≠ 0 by rw [← HX8.out]; exact hx0)
              have HP := Lib.hid hp
              by_cases hjn : j < n
              · have i6 : (j : Int) < n := by omega
                have HJN := Lib.hid hjn
                by_cases hpP : p = places plan
                · have hA0 := HA.out
                  rw [alv_done HST.out HLT.out HP.out HX0.out HJ.out (.inl (nowT_top _ _ _ _ _ _ _ hpP))] at hA0
                  have HA0 := Lib.hid hA0
                  clear hA0 HA
                  subst hpP
                  go_wp2_with fail
                  refine (size_any (some ⟨pb, po, none⟩) plan m1 c1 F wr HM1.out (HA1.out.below HA0.out.be) h1 h5 w5 (HA0.out.bf.cell rfl)).mono ?_
                  rintro e W41 ⟨rfl, hb41⟩
                  have hA41 := HA0.out.to hb41
                  have hK41 : ∀ k, k < M2 → W41.heap[k]? = wq.heap[k]? := fun k hk => (hb41.block k (by have := HA0.out.lM; omega)).trans (HK.out k hk)
                  have HA41 := Lib.hid hA41; have HK41 := Lib.hid hK41
                  clear hA41 hK41 hb41
                  go_wp2_with fail
                  go_roundw
                  case rel => exact ⟨s + 1, by have := HLT.out; omega, by go_num, HA41.out, HK41.out⟩
                  case measure => simp [intOf]; have := HLT.out; omega
                ·
                 as_aux_lemma =>
                  have hpl2 : p < places plan := by omega
                  have vP : ((p : Int) == ((places plan : Nat) : Int)) = false := by simp; omega
                  go_wp2_with fail
                  refine (size_any (some ⟨pb, po, none⟩) plan m1 c1 F wr HM1.out (HA1.out.below HA.out.be) h1 h5 w5 (HA.out.bf.cell rfl)).mono ?_
                  rintro e W41 ⟨rfl, hb41⟩
                  have hA41 := HA.out.to hb41
                  have hK41 : ∀ k, k < M2 → W41.heap[k]? = wq.heap[k]? := fun k hk => (hb41.block k (by have := HA.out.lM; omega)).trans (HK.out k hk)
                  have hrow : ((alvL (stepI cn plan bs (ts.map toS)) (ts.map toS).length sz (places plan) (p + 1)).set p ((alvTo (stepI cn plan bs (ts.map toS)) (ts.map toS).length sz (places plan) p s).set s (nowT (stepI cn plan bs (ts.map toS)) (ts.map toS).length sz (places plan) p s j))).getD p [] = (alvTo (stepI cn plan bs (ts.map toS)) (ts.map toS).length sz (places plan) p s).set s (nowT (stepI cn plan bs (ts.map toS)) (ts.map toS).length sz (places plan) p s j) := gset (by rw [alvL_len]; exact i3)
                  obtain ⟨gr', cr', z6, zp, zs, -, lF, lga, lgr, -⟩ := hA41.cell i3 (j := s) (by rw [hrow, List.length_set, alvTo_len]; exact HLT.out)
                  rw [hrow, List.length_set, alvTo_len] at zp
                  rw [hrow, bget (by rw [alvTo_len]; exact HLT.out)] at zs
                  have HROW := Lib.hid hrow
                  clear hrow
                  cases hv : (nowT (stepI cn plan bs (ts.map toS)) (ts.map toS).length sz (places plan) p s j) with
                  | true =>
                   as_aux_lemma =>
                    rw [hv] at zs
                    rw [alv_done HST.out HLT.out HP.out HX0.out HJ.out (.inl hv)] at hA41
                    have HA41 := Lib.hid hA41; have HK41 := Lib.hid hK41
                    clear hA41 hK41 hb41 hv HROW
                    go_wp2_with fail
                    go_roundw
                    case rel => exact ⟨s + 1, by have := HLT.out; omega, by go_num, HA41.out, HK41.out⟩
                    case measure => simp [intOf]; have := HLT.out; omega
                  | false =>
                   as_aux_lemma =>
                    rw [hv] at zs
                    have HA41 := Lib.hid hA41; have HK41 := Lib.hid hK41; have HV := Lib.hid hv
                    clear hA41 hK41 hb41 hv
                    go_wp2_with fail
                    refine (ifits_any C cn A ts n c (some ⟨pb, po, none⟩) plan m1 c1 A2 bs m2 c2 (some ⟨pg, 0, none⟩) (powL cn (rowLen plan 0)) (rowLen plan 0 + 1) pc_ F p s j W41 HC.out HCN.out c6 HN.out (HA_.out.below HA41.out.be) (by omega) HM1.out (HA1.out.below HA41.out.be) HM2.out (HA2.out.below HA41.out.be) (by rw [powL_len]) (ri_of_C (Kd.R_reads' HA41.out.row).2.2) HSH.out (powL_len _ _) (fun k hk => powL_at _ _ _ hk) HCOL.out (HA41.out.bf.cell rfl) (HA41.out.bf.cell rfl) (HA41.out.bf.cell rfl) (HA41.out.bf.cell rfl) (HA41.out.bf.cell rfl) hpl2 (by rw [hsz]; exact HLT.out) (by rw [← HN.out]; exact hjn)).mono ?_
                    rintro e W42 ⟨rfl, hb42⟩
                    have hA := HA41.out.to hb42
                    have hK42 : ∀ k, k < M2 → W42.heap[k]? = wq.heap[k]? := fun k hk => (hb42.block k (by have := HA41.out.lM; omega)).trans (HK41.out k hk)
                    replace z6 := cell_to hb42 z6; replace zp := cell_to hb42 zp
                    have HK42 := Lib.hid hK42
                    clear hK42 hb42 zs lF lga lgr HA41 HK41
                    generalize hT : stepI cn plan bs (ts.map toS) p s j = o
                    cases o with
                    | none =>
                     as_aux_lemma =>
                      have HT3 := Lib.hid hT; clear hT
                      simp only [outI, someB]
                      go_upto_region 43 with fail
                      have hD := (Below.refl W42.heap.size W42).drew
                      refine start_ (n := 24) (S := fun w' => w'.cell? ⟨F, 6, none⟩ = some (.slice (some ⟨ga, 0, none⟩) (places plan + 1) ca) ∧ w'.cell? ⟨ga, p, none⟩ = some (.slice (some ⟨gr', 0, none⟩) sz cr')) (ds := [23]) #[false, false, false, false, false, false, false, false, false, false, false, false, false, false, false, false, false, false, false, false, false, false, false, false] (by kernel_rfl) rfl rfl ⟨cell_to hD z6, cell_to hD zp⟩ (fun hHeld => ?_)
                      refine with_tabW newf_tab43 newf_bits43 (fun HT_ HW_ => ?_)
                      have HM42 := Lib.hid hA.lM
                      replace hA := hA.to hD
                      generalize W42.drew = wd at hD hA hHeld ⊢
                      refine pure_ (i := 0) (N := some 228) (v := ?_) (a' := ?_) #[true, false, false, false, false, false, false, false, false, false, false, false, false, false, false, false, false, false, false, false, false, false, false, false] rfl rfl (any_of HT_.out (by kernel_rfl)) (fun _ _ _ h => h) (Or.inl ⟨by rfl, ?_⟩) ?_ ?_
                      rotate_left
                      · intro w'
                        go_simp
                        with_reducible rfl
                      rotate_left
                      · simp only [Act.put, List.setIfInBounds_toArray, List.set_cons_zero, List.set_cons_succ, i64_w, i32_w]
                        rfl
                      refine pure_ (i := 1) (N := some 229) (v := ?_) (a' := ?_) #[true, true, false, false, false, false, false, false, false, false, false, false, false, false, false, false, false, false, false, false, false, false, false, false] rfl rfl (any_of HT_.out (by kernel_rfl)) (fun _ _ _ h => h) (Or.inl ⟨by rfl, ?_⟩) ?_ ?_
                      rotate_left
                      · intro w'
                        go_simp
                        with_reducible rfl
                      rotate_left
                      · simp only [Act.put, List.setIfInBounds_toArray, List.set_cons_zero, List.set_cons_succ, i64_w, i32_w]
                        rfl
                      refine pure_ (i := 2) (N := some 230) (v := ?_) (a' := ?_) #[true, true, true, false, false, false, false, false, false, false, false, false, false, false, false, false, false, false, false, false, false, false, false, false] rfl rfl (any_of HT_.out (by kernel_rfl)) (fun _ _ _ h => h) (Or.inl ⟨by rfl, ?_⟩) ?_ ?_
                      rotate_left
                      · intro w'
                        go_simp
                        with_reducible rfl
                      rotate_left
                      · simp only [Act.put, List.setIfInBounds_toArray, List.set_cons_zero, List.set_cons_succ, i64_w, i32_w]
                        rfl
                      refine pure_ (i := 4) (N := some 232) (v := ?_) (a' := ?_) #[true, true, true, false, true, false, false, false, false, false, false, false, false, false, false, false, false, false, false, false, false, false, false, false] rfl rfl (any_of HT_.out (by kernel_rfl)) (fun _ _ _ h => h) (Or.inl ⟨by rfl, ?_⟩) ?_ ?_
                      rotate_left
                      · intro w'
                        go_simp
                        with_reducible rfl
                      rotate_left
                      · simp only [Act.put, List.setIfInBounds_toArray, List.set_cons_zero, List.set_cons_succ, i64_w, i32_w]
                        rfl
                      refine pure_ (i := 7) (N := some 235) (v := ?_) (a' := ?_) #[true, true, true, false, true, false, false, true, false, false, false, false, false, false, false, false, false, false, false, false, false, false, false, false] rfl rfl (any_of HT_.out (by kernel_rfl)) (fun _ _ _ h => h) (Or.inl ⟨by rfl, ?_⟩) ?_ ?_
                      rotate_left
                      · intro w'
                        go_simp
                        with_reducible rfl
                      rotate_left
                      · simp only [Act.put, List.setIfInBounds_toArray, List.set_cons_zero, List.set_cons_succ, i64_w, i32_w]
                        rfl
                      refine pure_ (i := 8) (N := some 236) (v := ?_) (a' := ?_) #[true, true, true, false, true, false, false, true, true, false, false, false, false, false, false, false, false, false, false, false, false, false, false, false] rfl rfl (any_of HT_.out (by kernel_rfl)) (fun _ _ _ h => h) (Or.inl ⟨by rfl, ?_⟩) ?_ ?_
                      rotate_left
                      · intro w'
                        go_simp
                        with_reducible rfl
                      rotate_left
                      · simp only [Act.put, List.setIfInBounds_toArray, List.set_cons_zero, List.set_cons_succ, i64_w, i32_w]
                        rfl
                      refine pure_ (i := 9) (N := some 237) (v := ?_) (a' := ?_) #[true, true, true, false, true, false, false, true, true, true, false, false, false, false, false, false, false, false, false, false, false, false, false, false] rfl rfl (any_of HT_.out (by kernel_rfl)) (fun _ _ _ h => h) (Or.inl ⟨by rfl, ?_⟩) ?_ ?_
                      rotate_left
                      · intro w'
                        go_simp
                        with_reducible rfl
                      rotate_left
                      · simp only [Act.put, List.setIfInBounds_toArray, List.set_cons_zero, List.set_cons_succ, i64_w, i32_w]
                        rfl
                      refine pure_ (i := 10) (N := some 238) (v := undef) (a' := ?_) #[true, true, true, false, true, false, false, true, true, true, true, false, false, false, false, false, false, false, false, false, false, false, false, false] rfl rfl (any_of HT_.out (by kernel_rfl)) (fun _ _ _ h => h) (Or.inr ⟨by rfl, rfl⟩) ?_ ?_
                      rotate_left
                      · simp only [Act.put, List.setIfInBounds_toArray, List.set_cons_zero, List.set_cons_succ, i64_w, i32_w]
                        rfl
                      refine pure_ (i := 11) (N := some 239) (v := undef) (a' := ?_) #[true, true, true, false, true, false, false, true, true, true, true, true, false, false, false, false, false, false, false, false, false, false, false, false] rfl rfl (any_of HT_.out (by kernel_rfl)) (fun _ _ _ h => h) (Or.inr ⟨by rfl, rfl⟩) ?_ ?_
                      rotate_left
                      · simp only [Act.put, List.setIfInBounds_toArray, List.set_cons_zero, List.set_cons_succ, i64_w, i32_w]
                        rfl
                      refine pure_ (i := 12) (N := some 240) (v := undef) (a' := ?_) #[true, true, true, false, true, false, false, true, true, true, true, true, true, false, false, false, false, false, false, false, false, false, false, false] rfl rfl (any_of HT_.out (by kernel_rfl)) (fun _ _ _ h => h) (Or.inr ⟨by rfl, rfl⟩) ?_ ?_
                      rotate_left
                      · simp only [Act.put, List.setIfInBounds_toArray, List.set_cons_zero, List.set_cons_succ, i64_w, i32_w]
                        rfl
                      refine pure_ (i := 13) (N := some 241) (v := undef) (a' := ?_) #[true, true, true, false, true, false, false, true, true, true, true, true, true, true, false, false, false, false, false, false, false, false, false, false] rfl rfl (any_of HT_.out (by kernel_rfl)) (fun _ _ _ h => h) (Or.inr ⟨by rfl, rfl⟩) ?_ ?_
                      rotate_left
                      · simp only [Act.put, List.setIfInBounds_toArray, List.set_cons_zero, List.set_cons_succ, i64_w, i32_w]
                        rfl
                      refine pure_ (i := 14) (N := some 242) (v := undef) (a' := ?_) #[true, true, true, false, true, false, false, true, true, true, true, true, true, true, true, false, false, false, false, false, false, false, false, false] rfl rfl (any_of HT_.out (by kernel_rfl)) (fun _ _ _ h => h) (Or.inr ⟨by rfl, rfl⟩) ?_ ?_
                      rotate_left
                      · simp only [Act.put, List.setIfInBounds_toArray, List.set_cons_zero, List.set_cons_succ, i64_w, i32_w]
                        rfl
                      refine pure_ (i := 15) (N := some 243) (v := undef) (a' := ?_) #[true, true, true, false, true, false, false, true, true, true, true, true, true, true, true, true, false, false, false, false, false, false, false, false] rfl rfl (any_of HT_.out (by kernel_rfl)) (fun _ _ _ h => h) (Or.inr ⟨by rfl, rfl⟩) ?_ ?_
                      rotate_left
                      · simp only [Act.put, List.setIfInBounds_toArray, List.set_cons_zero, List.set_cons_succ, i64_w, i32_w]
                        rfl
                      refine pure_ (i := 16) (N := some 244) (v := undef) (a' := ?_) #[true, true, true, false, true, false, false, true, true, true, true, true, true, true, true, true, true, false, false, false, false, false, false, false] rfl rfl (any_of HT_.out (by kernel_rfl)) (fun _ _ _ h => h) (Or.inr ⟨by rfl, rfl⟩) ?_ ?_
                      rotate_left
                      · simp only [Act.put, List.setIfInBounds_toArray, List.set_cons_zero, List.set_cons_succ, i64_w, i32_w]
                        rfl
                      refine pure_ (i := 17) (N := some 245) (v := undef) (a' := ?_) #[true, true, true, false, true, false, false, true, true, true, true, true, true, true, true, true, true, true, false, false, false, false, false, false] rfl rfl (any_of HT_.out (by kernel_rfl)) (fun _ _ _ h => h) (Or.inr ⟨by rfl, rfl⟩) ?_ ?_
                      rotate_left
                      · simp only [Act.put, List.setIfInBounds_toArray, List.set_cons_zero, List.set_cons_succ, i64_w, i32_w]
                        rfl
                      refine pure_ (i := 18) (N := some 246) (v := undef) (a' := ?_) #[true, true, true, false, true, false, false, true, true, true, true, true, true, true, true, true, true, true, true, false, false, false, false, false] rfl rfl (any_of HT_.out (by kernel_rfl)) (fun _ _ _ h => h) (Or.inr ⟨by rfl, rfl⟩) ?_ ?_
                      rotate_left
                      · simp only [Act.put, List.setIfInBounds_toArray, List.set_cons_zero, List.set_cons_succ, i64_w, i32_w]
                        rfl
                      refine pure_ (i := 19) (N := some 247) (v := undef) (a' := ?_) #[true, true, true, false, true, false, false, true, true, true, true, true, true, true, true, true, true, true, true, true, false, false, false, false] rfl rfl (any_of HT_.out (by kernel_rfl)) (fun _ _ _ h => h) (Or.inr ⟨by rfl, rfl⟩) ?_ ?_
                      rotate_left
                      · simp only [Act.put, List.setIfInBounds_toArray, List.set_cons_zero, List.set_cons_succ, i64_w, i32_w]
                        rfl
                      refine pure_ (i := 20) (N := some 248) (v := undef) (a' := ?_) #[true, true, true, false, true, false, false, true, true, true, true, true, true, true, true, true, true, true, true, true, true, false, false, false] rfl rfl (any_of HT_.out (by kernel_rfl)) (fun _ _ _ h => h) (Or.inr ⟨by rfl, rfl⟩) ?_ ?_
                      rotate_left
                      · simp only [Act.put, List.setIfInBounds_toArray, List.set_cons_zero, List.set_cons_succ, i64_w, i32_w]
                        rfl
                      refine pure_ (i := 21) (N := some 249) (v := ?_) (a' := ?_) #[true, true, true, false, true, false, false, true, true, true, true, true, true, true, true, true, true, true, true, true, true, true, false, false] rfl rfl (any_of HT_.out (by kernel_rfl)) (fun _ _ _ h => h) (Or.inl ⟨by rfl, ?_⟩) ?_ ?_
                      rotate_left
                      · intro w'
                        go_simp
                        with_reducible rfl
                      rotate_left
                      · simp only [Act.put, List.setIfInBounds_toArray, List.set_cons_zero, List.set_cons_succ, i64_w, i32_w]
                        rfl
                      refine take_ (i := 3) (N := some 231) (v := ?_) (a' := ?_) #[true, true, true, true, true, false, false, true, true, true, true, true, true, true, true, true, true, true, true, true, true, true, false, false] rfl rfl (take_ofW HT_.out HW_.out (by kernel_rfl)) (fun _ _ _ h => h) (Or.inl ⟨by rfl, ?_⟩) hHeld ?_ ?_
                      rotate_left
                      · rintro w' ⟨s0, s1⟩
                        go_simp
                        with_reducible rfl
                      rotate_left
                      · simp only [Act.put, List.setIfInBounds_toArray, List.set_cons_zero, List.set_cons_succ, i64_w, i32_w]
                        rfl
                      refine pure_ (i := 5) (N := some 233) (v := ?_) (a' := ?_) #[true, true, true, true, true, true, false, true, true, true, true, true, true, true, true, true, true, true, true, true, true, true, false, false] rfl rfl (any_of HT_.out (by kernel_rfl)) (fun _ _ _ h => h) (Or.inl ⟨by rfl, ?_⟩) ?_ ?_
                      rotate_left
                      · intro w'
                        go_simp
                        with_reducible rfl
                      rotate_left
                      · simp only [Act.put, List.setIfInBounds_toArray, List.set_cons_zero, List.set_cons_succ, i64_w, i32_w]
                        rfl
                      refine take_ (i := 6) (N := some 234) (v := ?_) (a' := ?_) #[true, true, true, true, true, true, true, true, true, true, true, true, true, true, true, true, true, true, true, true, true, true, false, false] rfl rfl (take_ofW HT_.out HW_.out (by kernel_rfl)) (fun _ _ _ h => h) (Or.inl ⟨by rfl, ?_⟩) hHeld ?_ ?_
                      rotate_left
                      · rintro w' ⟨s0, s1⟩
                        go_simp
                        with_reducible rfl
                      rotate_left
                      · simp only [Act.put, List.setIfInBounds_toArray, List.set_cons_zero, List.set_cons_succ, i64_w, i32_w]
                        rfl
                      refine pure_ (i := 22) (N := some 250) (v := ?_) (a' := ?_) #[true, true, true, true, true, true, true, true, true, true, true, true, true, true, true, true, true, true, true, true, true, true, true, false] rfl rfl (any_of HT_.out (by kernel_rfl)) (fun _ _ _ h => h) (Or.inl ⟨by rfl, ?_⟩) ?_ ?_
                      rotate_left
                      · intro w'
                        go_simp
                        with_reducible rfl
                      rotate_left
                      · simp only [Act.put, List.setIfInBounds_toArray, List.set_cons_zero, List.set_cons_succ, i64_w, i32_w]
                        rfl
                      refine last_ (i := 23) (N := none) #[true, true, true, true, true, true, true, true, true, true, true, true, true, true, true, true, true, true, true, true, true, true, true, true] rfl rfl (one_of HT_.out (by kernel_rfl)) (by decide) (fun K hK => ?_)
                      obtain ⟨hgr, fz, zz, lz, hput⟩ := hA.frozen i3 (by rw [HROW.out, List.length_set, alvTo_len]; exact HLT.out) hHeld.2
                      refine skip_ (w1 := ?_) (by rfl) rfl ?_ ?_
                      rotate_left
                      · go_simp
                        rfl
                      refine hK.out _ _ ?_
                      clear hK K
                      refine done_ (done_of HT_.out (by kernel_rfl)) ?_
                      have hA43 := hput false
                      rw [HROW.out, List.set_set, List.set_set] at hA43
                      have hK43 : ∀ k, k < M2 → (wd.setCell ⟨gr', s, none⟩ (.bool false)).heap[k]? = wq.heap[k]? := fun k hk => (Below.heap_setCell wd ⟨gr', s, none⟩ (.bool false) k (by show k ≠ gr'; omega)).trans ((hD.block k (by have := HM42.out; omega)).trans (HK42.out k hk))
                      rw [show ((alvTo (stepI cn plan bs (ts.map toS)) (ts.map toS).length sz (places plan) p s).set s false) = ((alvTo (stepI cn plan bs (ts.map toS)) (ts.map toS).length sz (places plan) p s).set s (nowT (stepI cn plan bs (ts.map toS)) (ts.map toS).length sz (places plan) p s (j + 1))) by rw [nowT_succ, HT3.out, hit, Bool.or_false, HV.out]] at hA43
                      generalize wd.setCell ⟨gr', s, none⟩ (.bool false) = W43 at hA43 hK43 ⊢
                      have HA43 := Lib.hid hA43; have HK43 := Lib.hid hK43
                      clear hA43 hK43 hA hD hput z6 zp fz zz lz
                      try clear hHeld
                      go_wp2_with fail
                      go_roundw
                      case rel => exact ⟨j + 1, by have := HJN.out; omega, by go_num, HA43.out, HK43.out⟩
                      case measure => simp [intOf]; have := HJN.out; omega
                    | some b =>
                     as_aux_lemma =>
                      have hbz : b < sz := HST.out p s j b HLT.out (by rw [List.length_map, ← HN.out]; exact hjn) hT
                      have HT3 := Lib.hid hT; clear hT
                      have i10 : p + 1 < places plan + 1 := by omega
                      have hrq : ((alvL (stepI cn plan bs (ts.map toS)) (ts.map toS).length sz (places plan) (p + 1)).set p ((alvTo (stepI cn plan bs (ts.map toS)) (ts.map toS).length sz (places plan) p s).set s (nowT (stepI cn plan bs (ts.map toS)) (ts.map toS).length sz (places plan) p s j))).getD (p + 1) [] = alvRow (stepI cn plan bs (ts.map toS)) (ts.map toS).length sz (places plan) (p + 1) := by
                        rw [gset_ne (by omega), alvL_get _ _ _ _ _ _ (by omega) (Nat.le_refl _)]
                      obtain ⟨gq, cq, -, zq, zb, -, -, -, -, -⟩ := hA.cell i10 (j := b) (by rw [hrq, alvRow_len]; exact hbz)
                      rw [hrq, alvRow_len] at zq
                      rw [hrq, alvRow_get _ _ _ _ _ _ hbz] at zb
                      obtain ⟨vb, hvb⟩ : ∃ v_ : Bool, v_ = alvAt (stepI cn plan bs (ts.map toS)) (ts.map toS).length sz (places plan) (p + 1) b := ⟨_, rfl⟩
                      rw [← hvb] at zb
                      have HVB := Lib.hid hvb
                      clear hvb hrq
                      have i11 : (b : Int) < sz := by omega
                      have i12 : (p : Int) + 1 < (places plan : Int) + 1 := by omega
                      have i14 : ((p + 1 : Nat) : Int) < (places plan : Int) + 1 := by omega
                      have i13 : (0 : Int) ≤ (p : Int) + 1 := by omega
                      simp only [outI, someB]
                      go_upto_region 43 with fail
                      have hD := (Below.refl W42.heap.size W42).drew
                      refine start_ (n := 24) (S := fun w' => w'.cell? ⟨F, 6, none⟩ = some (.slice (some ⟨ga, 0, none⟩) (places plan + 1) ca) ∧ w'.cell? ⟨ga, p, none⟩ = some (.slice (some ⟨gr', 0, none⟩) sz cr') ∧ w'.cell? ⟨ga, p + 1, none⟩ = some (.slice (some ⟨gq, 0, none⟩) sz cq) ∧ w'.cell? ⟨gq, b, none⟩ = some (.bool vb)) (ds := [23]) #[false, false, false, false, false, false, false, false, false, false, false, false, false, false, false, false, false, false, false, false, false, false, false, false] (by kernel_rfl) rfl rfl ⟨cell_to hD z6, cell_to hD zp, cell_to hD zq, cell_to hD zb⟩ (fun hHeld => ?_)
                      refine with_tabW newf_tab43 newf_bits43 (fun HT_ HW_ => ?_)
                      have HM42 := Lib.hid hA.lM
                      replace hA := hA.to hD
                      generalize W42.drew = wd at hD hA hHeld ⊢
                      refine pure_ (i := 0) (N := some 228) (v := ?_) (a' := ?_) #[true, false, false, false, false, false, false, false, false, false, false, false, false, false, false, false, false, false, false, false, false, false, false, false] rfl rfl (any_of HT_.out (by kernel_rfl)) (fun _ _ _ h => h) (Or.inl ⟨by rfl, ?_⟩) ?_ ?_
                      rotate_left
                      · intro w'
                        go_simp
                        with_reducible rfl
                      rotate_left
                      · simp only [Act.put, List.setIfInBounds_toArray, List.set_cons_zero, List.set_cons_succ, i64_w, i32_w]
                        rfl
                      refine pure_ (i := 1) (N := some 229) (v := ?_) (a' := ?_) #[true, true, false, false, false, false, false, false, false, false, false, false, false, false, false, false, false, false, false, false, false, false, false, false] rfl rfl (any_of HT_.out (by kernel_rfl)) (fun _ _ _ h => h) (Or.inl ⟨by rfl, ?_⟩) ?_ ?_
                      rotate_left
                      · intro w'
                        go_simp
                        with_reducible rfl
                      rotate_left
                      · simp only [Act.put, List.setIfInBounds_toArray, List.set_cons_zero, List.set_cons_succ, i64_w, i32_w]
                        rfl
                      refine pure_ (i := 2) (N := some 230) (v := ?_) (a' := ?_) #[true, true, true, false, false, false, false, false, false, false, false, false, false, false, false, false, false, false, false, false, false, false, false, false] rfl rfl (any_of HT_.out (by kernel_rfl)) (fun _ _ _ h => h) (Or.inl ⟨by rfl, ?_⟩) ?_ ?_
                      rotate_left
                      · intro w'
                        go_simp
                        with_reducible rfl
                      rotate_left
                      · simp only [Act.put, List.setIfInBounds_toArray, List.set_cons_zero, List.set_cons_succ, i64_w, i32_w]
                        rfl
                      refine pure_ (i := 4) (N := some 232) (v := ?_) (a' := ?_) #[true, true, true, false, true, false, false, false, false, false, false, false, false, false, false, false, false, false, false, false, false, false, false, false] rfl rfl (any_of HT_.out (by kernel_rfl)) (fun _ _ _ h => h) (Or.inl ⟨by rfl, ?_⟩) ?_ ?_
                      rotate_left
                      · intro w'
                        go_simp
                        with_reducible rfl
                      rotate_left
                      · simp only [Act.put, List.setIfInBounds_toArray, List.set_cons_zero, List.set_cons_succ, i64_w, i32_w]
                        rfl
                      refine pure_ (i := 7) (N := some 235) (v := ?_) (a' := ?_) #[true, true, true, false, true, false, false, true, false, false, false, false, false, false, false, false, false, false, false, false, false, false, false, false] rfl rfl (any_of HT_.out (by kernel_rfl)) (fun _ _ _ h => h) (Or.inl ⟨by rfl, ?_⟩) ?_ ?_
                      rotate_left
                      · intro w'
                        go_simp
                        with_reducible rfl
                      rotate_left
                      · simp only [Act.put, List.setIfInBounds_toArray, List.set_cons_zero, List.set_cons_succ, i64_w, i32_w]
                        rfl
                      refine pure_ (i := 8) (N := some 236) (v := ?_) (a' := ?_) #[true, true, true, false, true, false, false, true, true, false, false, false, false, false, false, false, false, false, false, false, false, false, false, false] rfl rfl (any_of HT_.out (by kernel_rfl)) (fun _ _ _ h => h) (Or.inl ⟨by rfl, ?_⟩) ?_ ?_
                      rotate_left
                      · intro w'
                        go_simp
                        with_reducible rfl
                      rotate_left
                      · simp only [Act.put, List.setIfInBounds_toArray, List.set_cons_zero, List.set_cons_succ, i64_w, i32_w]
                        rfl
                      refine pure_ (i := 9) (N := some 237) (v := ?_) (a' := ?_) #[true, true, true, false, true, false, false, true, true, true, false, false, false, false, false, false, false, false, false, false, false, false, false, false] rfl rfl (any_of HT_.out (by kernel_rfl)) (fun _ _ _ h => h) (Or.inl ⟨by rfl, ?_⟩) ?_ ?_
                      rotate_left
                      · intro w'
                        go_simp
                        with_reducible rfl
                      rotate_left
                      · simp only [Act.put, List.setIfInBounds_toArray, List.set_cons_zero, List.set_cons_succ, i64_w, i32_w]
                        rfl
                      refine pure_ (i := 10) (N := some 238) (v := ?_) (a' := ?_) #[true, true, true, false, true, false, false, true, true, true, true, false, false, false, false, false, false, false, false, false, false, false, false, false] rfl rfl (any_of HT_.out (by kernel_rfl)) (fun _ _ _ h => h) (Or.inl ⟨by rfl, ?_⟩) ?_ ?_
                      rotate_left
                      · intro w'
                        go_simp
                        with_reducible rfl
                      rotate_left
                      · simp only [Act.put, List.setIfInBounds_toArray, List.set_cons_zero, List.set_cons_succ, i64_w, i32_w]
                        rfl
                      refine pure_ (i := 11) (N := some 239) (v := ?_) (a' := ?_) #[true, true, true, false, true, false, false, true, true, true, true, true, false, false, false, false, false, false, false, false, false, false, false, false] rfl rfl (any_of HT_.out (by kernel_rfl)) (fun _ _ _ h => h) (Or.inl ⟨by rfl, ?_⟩) ?_ ?_
                      rotate_left
                      · intro w'
                        go_simp
                        with_reducible rfl
                      rotate_left
                      · simp only [Act.put, List.setIfInBounds_toArray, List.set_cons_zero, List.set_cons_succ, i64_w, i32_w]
                        rfl
                      refine pure_ (i := 12) (N := some 240) (v := ?_) (a' := ?_) #[true, true, true, false, true, false, false, true, true, true, true, true, true, false, false, false, false, false, false, false, false, false, false, false] rfl rfl (any_of HT_.out (by kernel_rfl)) (fun _ _ _ h => h) (Or.inl ⟨by rfl, ?_⟩) ?_ ?_
                      rotate_left
                      · intro w'
                        go_simp
                        with_reducible rfl
                      rotate_left
                      · simp only [Act.put, List.setIfInBounds_toArray, List.set_cons_zero, List.set_cons_succ, i64_w, i32_w]
                        rfl
                      refine pure_ (i := 14) (N := some 242) (v := ?_) (a' := ?_) #[true, true, true, false, true, false, false, true, true, true, true, true, true, false, true, false, false, false, false, false, false, false, false, false] rfl rfl (any_of HT_.out (by kernel_rfl)) (fun _ _ _ h => h) (Or.inl ⟨by rfl, ?_⟩) ?_ ?_
                      rotate_left
                      · intro w'
                        go_simp
                        with_reducible rfl
                      rotate_left
                      · simp only [Act.put, List.setIfInBounds_toArray, List.set_cons_zero, List.set_cons_succ, i64_w, i32_w]
                        rfl
                      refine pure_ (i := 15) (N := some 243) (v := ?_) (a' := ?_) #[true, true, true, false, true, false, false, true, true, true, true, true, true, false, true, true, false, false, false, false, false, false, false, false] rfl rfl (any_of HT_.out (by kernel_rfl)) (fun _ _ _ h => h) (Or.inl ⟨by rfl, ?_⟩) ?_ ?_
                      rotate_left
                      · intro w'
                        go_simp
                        with_reducible rfl
                      rotate_left
                      · simp only [Act.put, List.setIfInBounds_toArray, List.set_cons_zero, List.set_cons_succ, i64_w, i32_w]
                        rfl
                      rw [succ_wrap p (by omega)]
                      refine pure_ (i := 18) (N := some 246) (v := ?_) (a' := ?_) #[true, true, true, false, true, false, false, true, true, true, true, true, true, false, true, true, false, false, true, false, false, false, false, false] rfl rfl (any_of HT_.out (by kernel_rfl)) (fun _ _ _ h => h) (Or.inl ⟨by rfl, ?_⟩) ?_ ?_
                      rotate_left
                      · intro w'
                        go_simp
                        with_reducible rfl
                      rotate_left
                      · simp only [Act.put, List.setIfInBounds_toArray, List.set_cons_zero, List.set_cons_succ, i64_w, i32_w]
                        rfl
                      refine take_ (i := 3) (N := some 231) (v := ?_) (a' := ?_) #[true, true, true, true, true, false, false, true, true, true, true, true, true, false, true, true, false, false, true, false, false, false, false, false] rfl rfl (take_ofW HT_.out HW_.out (by kernel_rfl)) (fun _ _ _ h => h) (Or.inl ⟨by rfl, ?_⟩) hHeld ?_ ?_
                      rotate_left
                      · rintro w' ⟨s0, s1, s2, s3⟩
                        go_simp
                        with_reducible rfl
                      rotate_left
                      · simp only [Act.put, List.setIfInBounds_toArray, List.set_cons_zero, List.set_cons_succ, i64_w, i32_w]
                        rfl
                      refine pure_ (i := 5) (N := some 233) (v := ?_) (a' := ?_) #[true, true, true, true, true, true, false, true, true, true, true, true, true, false, true, true, false, false, true, false, false, false, false, false] rfl rfl (any_of HT_.out (by kernel_rfl)) (fun _ _ _ h => h) (Or.inl ⟨by rfl, ?_⟩) ?_ ?_
                      rotate_left
                      · intro w'
                        go_simp
                        with_reducible rfl
                      rotate_left
                      · simp only [Act.put, List.setIfInBounds_toArray, List.set_cons_zero, List.set_cons_succ, i64_w, i32_w]
                        rfl
                      refine take_ (i := 6) (N := some 234) (v := ?_) (a' := ?_) #[true, true, true, true, true, true, true, true, true, true, true, true, true, false, true, true, false, false, true, false, false, false, false, false] rfl rfl (take_ofW HT_.out HW_.out (by kernel_rfl)) (fun _ _ _ h => h) (Or.inl ⟨by rfl, ?_⟩) hHeld ?_ ?_
                      rotate_left
                      · rintro w' ⟨s0, s1, s2, s3⟩
                        go_simp
                        with_reducible rfl
                      rotate_left
                      · simp only [Act.put, List.setIfInBounds_toArray, List.set_cons_zero, List.set_cons_succ, i64_w, i32_w]
                        rfl
                      refine take_ (i := 13) (N := some 241) (v := ?_) (a' := ?_) #[true, true, true, true, true, true, true, true, true, true, true, true, true, true, true, true, false, false, true, false, false, false, false, false] rfl rfl (take_ofW HT_.out HW_.out (by kernel_rfl)) (fun _ _ _ h => h) (Or.inl ⟨by rfl, ?_⟩) hHeld ?_ ?_
                      rotate_left
                      · rintro w' ⟨s0, s1, s2, s3⟩
                        go_simp
                        with_reducible rfl
                      rotate_left
                      · simp only [Act.put, List.setIfInBounds_toArray, List.set_cons_zero, List.set_cons_succ, i64_w, i32_w]
                        rfl
                      refine pure_ (i := 16) (N := some 244) (v := ?_) (a' := ?_) #[true, true, true, true, true, true, true, true, true, true, true, true, true, true, true, true, true, false, true, false, false, false, false, false] rfl rfl (any_of HT_.out (by kernel_rfl)) (fun _ _ _ h => h) (Or.inl ⟨by rfl, ?_⟩) ?_ ?_
                      rotate_left
                      · intro w'
                        go_simp
                        with_reducible rfl
                      rotate_left
                      · simp only [Act.put, List.setIfInBounds_toArray, List.set_cons_zero, List.set_cons_succ, i64_w, i32_w]
                        rfl
                      refine take_ (i := 17) (N := some 245) (v := ?_) (a' := ?_) #[true, true, true, true, true, true, true, true, true, true, true, true, true, true, true, true, true, true, true, false, false, false, false, false] rfl rfl (take_ofW HT_.out HW_.out (by kernel_rfl)) (fun _ _ _ h => h) (Or.inl ⟨by rfl, ?_⟩) hHeld ?_ ?_
                      rotate_left
                      · rintro w' ⟨s0, s1, s2, s3⟩
                        go_simp
                        with_reducible rfl
                      rotate_left
                      · simp only [Act.put, List.setIfInBounds_toArray, List.set_cons_zero, List.set_cons_succ, i64_w, i32_w]
                        rfl
                      refine pure_ (i := 19) (N := some 247) (v := ?_) (a' := ?_) #[true, true, true, true, true, true, true, true, true, true, true, true, true, true, true, true, true, true, true, true, false, false, false, false] rfl rfl (any_of HT_.out (by kernel_rfl)) (fun _ _ _ h => h) (Or.inl ⟨by rfl, ?_⟩) ?_ ?_
                      rotate_left
                      · intro w'
                        go_simp
                        with_reducible rfl
                      rotate_left
                      · simp only [Act.put, List.setIfInBounds_toArray, List.set_cons_zero, List.set_cons_succ, i64_w, i32_w]
                        rfl
                      refine take_ (i := 20) (N := some 248) (v := ?_) (a' := ?_) #[true, true, true, true, true, true, true, true, true, true, true, true, true, true, true, true, true, true, true, true, true, false, false, false] rfl rfl (take_ofW HT_.out HW_.out (by kernel_rfl)) (fun _ _ _ h => h) (Or.inl ⟨by rfl, ?_⟩) hHeld ?_ ?_
                      rotate_left
                      · rintro w' ⟨s0, s1, s2, s3⟩
                        go_simp
                        with_reducible rfl
                      rotate_left
                      · simp only [Act.put, List.setIfInBounds_toArray, List.set_cons_zero, List.set_cons_succ, i64_w, i32_w]
                        rfl
                      refine pure_ (i := 21) (N := some 249) (v := ?_) (a' := ?_) #[true, true, true, true, true, true, true, true, true, true, true, true, true, true, true, true, true, true, true, true, true, true, false, false] rfl rfl (any_of HT_.out (by kernel_rfl)) (fun _ _ _ h => h) (Or.inl ⟨by rfl, ?_⟩) ?_ ?_
                      rotate_left
                      · intro w'
                        go_simp
                        with_reducible rfl
                      rotate_left
                      · simp only [Act.put, List.setIfInBounds_toArray, List.set_cons_zero, List.set_cons_succ, i64_w, i32_w]
                        rfl
                      refine pure_ (i := 22) (N := some 250) (v := ?_) (a' := ?_) #[true, true, true, true, true, true, true, true, true, true, true, true, true, true, true, true, true, true, true, true, true, true, true, false] rfl rfl (any_of HT_.out (by kernel_rfl)) (fun _ _ _ h => h) (Or.inl ⟨by rfl, ?_⟩) ?_ ?_
                      rotate_left
                      · intro w'
                        go_simp
                        with_reducible rfl
                      rotate_left
                      · simp only [Act.put, List.setIfInBounds_toArray, List.set_cons_zero, List.set_cons_succ, i64_w, i32_w]
                        rfl
                      refine last_ (i := 23) (N := none) #[true, true, true, true, true, true, true, true, true, true, true, true, true, true, true, true, true, true, true, true, true, true, true, true] rfl rfl (one_of HT_.out (by kernel_rfl)) (by decide) (fun K hK => ?_)
                      obtain ⟨hgr, fz, zz, lz, hput⟩ := hA.frozen i3 (by rw [HROW.out, List.length_set, alvTo_len]; exact HLT.out) hHeld.2.1
                      refine skip_ (w1 := ?_) (by rfl) rfl ?_ ?_
                      rotate_left
                      · go_simp
                        rfl
                      refine hK.out _ _ ?_
                      clear hK K
                      refine done_ (done_of HT_.out (by kernel_rfl)) ?_
                      have hA43 := hput vb
                      rw [HROW.out, List.set_set, List.set_set] at hA43
                      have hK43 : ∀ k, k < M2 → (wd.setCell ⟨gr', s, none⟩ (.bool vb)).heap[k]? = wq.heap[k]? := fun k hk => (Below.heap_setCell wd ⟨gr', s, none⟩ (.bool vb) k (by show k ≠ gr'; omega)).trans ((hD.block k (by have := HM42.out; omega)).trans (HK42.out k hk))
                      rw [show ((alvTo (stepI cn plan bs (ts.map toS)) (ts.map toS).length sz (places plan) p s).set s vb) = ((alvTo (stepI cn plan bs (ts.map toS)) (ts.map toS).length sz (places plan) p s).set s (nowT (stepI cn plan bs (ts.map toS)) (ts.map toS).length sz (places plan) p s (j + 1))) by rw [nowT_succ, HT3.out, HV.out, Bool.false_or, HVB.out]; rfl] at hA43
                      generalize wd.setCell ⟨gr', s, none⟩ (.bool vb) = W43 at hA43 hK43 ⊢
                      have HA43 := Lib.hid hA43; have HK43 := Lib.hid hK43
                      clear hA43 hK43 hA hD hput z6 zp zq zb fz zz lz
                      try clear hHeld
                      go_wp2_with fail
                      go_roundw
                      case rel => exact ⟨j + 1, by have := HJN.out; omega, by go_num, HA43.out, HK43.out⟩
                      case measure => simp [intOf]; have := HJN.out; omega
              · have i6 : ¬ (j : Int) < n := by omega
                have e : j = (ts.map toS).length := by rw [List.length_map, ← HN.out]; omega
                have hA9 := HA.out
                rw [alv_done HST.out HLT.out HP.out HX0.out HJ.out (.inr e)] at hA9
                have HA9 := Lib.hid hA9
                clear hA9 e
                go_wp2_with fail
                go_roundw
                case rel => exact ⟨s + 1, by have := HLT.out; omega, by go_num, HA9.out, HK.out⟩
                case measure => simp [intOf]; have := HLT.out; omega
        · have i5 : ¬ (s : Int) < sz := by omega
          have e : s = sz := by omega
          subst e
          go_wp2_with fail
          go_roundw
          case rel => exact ⟨p, _, by omega, by go_num, by omega, by rw [← alvL_set, ← alvTo_all]; exact HA.out⟩
          case measure => simp [intOf]
end Go.Proofs.Ytcaikaflpmaocaa
namespace Go.Proofs.Ytcaikaflpmaocaa.Q
open Go Go.RowKit Go.Proofs Go.Proofs.Ytcaikaflpmaocaa Go.Proofs.YtcaikaflpmaocaaW.PrintWords Go.Proofs.YtcaikaflpmaocaaW.PrintLast Go.Proofs.YtcaikaflpmaocaaW.PrintMore
set_option linter.unusedVariables false
set_option linter.unusedSimpArgs false
def spec_l03Number.f (k : Nat) (a0_0 : Int) (l0_1 : List STile) (a1 : Int) (a2 : Int) : Option (Int) := (spec_l03Free.f k a1 a2).bind fun t189 => ((spec_l03Open.f).bind fun t192 => ((spec_l03Layers.f k a0_0 l0_1 t189 t192).bind fun t195 => (if 0 < (t195.length : Int) then (if 0 < ((rd_L1 t195 0).length : Int) then (some (rd (rd_L1 t195 0) 0)) else (none)) else (none))))
theorem spec_l03Number.mono : ∀ a0 a1 a2 a3 k, LeO (spec_l03Number.f k a0 a1 a2 a3) (spec_l03Number.f (k + 1) a0 a1 a2 a3) := by
  intro a0 a1 a2 a3 k
  unfold spec_l03Number.f
  repeat' first
    | exact spec_l03Free.mono _ _ _
    | exact spec_l03Layers.mono _ _ _ _ _
    | (with_reducible exact LeO.refl _)
    | refine LeO.bind ?_ (fun _ => ?_)
def spec_l03Number.T1 : Bool × List (List Nat × List Nat) := (true, [([], []), ([], []), ([], []), ([1, 2], [1, 2]), ([3], []), ([0, 3, 4, 4], [0, 3, 4]), ([5], [5]), ([6], [6]), ([7], [7]), ([8], [8]), ([9, 5, 0, 1, 2, 3, 4, 5, 6, 7, 8, 9], [9])])
def spec_l03Number.B1 : List Nat := [0, 0, 0, 6, 14, 31, 63, 127, 255, 511, 1023]
theorem spec_l03Number.tab1 : rtab .any (opsOf Try.f45 1) = spec_l03Number.T1 := by kernel_rfl
theorem spec_l03Number.bits1 : waitsOk spec_l03Number.T1.2 spec_l03Number.B1 = true := by kernel_rfl
set_option maxHeartbeats 8000000 in
set_option maxRecDepth 100000 in
theorem spec_l03Number.calls (k : Nat) (a0_0 : Int) (A0_1 : Option Addr) (c0_1 : Nat) (l0_1 : List STile) (a1 : Int) (a2 : Int) (r : Int) (w : World) (hr0_1 : Kd.C k85 w A0_1 l0_1.length l0_1) (hc0_1 : l0_1.length ≤ c0_1) (h : spec_l03Number.f k a0_0 l0_1 a1 a2 = some r) :
    Calls Try.prog 45 #[.agg #[.int .i64 a0_0, .slice A0_1 l0_1.length c0_1], .int .i64 a1, .int .i64 a2] w fun e w' => e = .returned (.int .i64 r) ∧ Below w.heap.size w w' := by
  unfold spec_l03Number.f at h
  obtain ⟨t189, h4, h⟩ := Option.bind_eq_some_iff.1 h
  obtain ⟨t192, h5, h⟩ := Option.bind_eq_some_iff.1 h
  obtain ⟨t195, h6, h⟩ := Option.bind_eq_some_iff.1 h
  have HA4 := Lib.hid h4; have HA5 := Lib.hid h5; have HA6 := Lib.hid h6; have HR0 := Lib.hid hr0_1; have HC0 := Lib.hid hc0_1
  by_cases c7 : 0 < (t195.length : Int)
  rotate_left
  · rw [if_neg c7] at h; cases h
  rw [if_pos c7] at h
  by_cases c8 : 0 < ((rd_L1 t195 0).length : Int)
  rotate_left
  · rw [if_neg c8] at h; cases h
  rw [if_pos c8] at h
  have e0 : rd_L1 t195 0 = rowAt t195 0 := rfl
  rw [e0] at c8 h
  have HL1 := Lib.hid (show 0 < t195.length by omega)
  have HL2 := Lib.hid (show 0 < rowLen t195 0 by unfold rowLen; omega)
  have HRR := Lib.hid (Option.some.inj h)
  clear h h4 h5 h6 c7 c8 hr0_1 hc0_1
  go_enter Try.func45, Try.ntmps45
  go_upto_region 1 with fail
  refine name1 ?_
  intro W1 b1 hz hb0
  have HD := hb0.drew
  clear hz hb0
  refine start_ (n := 11) (S := fun w' => w'.cell? ⟨w.heap.size, 0, none⟩ = some (.int .i64 a0_0) ∧ w'.cell? ⟨w.heap.size, 1, none⟩ = some (.slice A0_1 l0_1.length c0_1)) (ds := []) #[false, false, false, false, false, false, false, false, false, false, false] (by kernel_rfl) rfl rfl ⟨cell_to (Below.refl W1.heap.size W1).drew (b1.cell rfl), cell_to (Below.refl W1.heap.size W1).drew (b1.cell rfl)⟩ (fun hHeld => ?_)
  refine with_tabW spec_l03Number.tab1 spec_l03Number.bits1 (fun HT_ HW_ => ?_)
  generalize W1.drew = wd at HD hHeld ⊢
  refine pure_ (i := 1) (N := some 8) (v := ?_) (a' := ?_) #[false, true, false, false, false, false, false, false, false, false, false] rfl rfl (any_of HT_.out (by kernel_rfl)) (fun _ _ _ h => h) (Or.inl ⟨by rfl, ?_⟩) ?_ ?_
  rotate_left
  · intro w'
    go_simp
    with_reducible rfl
  rotate_left
  · simp only [Act.put, List.setIfInBounds_toArray, List.set_cons_zero, List.set_cons_succ, i64_w, i32_w]
    rfl
  refine pure_ (i := 2) (N := some 9) (v := ?_) (a' := ?_) #[false, true, true, false, false, false, false, false, false, false, false] rfl rfl (any_of HT_.out (by kernel_rfl)) (fun _ _ _ h => h) (Or.inl ⟨by rfl, ?_⟩) ?_ ?_
  rotate_left
  · intro w'
    go_simp
    with_reducible rfl
  rotate_left
  · simp only [Act.put, List.setIfInBounds_toArray, List.set_cons_zero, List.set_cons_succ, i64_w, i32_w]
    rfl
  refine take_ (i := 0) (N := some 7) (v := ?_) (a' := ?_) #[true, true, true, false, false, false, false, false, false, false, false] rfl rfl (take_ofW HT_.out HW_.out (by kernel_rfl)) (fun _ _ _ h => h) (Or.inl ⟨by rfl, ?_⟩) hHeld ?_ ?_
  rotate_left
  · rintro w' ⟨s0, s1⟩
    go_simp
    with_reducible rfl
  rotate_left
  · simp only [Act.put, List.setIfInBounds_toArray, List.set_cons_zero, List.set_cons_succ, i64_w, i32_w]
    rfl
  refine one_ (i := 3) (N := some 10) #[true, true, true, true, false, false, false, false, false, false, false] rfl rfl (one_of HT_.out (by kernel_rfl)) (by decide) (fun K hK => ?_)
  refine goes_ Try.func37 (by kernel_rfl) rfl #[.int .i64 a1, .int .i64 a2] (by rfl) rfl rfl (by first | done | rfl | (simp only [List.map_toArray, List.map_cons, List.map_nil]; done) | (simp only [List.map_toArray, List.map_cons, List.map_nil]; rfl)) ?_
  with_reducible refine (spec_l03Free.calls k a1 a2 t189 _ HA4.out).mono ?_
  rintro e w11 ⟨v190, rfl, ho1, hb1⟩
  refine ⟨_, rfl, ?_⟩
  obtain ⟨Ao1, co1, rfl⟩ := Kd.S_slice ho1
  obtain ⟨-, hc1_, hC1⟩ := Kd.S_reads' ho1
  have HB1 := below_to HD hb1
  refine hK.out _ _ ⟨cell_to hb1 hHeld.1, cell_to hb1 hHeld.2⟩ (fun hHeld => ?_)
  clear hK K
  refine norm_ (a' := ?_) ?_ ?_
  rotate_left
  · show Act.put _ (some 10) _ = _
    simp only [Act.put, List.setIfInBounds_toArray, List.set_cons_zero, List.set_cons_succ, i64_w, i32_w]
    rfl
  refine one_ (i := 4) (N := some 11) #[true, true, true, true, true, false, false, false, false, false, false] rfl rfl (one_of HT_.out (by kernel_rfl)) (by decide) (fun K hK => ?_)
  refine goes_ Try.func69 (by kernel_rfl) rfl #[] (by rfl) rfl rfl (by first | done | rfl | (simp only [List.map_toArray, List.map_cons, List.map_nil]; done) | (simp only [List.map_toArray, List.map_cons, List.map_nil]; rfl)) ?_
  with_reducible refine (spec_l03Open.calls t192 _ HA5.out).mono ?_
  rintro e w12 ⟨v193, rfl, ho2, hb2⟩
  refine ⟨_, rfl, ?_⟩
  obtain ⟨Ao2, co2, rfl⟩ := Kd.N_slice ho2
  obtain ⟨-, hc2_, hC2⟩ := Kd.N_reads' ho2
  have HB2 := below_to HB1 hb2
  have hC1b := Kd.C_below hC1 hb2
  refine hK.out _ _ ⟨cell_to hb2 hHeld.1, cell_to hb2 hHeld.2⟩ (fun hHeld => ?_)
  clear hK K
  refine norm_ (a' := ?_) ?_ ?_
  rotate_left
  · show Act.put _ (some 11) _ = _
    simp only [Act.put, List.setIfInBounds_toArray, List.set_cons_zero, List.set_cons_succ, i64_w, i32_w]
    rfl
  refine one_ (i := 5) (N := some 12) #[true, true, true, true, true, true, false, false, false, false, false] rfl rfl (one_of HT_.out (by kernel_rfl)) (by decide) (fun K hK => ?_)
  refine goes_ Try.func57 (by kernel_rfl) rfl #[.agg #[.int .i64 a0_0, .slice A0_1 l0_1.length c0_1], .slice Ao1 t189.length co1, .slice Ao2 t192.length co2] (by rfl) rfl rfl (by first | done | rfl | (simp only [List.map_toArray, List.map_cons, List.map_nil]; done) | (simp only [List.map_toArray, List.map_cons, List.map_nil]; rfl)) ?_
  with_reducible refine (spec_l03Layers.calls k a0_0 _ _ l0_1 _ _ t189 _ _ t192 t195 _ (Kd.C_below HR0.out HB2) HC0.out hC1b hc1_ hC2 hc2_ HA6.out).mono ?_
  rintro e w15 ⟨v196, rfl, ho3, hb3⟩
  refine ⟨_, rfl, ?_⟩
  obtain ⟨Ao3, co3, rfl⟩ := Kd.S_slice ho3
  obtain ⟨-, hc3_, hC3⟩ := Kd.S_reads' ho3
  have HB3 := below_to HB2 hb3
  obtain ⟨rb, ro, A4, c4, hAe, hrb, hx0, hri, -, -⟩ := rr_of_C hC3 0 HL1.out
  subst hAe
  obtain ⟨rb2, ro2, hAe2, hrb2, hx1⟩ := hri 0 HL2.out
  subst hAe2
  rw [Nat.add_zero] at hx0 hx1
  have i1 : 0 < t195.length := HL1.out
  have i2 : 0 < rowLen t195 0 := HL2.out
  have i3 : (0 : Int) < t195.length := by omega
  have i4 : (0 : Int) < rowLen t195 0 := by omega
  refine hK.out _ _ ⟨cell_to hb3 hHeld.1, cell_to hb3 hHeld.2⟩ (fun hHeld => ?_)
  clear hK K
  refine norm_ (a' := ?_) ?_ ?_
  rotate_left
  · show Act.put _ (some 12) _ = _
    simp only [Act.put, List.setIfInBounds_toArray, List.set_cons_zero, List.set_cons_succ, i64_w, i32_w]
    rfl
  refine pure_ (i := 6) (N := some 13) (v := ?_) (a' := ?_) #[true, true, true, true, true, true, true, false, false, false, false] rfl rfl (any_of HT_.out (by kernel_rfl)) (fun _ _ _ h => h) (Or.inl ⟨by rfl, ?_⟩) ?_ ?_
  rotate_left
  · intro w'
    go_simp
    with_reducible rfl
  rotate_left
  · simp only [Act.put, List.setIfInBounds_toArray, List.set_cons_zero, List.set_cons_succ, i64_w, i32_w]
    rfl
  refine one_ (i := 7) (N := some 14) #[true, true, true, true, true, true, true, true, false, false, false] rfl rfl (one_of HT_.out (by kernel_rfl)) (by decide) (fun K hK => ?_)
  refine value_ (w1 := ?_) (v := ?_) (by rfl) rfl ?_ ?_
  rotate_left 2
  · go_simp
    constructor
    · rfl
    · rfl
  refine hK.out _ _ ⟨hHeld.1, hHeld.2⟩ (fun hHeld => ?_)
  clear hK K
  refine norm_ (a' := ?_) ?_ ?_
  rotate_left
  · show Act.put _ (some 14) _ = _
    simp only [Act.put, List.setIfInBounds_toArray, List.set_cons_zero, List.set_cons_succ, i64_w, i32_w]
    rfl
  refine pure_ (i := 8) (N := some 15) (v := ?_) (a' := ?_) #[true, true, true, true, true, true, true, true, true, false, false] rfl rfl (any_of HT_.out (by kernel_rfl)) (fun _ _ _ h => h) (Or.inl ⟨by rfl, ?_⟩) ?_ ?_
  rotate_left
  · intro w'
    go_simp
    with_reducible rfl
  rotate_left
  · simp only [Act.put, List.setIfInBounds_toArray, List.set_cons_zero, List.set_cons_succ, i64_w, i32_w]
    rfl
  refine one_ (i := 9) (N := some 16) #[true, true, true, true, true, true, true, true, true, true, false] rfl rfl (one_of HT_.out (by kernel_rfl)) (by decide) (fun K hK => ?_)
  refine value_ (w1 := ?_) (v := ?_) (by rfl) rfl ?_ ?_
  rotate_left 2
  · go_simp
    constructor
    · rfl
    · rfl
  refine hK.out _ _ ⟨hHeld.1, hHeld.2⟩ (fun hHeld => ?_)
  clear hK K
  refine norm_ (a' := ?_) ?_ ?_
  rotate_left
  · show Act.put _ (some 16) _ = _
    simp only [Act.put, List.setIfInBounds_toArray, List.set_cons_zero, List.set_cons_succ, i64_w, i32_w]
    rfl
  refine pure_ (i := 10) (N := some 6) (v := ?_) (a' := ?_) #[true, true, true, true, true, true, true, true, true, true, true] rfl rfl (any_of HT_.out (by kernel_rfl)) (fun _ _ _ h => h) (Or.inl ⟨by rfl, ?_⟩) ?_ ?_
  rotate_left
  · intro w'
    go_simp
    with_reducible rfl
  rotate_left
  · simp only [Act.put, List.setIfInBounds_toArray, List.set_cons_zero, List.set_cons_succ, i64_w, i32_w]
    rfl
  refine done_ (done_of HT_.out (by kernel_rfl)) ?_
  go_wp2_with fail
  go_ret
  exact ⟨congrArg (fun x_ => Ending.returned (.int .i64 x_)) HRR.out, HB3⟩
end Go.Proofs.Ytcaikaflpmaocaa.Q
namespace Go.Proofs.Ytcaikaflpmaocaa
open Go Go.RowKit Go.Proofs Go.Proofs.YtcaikaflpmaocaaW.PrintWords Go.Proofs.YtcaikaflpmaocaaW.PrintMore Go.Proofs.Ytcaikaflpmaocaa.Q
set_option linter.unusedVariables false
set_option linter.unusedSimpArgs false
def freeP (h w : Nat) : List (List Int) := List.replicate h (List.replicate w (-1))
def openB : List (List Int) := [[], [], [], []]
def numS (c : Nat) (plan bs : List (List Int)) (l : List STile) : Int := onS c plan bs l 0 0
theorem rowLen_free {h w y : Nat} (hy : y < h) : rowLen (freeP h w) y = w := by
  simp [rowLen, rowAt, freeP, List.getD_eq_getElem?_getD, List.getElem?_replicate, hy]
theorem shape_free {h w : Nat} (h1 : 1 ≤ h) (h5 : h ≤ 5) (w1 : 1 ≤ w) (w5 : w ≤ 5) : Shape (freeP h w) openB := by
  have e := rowLen_free (w := w) (show 0 < h by omega)
  refine ⟨by simpa [freeP] using h1, by simpa [freeP] using h5, by rw [e]; exact w1, by rw [e]; exact w5, fun y hy => ?_, rfl, fun k hk => ?_⟩
  · rw [e]; exact rowLen_free (by simpa [freeP] using hy)
  · match k, hk with
    | 0, _ => exact .inl rfl
    | 1, _ => exact .inl rfl
    | 2, _ => exact .inl rfl
    | 3, _ => exact .inl rfl
theorem free_all : ∀ a : Fin 6, ∀ b : Fin 6, spec_l03Free.f 60 (a.val : Int) (b.val : Int) = some (List.replicate a.val (List.replicate b.val (-1))) := by decide +kernel
theorem free_ev (h w : Nat) (h5 : h ≤ 5) (w5 : w ≤ 5) : Ev (fun k => spec_l03Free.f k (h : Int) (w : Int)) (freeP h w) :=
  Ev.of (fun k => spec_l03Free.mono _ _ k) (free_all ⟨h, by omega⟩ ⟨w, by omega⟩)
theorem layersT_at (c : Nat) (plan bs : List (List Int)) (l : List STile) : rd_L1 (layersT c plan bs l) 0 = layS c plan bs l 0 := by
  have h := rdL_nat (layersT c plan bs l) 0
  rw [show (((0 : Nat)) : Int) = 0 from rfl] at h
  rw [h]
  simp [layersT, List.getD_eq_getElem?_getD]
theorem layS_at {c : Nat} (plan bs : List (List Int)) (l : List STile) (hc : 0 < c) : rd (layS c plan bs l 0) 0 = cap (numS c plan bs l) := by
  have h : rd (layS c plan bs l 0) ((0 : Nat) : Int) = cap (onS c plan bs l 0 0) := capRow_at (Nat.pow_pos hc)
  exact h
theorem specNumber_ev (C : Int) (c : Nat) (l : List STile) (h w : Nat) (hC : C = (c : Int)) (hc : 0 < c) (c6 : c ≤ 6) (hcol : ∀ t ∈ l, Col c t) (hl : l.length ≤ 1000) (h1 : 1 ≤ h) (h5 : h ≤ 5) (w1 : 1 ≤ w) (w5 : w ≤ 5) :
    Ev (fun k => spec_l03Number.f k C l (h : Int) (w : Int)) (cap (numS c (freeP h w) openB l)) := by
  have hsh := shape_free h1 h5 w1 w5
  have hL := specLayers_ev C c l (freeP h w) openB hC hc c6 hsh hcol hl
  refine Ev.congr (fun k => by rw [spec_l03Number.f]) (Ev.bind (free_ev h w h5 w5) ?_)
  refine Ev.congr (f := fun k => (spec_l03Layers.f k C l (freeP h w) openB).bind fun t195 => (if 0 < (t195.length : Int) then (if 0 < ((rd_L1 t195 0).length : Int) then (some (rd (rd_L1 t195 0) 0)) else (none)) else (none))) (fun k => rfl) ?_
  refine Ev.bind hL ?_
  have b1 : (0 : Int) < ((layersT c (freeP h w) openB l).length : Int) := by simp [layersT]
  have b2 : (0 : Int) < ((rd_L1 (layersT c (freeP h w) openB l) 0).length : Int) := by
    rw [layersT_at, layS, capRow_len]
    exact Int.ofNat_lt.2 (Nat.pow_pos hc)
  refine Ev.congr (fun k => ?_) (Ev.now _)
  rw [if_pos b1, if_pos b2, layersT_at, layS_at _ _ _ hc]
theorem isS_cols {C : Int} {l : List STile} (h : isS C (l.map toT) = true) : (1 ≤ C ∧ C ≤ 6) ∧ l.length ≤ 16 ∧ ∀ t ∈ l, Col C.toNat t := by
  obtain ⟨hc, hl, hok⟩ := isS_iff.1 h
  refine ⟨hc, by simpa using hl, fun t ht => ?_⟩
  obtain ⟨i, hi, rfl⟩ := List.getElem_of_mem ht
  have := (hok i (by simpa using hi)).1
  rw [tk_map _ _ hi] at this
  simp only [tileB, Bool.and_eq_true, inB_iff, T4.get, toT] at this
  simp at this
  unfold Col
  omega
theorem cap_pos' {x : Int} : cap x > 0 ↔ 0 < x := by unfold cap; split <;> omega
end Go.Proofs.Ytcaikaflpmaocaa

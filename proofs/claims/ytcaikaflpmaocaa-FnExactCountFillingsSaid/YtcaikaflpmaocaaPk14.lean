/-
  Parts of the proof, in their order: PLayers.
-/
import Derived.Test.YtcaikaflpmaocaaPk8
import Derived.Test.YtcaikaflpmaocaaPk12
import Derived.Test.YtcaikaflpmaocaaPk13
namespace Go.Proofs.Ytcaikaflpmaocaa
open Go Go.RowKit Go.Proofs Go.Proofs.YtcaikaflpmaocaaW.PrintWords Go.Proofs.YtcaikaflpmaocaaW.PrintMore Go.Proofs.Ytcaikaflpmaocaa.Q
set_option linter.unusedVariables false
set_option linter.unusedSimpArgs false
theorem power_all : ∀ c : Fin 7, ∀ n : Fin 7, spec_l03Power.f 60 (c.val : Int) (n.val : Int) = some ((c.val ^ n.val : Nat) : Int) := by decide +kernel
theorem power_ev (c n : Nat) (hc : c ≤ 6) (hn : n ≤ 6) : Ev (fun k => spec_l03Power.f k (c : Int) (n : Int)) ((c ^ n : Nat) : Int) :=
  Ev.of (fun k => spec_l03Power.mono _ _ k) (power_all ⟨c, by omega⟩ ⟨n, by omega⟩)
theorem pow_le (c n : Nat) (hc : c ≤ 6) (hn : n ≤ 6) : c ^ n ≤ 46656 := by
  calc c ^ n ≤ 6 ^ n := Nat.pow_le_pow_left hc n
    _ ≤ 6 ^ 6 := Nat.pow_le_pow_right (by decide) hn
theorem mul6 {a b : Nat} (ha : a ≤ 6) (hb : b ≤ 46656) : a * b ≤ 279936 := Nat.mul_le_mul ha hb
theorem tdiv_nat (a b : Nat) (h : a < 1000000000) : wrap64 (Int.tdiv (a : Int) (b : Int)) = ((a / b : Nat) : Int) := by
  have h1 : a / b ≤ a := Nat.div_le_self a b
  rw [← Int.ofNat_tdiv]
  generalize a / b = q at h1
  exact wrap_id (by omega) (by omega)
theorem tmod_nat (a b : Nat) : Int.tmod (a : Int) (b : Int) = ((a % b : Nat) : Int) := (Int.ofNat_tmod a b).symm
theorem dig_int (c s k : Nat) (h : s < 1000000000) : Int.tmod (wrap64 (Int.tdiv (s : Int) ((c ^ k : Nat) : Int))) (c : Int) = ((dig c s k : Nat) : Int) := by
  rw [tdiv_nat _ _ h, tmod_nat]; rfl
theorem next_aux {s X E z f3 d f2 hi B T : Int} (h1 : (f3 - d) * B = X) (h2 : (f2 - hi) * T = E) (b1 : -100 ≤ f3 - d ∧ f3 - d ≤ 100) (b2 : -100 ≤ f2 - hi ∧ f2 - hi ≤ 100) (bX : -1000000 ≤ X ∧ X ≤ 1000000) (bE : -1000000 ≤ E ∧ E ≤ 1000000) (bs : 0 ≤ s ∧ s ≤ 1000000) (hz : z = s + X + E) :
    wrap64 ((wrap64 (s + (wrap64 ((wrap64 (f3 - d)) * B)))) + (wrap64 ((wrap64 (f2 - hi)) * T))) = z := by
  rw [wrap_id (x := f3 - d) (by omega) (by omega), h1, wrap_id (x := X) (by omega) (by omega), wrap_id (x := f2 - hi) (by omega) (by omega), h2, wrap_id (x := E) (by omega) (by omega), wrap_id (x := s + X) (by omega) (by omega), wrap_id (by omega) (by omega), hz]
theorem lin_aux {s m q g lo T X E z : Int} (e1 : lo = m + X) (e2 : s = m + q) (e3 : E = g - q) (l0 : 0 ≤ lo) (l1 : lo < T) (l2 : T ≤ 46656) (m0 : 0 ≤ m) (m1 : m < T) (q0 : 0 ≤ q) (q1 : q ≤ 279936) (g0 : 0 ≤ g) (g1 : g ≤ 279936) (hz : z = s + X - q + g) :
    (-1000000 ≤ X ∧ X ≤ 1000000) ∧ (-1000000 ≤ E ∧ E ≤ 1000000) ∧ (0 ≤ s ∧ s ≤ 1000000) ∧ z = s + X + E := by omega
theorem next_wrap (c w : Nat) (t : STile) (p s : Nat) (hc : 0 < c) (c6 : c ≤ 6) (hw : 0 < w) (w5 : w ≤ 5) (ht : Col c t) (hs : s < c ^ (w + 1)) :
    wrap64 ((wrap64 ((s : Int) + (wrap64 ((wrap64 (t.f3 - ((dig c s (p % w) : Nat) : Int))) * ((c ^ (p % w) : Nat) : Int))))) + (wrap64 ((wrap64 (t.f2 - ((s / c ^ w : Nat) : Int))) * ((c ^ w : Nat) : Int)))) = ((nextZ true c w t p s).toNat : Int) := by
  have hx : p % w < w := Nat.mod_lt _ hw
  obtain ⟨lo, h1, e1, -, h3⟩ := next_parts true c w t p s hc hw ht
  obtain ⟨-, -, g2, g3⟩ := ht
  have hT : c ^ w ≤ 46656 := pow_le c w c6 (by omega)
  have hd : dig c s (p % w) < c := Nat.mod_lt _ hc
  have hhi : s / c ^ w < c := by
    rw [Nat.div_lt_iff_lt_mul (Nat.pow_pos hc)]; rw [Nat.pow_succ, Nat.mul_comm] at hs; exact hs
  have hm : s % c ^ w < c ^ w := Nat.mod_lt _ (Nat.pow_pos hc)
  have hsm : s % c ^ w + s / c ^ w * c ^ w = s := by rw [Nat.mul_comm]; exact Nat.mod_add_div s (c ^ w)
  have b2 : (t.f2 - ((s / c ^ w : Nat) : Int)) * ((c ^ w : Nat) : Int) = t.f2 * ((c ^ w : Nat) : Int) - ((s / c ^ w : Nat) : Int) * ((c ^ w : Nat) : Int) := Int.sub_mul _ _ _
  have m2 : t.f2 * ((c ^ w : Nat) : Int) = ((t.f2.toNat * c ^ w : Nat) : Int) := by rw [Int.natCast_mul, Int.toNat_of_nonneg g2.1]
  have m3 : ((s / c ^ w : Nat) : Int) * ((c ^ w : Nat) : Int) = ((s / c ^ w * c ^ w : Nat) : Int) := by rw [Int.natCast_mul]
  have n2 : t.f2.toNat * c ^ w ≤ 279936 := mul6 (by omega) hT
  have n3 : s / c ^ w * c ^ w ≤ 279936 := mul6 (by omega) hT
  have hz : nextZ true c w t p s = (s : Int) + (t.f3 - (dig c s (p % w) : Int)) * ((c ^ (p % w) : Nat) : Int) - ((s / c ^ w * c ^ w : Nat) : Int) + ((t.f2.toNat * c ^ w : Nat) : Int) := by
    unfold nextZ; rw [m3]; simp only [Bool.true_or, if_true, m2]
  rw [m2, m3] at b2
  generalize hgX : (t.f3 - (dig c s (p % w) : Int)) * ((c ^ (p % w) : Nat) : Int) = X at hz e1
  generalize hgE : (t.f2 - ((s / c ^ w : Nat) : Int)) * ((c ^ w : Nat) : Int) = E at b2
  have hh : ((s / c ^ w : Nat) : Int) < (c : Int) := Int.ofNat_lt.2 hhi
  have hh0 : (0 : Int) ≤ ((s / c ^ w : Nat) : Int) := Int.natCast_nonneg _
  have hd1 : ((dig c s (p % w) : Nat) : Int) < (c : Int) := Int.ofNat_lt.2 hd
  have hd0 : (0 : Int) ≤ ((dig c s (p % w) : Nat) : Int) := Int.natCast_nonneg _
  have hsm' : (s : Int) = ((s % c ^ w : Nat) : Int) + ((s / c ^ w * c ^ w : Nat) : Int) := by rw [← Int.natCast_add, hsm]
  obtain ⟨k1, k2, k3, k4⟩ := lin_aux (T := ((c ^ w : Nat) : Int)) e1 hsm' b2 (Int.natCast_nonneg _) (Int.ofNat_lt.2 h1) (Int.ofNat_le.2 hT) (Int.natCast_nonneg _) (Int.ofNat_lt.2 hm) (Int.natCast_nonneg _) (Int.ofNat_le.2 n3) (Int.natCast_nonneg _) (Int.ofNat_le.2 n2) hz
  rw [Int.toNat_of_nonneg h3]
  refine next_aux hgX hgE ?_ ?_ k1 k2 k3 k4
  · generalize ((dig c s (p % w) : Nat) : Int) = d at hd1 hd0 ⊢
    clear hgX hgE hz k4 e1 b2 hsm' n2 n3 hsm hm hhi hT h1 h3 hs m2 m3
    omega
  · generalize ((s / c ^ w : Nat) : Int) = d at hh hh0 ⊢
    clear hgX hgE hz k4 e1 b2 hsm' n2 n3 hsm hm hhi hT h1 h3 hs m2 m3
    omega
def fitP (plan bs : List (List Int)) (l : List STile) : Nat → Nat → Bool := fun p i => fitB (l.map toT) plan bs (p / rowLen plan 0) (p % rowLen plan 0) i
def stepS (c : Nat) (plan bs : List (List Int)) (l : List STile) : Nx := nx true c (rowLen plan 0) l (fitP plan bs l)
def places (plan : List (List Int)) : Nat := plan.length * rowLen plan 0
def size (c : Nat) (plan : List (List Int)) : Nat := c ^ (rowLen plan 0 + 1)
def onS (c : Nat) (plan bs : List (List Int)) (l : List STile) (p : Nat) : Nat → Int := onw (stepS c plan bs l) l.length (places plan - p) p
def layS (c : Nat) (plan bs : List (List Int)) (l : List STile) (p : Nat) : List Int := capRow (size c plan) (onS c plan bs l p)
theorem fits_f (C : Int) (l : List STile) (plan bs : List (List Int)) (hsh : Shape plan bs) (hl : l.length ≤ 1000) (p i : Nat) (hp : p < places plan) (hi : i < l.length) :
    spec_l03Fits.f C l plan bs ((p / rowLen plan 0 : Nat) : Int) ((p % rowLen plan 0 : Nat) : Int) (i : Int) = some (fitP plan bs l p i) := by
  have h1 : p / rowLen plan 0 < plan.length := (Nat.div_lt_iff_lt_mul hsh.w1).2 hp
  have h2 : p % rowLen plan 0 < rowLen plan 0 := Nat.mod_lt _ hsh.w1
  unfold spec_l03Fits.f
  rw [if_pos]
  · simp only [fitP, Int.toNat_natCast]
  · have h3 := shapeB_of hsh
    simp only [placeB, Bool.and_eq_true, decide_eq_true_eq]
    exact ⟨⟨by omega, h3⟩, ⟨⟨Int.natCast_nonneg _, Int.ofNat_lt.2 h1⟩, Int.natCast_nonneg _, Int.ofNat_lt.2 h2⟩, Int.natCast_nonneg _, Int.ofNat_lt.2 hi⟩
theorem nat_pos_iff (n : Nat) : (n : Int) > 0 ↔ ¬ n = 0 := by omega
theorem div_pos_iff {p w : Nat} (hw : 0 < w) : ((p / w : Nat) : Int) > 0 ↔ ¬ p < w := by
  rw [nat_pos_iff, Nat.div_eq_zero_iff]
  omega
theorem cap_bnd {x y : Int} (hx : 0 ≤ x) (hy : 0 ≤ y) : wrap64 (cap x + cap y) = cap x + cap y := wrap_id (by have := cap_nn hx; have := cap_nn hy; omega) (by have := cap_le x; have := cap_le y; omega)
theorem nat_ne0 {n : Nat} (h : 0 < n) : ¬ (n : Int) = 0 := by omega
theorem tl_get (l : List STile) (i : Nat) (h : i < l.length) : tlAt l i = l[i] := by simp [tlAt, List.getD_eq_getElem?_getD, List.getElem?_eq_getElem h]
theorem rdT_get (l : List STile) (i : Nat) (h : i < l.length) : rd_T85 l (i : Int) = l[i] := by
  simp [rd_T85, List.getD_eq_getElem?_getD, List.getElem?_eq_getElem h]
theorem rdL_nat (x : List (List Int)) (i : Nat) : rd_L1 x (i : Int) = x.getD i [] := by simp [rd_L1]
theorem getD_setL (v : List (List Int)) (e i : Nat) (x : List Int) (h : e < v.length) : (v.set e x).getD i [] = if i = e then x else v.getD i [] := by
  simp only [List.getD_eq_getElem?_getD, List.getElem?_set]
  by_cases hi : e = i
  · subst hi; simp [h]
  · simp [hi, Ne.symm hi]
def mix (Q' Q : Nat → Int) (s : Nat) : Nat → Int := fun a => if a < s then Q' a else Q a
theorem mix_same {sz s : Nat} {Q' Q : Nat → Int} (h : Q' s = Q s) : capRow sz (mix Q' Q s) = capRow sz (mix Q' Q (s + 1)) := by
  apply capRow_congr
  intro a ha
  unfold mix
  by_cases h1 : a < s
  · rw [if_pos h1, if_pos (by omega)]
  · rw [if_neg h1]
    by_cases h2 : a < s + 1
    · rw [if_pos h2]
      have : a = s := by omega
      subst this
      exact h.symm
    · rw [if_neg h2]
theorem mix_set {sz s : Nat} {Q' Q : Nat → Int} {y : Int} (hs : s < sz) (h : Q' s = Q s + y) : (capRow sz (mix Q' Q s)).set s (cap (Q s + y)) = capRow sz (mix Q' Q (s + 1)) := by
  have q3 : Q s = mix Q' Q s s := by unfold mix; rw [if_neg (by omega)]
  rw [q3, capRow_set hs]
  apply capRow_congr
  intro a ha
  unfold mix
  by_cases h1 : a < s
  · rw [if_pos h1, if_neg (by omega), if_pos (by omega), Int.add_zero]
  · rw [if_neg h1]
    by_cases h2 : a = s
    · subst h2
      rw [if_pos rfl, if_pos (by omega), h]
    · rw [if_neg h2, if_neg (by omega), Int.add_zero]
theorem mix_all {sz : Nat} {Q' Q : Nat → Int} : capRow sz (mix Q' Q sz) = capRow sz Q' := capRow_congr fun a ha => if_pos ha
theorem mix_none {sz : Nat} {Q' Q : Nat → Int} : capRow sz (mix Q' Q 0) = capRow sz Q := capRow_congr fun a ha => if_neg (by omega)
theorem mix_at {sz s : Nat} {Q' Q : Nat → Int} (hs : s < sz) : rd (capRow sz (mix Q' Q s)) (s : Int) = cap (Q s) := by
  rw [rd_nat, capRow_get hs]; unfold mix; rw [if_neg (by omega)]
theorem capRow_at {c s : Nat} {q : Nat → Int} (h : s < c) : rd (capRow c q) (s : Int) = cap (q s) := by rw [rd_nat, capRow_get h]
section
variable (C : Int) (c : Nat) (l : List STile) (plan bs : List (List Int)) (r : List (List Int))
def part (c : Nat) (l : List STile) (plan bs : List (List Int)) (p i : Nat) (a : Nat) : Int := ((List.range i).map fun j => val (onS c plan bs l (p + 1)) (stepS c plan bs l p a j)).sum
theorem part_succ (p i a : Nat) : part c l plan bs p (i + 1) a = part c l plan bs p i a + val (onS c plan bs l (p + 1)) (stepS c plan bs l p a i) := by
  simp [part, List.range_succ, List.sum_append]
theorem val_nn {q : Nat → Int} (h : ∀ a, 0 ≤ q a) (o : Option Nat) : 0 ≤ val q o := by
  cases o
  · exact Int.le_refl 0
  · exact h _
theorem onS_nn (p a : Nat) : 0 ≤ onS c plan bs l p a := onw_nn _ _ _ _ _
theorem part_nn (p i a : Nat) : 0 ≤ part c l plan bs p i a := by
  apply sum_nn
  intro x hx
  obtain ⟨j, -, rfl⟩ := List.mem_map.1 hx
  exact val_nn (onS_nn c l plan bs (p + 1)) _
theorem part_all (p : Nat) (hp : p < places plan) (a : Nat) : part c l plan bs p l.length a = onS c plan bs l p a := by
  rw [onS, show places plan - p = (places plan - (p + 1)) + 1 by omega, onw]; rfl
theorem layers_l3 (hC : C = (c : Int)) (hc : 0 < c) (c6 : c ≤ 6) (hsh : Shape plan bs) (hcol : ∀ t ∈ l, Col c t) (hl : l.length ≤ 1000) (p i : Nat) (hp : p < places plan) (hi : i < l.length) (hfit : fitP plan bs l p i = true)
    (x : List (List Int)) (hxl : x.length = places plan + 1) (hx : x.getD (p + 1) [] = layS c plan bs l (p + 1))
    (hgo : Ev (fun k => spec_l03Layers.l2 k plan bs (rowLen plan 0 : Nat) C (size c plan : Nat) x ((c ^ rowLen plan 0 : Nat) : Int) (p : Nat) ((p / rowLen plan 0 : Nat) : Int) ((p % rowLen plan 0 : Nat) : Int) (capRow (size c plan) (part c l plan bs p (i + 1))) ((c ^ (p % rowLen plan 0) : Nat) : Int) ((i + 1 : Nat) : Int) C l) r)
    (d : Nat) : ∀ s, s + d = size c plan →
    Ev (fun k => spec_l03Layers.l3 k plan bs (rowLen plan 0 : Nat) C (size c plan : Nat) x ((c ^ rowLen plan 0 : Nat) : Int) (p : Nat) ((p / rowLen plan 0 : Nat) : Int) ((p % rowLen plan 0 : Nat) : Int)
      (capRow (size c plan) (mix (part c l plan bs p (i + 1)) (part c l plan bs p i) s)) ((c ^ (p % rowLen plan 0) : Nat) : Int) (i : Nat) (s : Nat) C l l[i].f0 l[i].f1 l[i].f2 l[i].f3) r := by
  have hw := hsh.w1
  have w5 := hsh.w5
  have hS : size c plan ≤ 46656 := pow_le c (rowLen plan 0 + 1) c6 (by omega)
  have hpl : places plan ≤ 25 := by unfold places; exact Nat.mul_le_mul hsh.h5 w5
  have ht := hcol l[i] (List.getElem_mem hi)
  have htl := tl_get l i hi
  induction d with
  | zero =>
    intro s hs
    have b1 : ¬ ((s : Nat) : Int) < ((size c plan : Nat) : Int) := by omega
    have hi9 : i < 1000000000 := by omega
    refine Ev.step (fun k => ?_) hgo
    have e : s = size c plan := by omega
    rw [spec_l03Layers.l3, if_neg b1, succ_wrap i hi9, e, mix_all]
  | succ d ih =>
    intro s hs
    have hss : s < size c plan := by omega
    have b1 : ((s : Nat) : Int) < ((size c plan : Nat) : Int) := by omega
    have s9 : s < 1000000000 := by omega
    have c0 : ¬ ((c ^ (p % rowLen plan 0) : Nat) : Int) = 0 := nat_ne0 (Nat.pow_pos hc)
    have c1 : ¬ C = 0 := by omega
    have c2 : ¬ ((c ^ rowLen plan 0 : Nat) : Int) = 0 := nat_ne0 (Nat.pow_pos hc)
    have s1 : s + 1 + d = size c plan := by omega
    have p9 : p < 1000000000 := by omega
    have a4 : ((p + 1 : Nat) : Int) < (x.length : Int) := by omega
    have hno : stepS c plan bs l p s i = none → Ev (fun k => spec_l03Layers.l3 k plan bs (rowLen plan 0 : Nat) C (size c plan : Nat) x ((c ^ rowLen plan 0 : Nat) : Int) (p : Nat) ((p / rowLen plan 0 : Nat) : Int) ((p % rowLen plan 0 : Nat) : Int)
      (capRow (size c plan) (mix (part c l plan bs p (i + 1)) (part c l plan bs p i) s)) ((c ^ (p % rowLen plan 0) : Nat) : Int) (i : Nat) ((s + 1 : Nat) : Int) C l l[i].f0 l[i].f1 l[i].f2 l[i].f3) r := by
      intro hn
      rw [mix_same (by rw [part_succ, hn]; exact Int.add_zero _)]
      exact ih (s + 1) s1
    have hyes : ∀ b : Nat, stepS c plan bs l p s i = some b → (b : Int) = ((nextZ true c (rowLen plan 0) l[i] p s).toNat : Int) → ∀ z : List Int, z = (capRow (size c plan) (mix (part c l plan bs p (i + 1)) (part c l plan bs p i) s)).set ((s : Int)).toNat (mn (wrap64 (rd (capRow (size c plan) (mix (part c l plan bs p (i + 1)) (part c l plan bs p i) s)) (s : Int) + rd (rd_L1 x ((p + 1 : Nat) : Int)) (b : Int))) 1000000000000001) →
        b < size c plan → Ev (fun k => spec_l03Layers.l3 k plan bs (rowLen plan 0 : Nat) C (size c plan : Nat) x ((c ^ rowLen plan 0 : Nat) : Int) (p : Nat) ((p / rowLen plan 0 : Nat) : Int) ((p % rowLen plan 0 : Nat) : Int)
      z ((c ^ (p % rowLen plan 0) : Nat) : Int) (i : Nat) ((s + 1 : Nat) : Int) C l l[i].f0 l[i].f1 l[i].f2 l[i].f3) r := by
      intro b hb hbz z hz hbs
      have q2 : rd (rd_L1 x ((p + 1 : Nat) : Int)) (b : Int) = cap (onS c plan bs l (p + 1) b) := by rw [rdL_nat, hx]; exact capRow_at hbs
      have n1 := part_nn c l plan bs p i s
      have n2 := onS_nn c l plan bs (p + 1) b
      rw [hz, mix_at hss, q2, mn_cap, cap_bnd n1 n2, cap_add n1 n2, Int.toNat_natCast, mix_set hss (by rw [part_succ, hb]; rfl)]
      exact ih (s + 1) s1
    have a1 : (0 : Int) ≤ (s : Int) := Int.natCast_nonneg s
    have a2 : (s : Int) < ((capRow (size c plan) (mix (part c l plan bs p (i + 1)) (part c l plan bs p i) s)).length : Int) := by rw [capRow_len]; exact b1
    have a3 : (0 : Int) ≤ ((p + 1 : Nat) : Int) := Int.natCast_nonneg _
    have a5 : (0 : Int) ≤ ((nextZ true c (rowLen plan 0) l[i] p s).toNat : Int) := Int.natCast_nonneg _
    have hy : ((p / rowLen plan 0 : Nat) : Int) > 0 ↔ ¬ p < rowLen plan 0 := div_pos_iff hw
    have hx0 : ((p % rowLen plan 0 : Nat) : Int) > 0 ↔ ¬ p % rowLen plan 0 = 0 := nat_pos_iff _
    have hst : stepS c plan bs l p s i = if ((p < rowLen plan 0 ∨ ((dig c s (p % rowLen plan 0) : Nat) : Int) = l[i].f1) ∧ (p % rowLen plan 0 = 0 ∨ ((s / c ^ rowLen plan 0 : Nat) : Int) = l[i].f0)) then some (nextZ true c (rowLen plan 0) l[i] p s).toNat else none := by
      simp only [stepS, nx, hfit, htl, Bool.true_and, Bool.and_eq_true, Bool.or_eq_true, decide_eq_true_eq]
    have hnx : ((p < rowLen plan 0 ∨ ((dig c s (p % rowLen plan 0) : Nat) : Int) = l[i].f1) ∧ (p % rowLen plan 0 = 0 ∨ ((s / c ^ rowLen plan 0 : Nat) : Int) = l[i].f0)) → (nextZ true c (rowLen plan 0) l[i] p s).toNat < size c plan := by
      intro hcond
      rw [if_pos hcond] at hst
      exact nx_stay true c (rowLen plan 0) l (fitP plan bs l) hc hw hcol p s i _ hss hi hst
    have e1 : Int.tmod (wrap64 (Int.tdiv (s : Int) ((c ^ (p % rowLen plan 0) : Nat) : Int))) C = ((dig c s (p % rowLen plan 0) : Nat) : Int) := by rw [hC]; exact dig_int c s _ s9
    have e2 : wrap64 (Int.tdiv (s : Int) ((c ^ rowLen plan 0 : Nat) : Int)) = ((s / c ^ rowLen plan 0 : Nat) : Int) := tdiv_nat _ _ s9
    have e3 := next_wrap c (rowLen plan 0) l[i] p s hc c6 hw w5 ht hss
    have hsucc : wrap64 ((s : Int) + 1) = ((s + 1 : Nat) : Int) := succ_wrap s s9
    have hp1 : wrap64 ((p : Int) + 1) = ((p + 1 : Nat) : Int) := succ_wrap p p9
    by_cases hY : p < rowLen plan 0
    · have y0 : ¬ ((p / rowLen plan 0 : Nat) : Int) > 0 := fun h => hy.1 h hY
      by_cases hX : p % rowLen plan 0 = 0
      · have x0 : ¬ ((p % rowLen plan 0 : Nat) : Int) > 0 := fun h => hx0.1 h hX
        have hcond : ((p < rowLen plan 0 ∨ ((dig c s (p % rowLen plan 0) : Nat) : Int) = l[i].f1) ∧ (p % rowLen plan 0 = 0 ∨ ((s / c ^ rowLen plan 0 : Nat) : Int) = l[i].f0)) := ⟨.inl hY, .inl hX⟩
        have a6 : ((nextZ true c (rowLen plan 0) l[i] p s).toNat : Int) < ((rd_L1 x ((p + 1 : Nat) : Int)).length : Int) := by rw [rdL_nat, hx, layS, capRow_len]; exact Int.ofNat_lt.2 (hnx hcond)
        refine Ev.step (fun k => ?_) (hyes _ (by rw [hst, if_pos hcond]) rfl _ rfl (hnx hcond))
        rw [spec_l03Layers.l3, if_pos b1, if_neg c0, if_neg c1, if_neg c2, if_neg y0, if_neg x0, if_pos a1, if_pos a2, hp1, if_pos a3, if_pos a4, e1, e2, e3, if_pos a5, if_pos a6, hsucc]
      · have x0 : ((p % rowLen plan 0 : Nat) : Int) > 0 := hx0.2 hX
        by_cases hW : ((s / c ^ rowLen plan 0 : Nat) : Int) = l[i].f0
        · have hcond : ((p < rowLen plan 0 ∨ ((dig c s (p % rowLen plan 0) : Nat) : Int) = l[i].f1) ∧ (p % rowLen plan 0 = 0 ∨ ((s / c ^ rowLen plan 0 : Nat) : Int) = l[i].f0)) := ⟨.inl hY, .inr hW⟩
          have a6 : ((nextZ true c (rowLen plan 0) l[i] p s).toNat : Int) < ((rd_L1 x ((p + 1 : Nat) : Int)).length : Int) := by rw [rdL_nat, hx, layS, capRow_len]; exact Int.ofNat_lt.2 (hnx hcond)
          refine Ev.step (fun k => ?_) (hyes _ (by rw [hst, if_pos hcond]) rfl _ rfl (hnx hcond))
          rw [spec_l03Layers.l3, if_pos b1, if_neg c0, if_neg c1, if_neg c2, if_neg y0, if_pos x0, e2, if_pos hW, if_pos a1, if_pos a2, hp1, if_pos a3, if_pos a4, e1, e3, if_pos a5, if_pos a6, hsucc]
        · refine Ev.step (fun k => ?_) (hno (by rw [hst, if_neg (by rintro ⟨-, h | h⟩ <;> contradiction)]))
          rw [spec_l03Layers.l3, if_pos b1, if_neg c0, if_neg c1, if_neg c2, if_neg y0, if_pos x0, e2, if_neg hW, hsucc]
    · have y0 : ((p / rowLen plan 0 : Nat) : Int) > 0 := hy.2 hY
      by_cases hD : ((dig c s (p % rowLen plan 0) : Nat) : Int) = l[i].f1
      · by_cases hX : p % rowLen plan 0 = 0
        · have x0 : ¬ ((p % rowLen plan 0 : Nat) : Int) > 0 := fun h => hx0.1 h hX
          have hcond : ((p < rowLen plan 0 ∨ ((dig c s (p % rowLen plan 0) : Nat) : Int) = l[i].f1) ∧ (p % rowLen plan 0 = 0 ∨ ((s / c ^ rowLen plan 0 : Nat) : Int) = l[i].f0)) := ⟨.inr hD, .inl hX⟩
          have a6 : ((nextZ true c (rowLen plan 0) l[i] p s).toNat : Int) < ((rd_L1 x ((p + 1 : Nat) : Int)).length : Int) := by rw [rdL_nat, hx, layS, capRow_len]; exact Int.ofNat_lt.2 (hnx hcond)
          refine Ev.step (fun k => ?_) (hyes _ (by rw [hst, if_pos hcond]) rfl _ rfl (hnx hcond))
          rw [spec_l03Layers.l3, if_pos b1, if_neg c0, if_neg c1, if_neg c2, if_pos y0, e1, if_pos hD, if_neg x0, if_pos a1, if_pos a2, hp1, if_pos a3, if_pos a4, e2, e3, if_pos a5, if_pos a6, hsucc]
        · have x0 : ((p % rowLen plan 0 : Nat) : Int) > 0 := hx0.2 hX
          by_cases hW : ((s / c ^ rowLen plan 0 : Nat) : Int) = l[i].f0
          · have hcond : ((p < rowLen plan 0 ∨ ((dig c s (p % rowLen plan 0) : Nat) : Int) = l[i].f1) ∧ (p % rowLen plan 0 = 0 ∨ ((s / c ^ rowLen plan 0 : Nat) : Int) = l[i].f0)) := ⟨.inr hD, .inr hW⟩
            have a6 : ((nextZ true c (rowLen plan 0) l[i] p s).toNat : Int) < ((rd_L1 x ((p + 1 : Nat) : Int)).length : Int) := by rw [rdL_nat, hx, layS, capRow_len]; exact Int.ofNat_lt.2 (hnx hcond)
            refine Ev.step (fun k => ?_) (hyes _ (by rw [hst, if_pos hcond]) rfl _ rfl (hnx hcond))
            rw [spec_l03Layers.l3, if_pos b1, if_neg c0, if_neg c1, if_neg c2, if_pos y0, e1, if_pos hD, if_pos x0, e2, if_pos hW, if_pos a1, if_pos a2, hp1, if_pos a3, if_pos a4, e3, if_pos a5, if_pos a6, hsucc]
          · refine Ev.step (fun k => ?_) (hno (by rw [hst, if_neg (by rintro ⟨-, h | h⟩ <;> contradiction)]))
            rw [spec_l03Layers.l3, if_pos b1, if_neg c0, if_neg c1, if_neg c2, if_pos y0, e1, if_pos hD, if_pos x0, e2, if_neg hW, hsucc]
      · refine Ev.step (fun k => ?_) (hno (by rw [hst, if_neg (by rintro ⟨h | h, -⟩ <;> contradiction)]))
        rw [spec_l03Layers.l3, if_pos b1, if_neg c0, if_neg c1, if_neg c2, if_pos y0, e1, if_neg hD, hsucc]
theorem step_nofit (p s i : Nat) (h : fitP plan bs l p i = false) : stepS c plan bs l p s i = none := by
  simp [stepS, nx, h]
theorem layers_l2 (hC : C = (c : Int)) (hc : 0 < c) (c6 : c ≤ 6) (hsh : Shape plan bs) (hcol : ∀ t ∈ l, Col c t) (hl : l.length ≤ 1000) (p : Nat) (hp : p < places plan)
    (x : List (List Int)) (hxl : x.length = places plan + 1) (hx : x.getD (p + 1) [] = layS c plan bs l (p + 1))
    (hgo : Ev (fun k => spec_l03Layers.l1 k plan bs (rowLen plan 0 : Nat) C (size c plan : Nat) (x.set p (layS c plan bs l p)) ((c ^ rowLen plan 0 : Nat) : Int) (wrap64 ((p : Int) - 1)) C l) r)
    (d : Nat) : ∀ i, i + d = l.length →
    Ev (fun k => spec_l03Layers.l2 k plan bs (rowLen plan 0 : Nat) C (size c plan : Nat) x ((c ^ rowLen plan 0 : Nat) : Int) (p : Nat) ((p / rowLen plan 0 : Nat) : Int) ((p % rowLen plan 0 : Nat) : Int)
      (capRow (size c plan) (part c l plan bs p i)) ((c ^ (p % rowLen plan 0) : Nat) : Int) (i : Nat) C l) r := by
  induction d with
  | zero =>
    intro i hi
    have b1 : ¬ ((i : Nat) : Int) < (l.length : Int) := by omega
    have b2 : (0 : Int) ≤ (p : Int) := Int.natCast_nonneg p
    have b3 : (p : Int) < (x.length : Int) := by omega
    refine Ev.step (fun k => ?_) hgo
    rw [spec_l03Layers.l2, if_neg b1, if_pos b2, if_pos b3, Int.toNat_natCast]
    have : i = l.length := by omega
    subst this
    rw [layS, capRow_congr fun a _ => part_all c l plan bs p hp a]
  | succ d ih =>
    intro i hi
    have hlt : i < l.length := by omega
    have b1 : ((i : Nat) : Int) < (l.length : Int) := by omega
    have b2 : (0 : Int) ≤ (i : Int) := Int.natCast_nonneg i
    have hf := fits_f C l plan bs hsh hl p i hp hlt
    have hT := rdT_get l i hlt
    cases hq : fitP plan bs l p i
    · have e : capRow (size c plan) (part c l plan bs p i) = capRow (size c plan) (part c l plan bs p (i + 1)) := by
        apply capRow_congr
        intro a _
        rw [part_succ, step_nofit c l plan bs p a i hq]; simp [val]
      rw [e]
      refine Ev.step (fun k => ?_) (ih (i + 1) (by omega))
      rw [spec_l03Layers.l2, if_pos b1, hf, hq, Option.bind_some, if_neg (by decide), succ_wrap i (by omega)]
    · have h3 := layers_l3 C c l plan bs r hC hc c6 hsh hcol hl p i hp hlt hq x hxl hx (ih (i + 1) (by omega)) (size c plan) 0 (by omega)
      have e : capRow (size c plan) (mix (part c l plan bs p (i + 1)) (part c l plan bs p i) 0) = capRow (size c plan) (part c l plan bs p i) := mix_none
      rw [e] at h3
      refine Ev.step (fun k => ?_) h3
      rw [spec_l03Layers.l2, if_pos b1, hf, hq, Option.bind_some, if_pos rfl, if_pos b2, hT]
      rfl
def LayOk (c : Nat) (plan bs : List (List Int)) (l : List STile) (p : Nat) (x : List (List Int)) : Prop := x.length = places plan + 1 ∧ ∀ j, p ≤ j → j ≤ places plan → x.getD j [] = layS c plan bs l j
def layersT (c : Nat) (plan bs : List (List Int)) (l : List STile) : List (List Int) := (List.range (places plan + 1)).map (layS c plan bs l)
theorem layOk_tab {x : List (List Int)} (h : LayOk c plan bs l 0 x) : x = layersT c plan bs l := by
  apply List.ext_getElem
  · rw [h.1]; simp [layersT]
  · intro j h1 h2
    have hj : j ≤ places plan := by have := h.1; omega
    have := h.2 j (by omega) hj
    rw [List.getD_eq_getElem?_getD, List.getElem?_eq_getElem h1] at this
    simp only [Option.getD_some] at this
    rw [this]; simp [layersT]
theorem part_zero (p : Nat) : capRow (size c plan) (part c l plan bs p 0) = List.replicate (size c plan) 0 := by
  rw [← capRow_zero]
  exact capRow_congr fun a _ => by simp [part]
theorem layers_l1 (hC : C = (c : Int)) (hc : 0 < c) (c6 : c ≤ 6) (hsh : Shape plan bs) (hcol : ∀ t ∈ l, Col c t) (hl : l.length ≤ 1000) (p : Nat) : ∀ (x : List (List Int)), p ≤ places plan → LayOk c plan bs l p x →
    Ev (fun k => spec_l03Layers.l1 k plan bs (rowLen plan 0 : Nat) C (size c plan : Nat) x ((c ^ rowLen plan 0 : Nat) : Int) (wrap64 ((p : Int) - 1)) C l) (layersT c plan bs l) := by
  have hw := hsh.w1
  have w5 := hsh.w5
  have hpl : places plan ≤ 25 := by unfold places; exact Nat.mul_le_mul hsh.h5 w5
  induction p with
  | zero =>
    intro x _ hx
    have b1 : ¬ wrap64 (((0 : Nat) : Int) - 1) ≥ 0 := by rw [wrap_id (by omega) (by omega)]; omega
    refine Ev.step (fun k => ?_) (Ev.now _)
    rw [spec_l03Layers.l1, if_neg b1, layOk_tab c l plan bs hx]
  | succ p ih =>
    intro x hp hx
    have e0 : wrap64 (((p + 1 : Nat) : Int) - 1) = (p : Int) := by rw [wrap_id (by omega) (by omega)]; omega
    have b1 : (p : Int) ≥ 0 := Int.natCast_nonneg p
    have b2 : ¬ ((rowLen plan 0 : Nat) : Int) = 0 := by omega
    have b3 : (0 : Int) ≤ ((size c plan : Nat) : Int) := Int.natCast_nonneg _
    have hS : size c plan ≤ 46656 := pow_le c (rowLen plan 0 + 1) c6 (by omega)
    have b4 : ((size c plan : Nat) : Int).toNat ≤ 35184372088832 := by omega
    have hm : p % rowLen plan 0 < rowLen plan 0 := Nat.mod_lt _ hw
    have hpw := power_ev c (p % rowLen plan 0) c6 (by omega)
    have hok : LayOk c plan bs l p (x.set p (layS c plan bs l p)) := by
      have := hx.1
      refine ⟨by rw [List.length_set]; exact hx.1, fun j h1 h2 => ?_⟩
      rw [getD_setL _ _ _ _ (by omega)]
      by_cases hj : j = p
      · subst hj; rw [if_pos rfl]
      · rw [if_neg hj]; exact hx.2 j (by omega) h2
    have h2 := layers_l2 C c l plan bs (layersT c plan bs l) hC hc c6 hsh hcol hl p (by omega) x hx.1 (hx.2 (p + 1) (Nat.le_refl _) hp) (ih _ (by omega) hok) l.length 0 (by omega)
    rw [part_zero] at h2
    rw [e0]
    refine Ev.step (f := fun k => (spec_l03Power.f k (c : Int) ((p % rowLen plan 0 : Nat) : Int)).bind fun t152 => spec_l03Layers.l2 k plan bs (rowLen plan 0 : Nat) C (size c plan : Nat) x ((c ^ rowLen plan 0 : Nat) : Int) (p : Nat) ((p / rowLen plan 0 : Nat) : Int) ((p % rowLen plan 0 : Nat) : Int) (List.replicate (size c plan) 0) t152 0 C l) (fun k => ?_) (Ev.bind hpw h2)
    rw [spec_l03Layers.l1, if_pos b1, if_neg b2, if_pos b3, if_pos b4, tmod_nat, tdiv_nat _ _ (by omega), Int.toNat_natCast, hC]
theorem layers_l0 (hC : C = (c : Int)) (hc : 0 < c) (c6 : c ≤ 6) (hsh : Shape plan bs) (hcol : ∀ t ∈ l, Col c t) (hl : l.length ≤ 1000) (d : Nat) : ∀ i, i + d = size c plan →
    Ev (fun k => spec_l03Layers.l0 k plan bs (plan.length : Int) (rowLen plan 0 : Nat) C (size c plan : Nat) (List.replicate i 1 ++ List.replicate d 0) (size c plan : Nat) (i : Nat) C l) (layersT c plan bs l) := by
  have hw := hsh.w1
  have w5 := hsh.w5
  have hS : size c plan ≤ 46656 := pow_le c (rowLen plan 0 + 1) c6 (by omega)
  have hpl : places plan ≤ 25 := by unfold places; exact Nat.mul_le_mul hsh.h5 w5
  induction d with
  | zero =>
    intro i hi
    have b1 : ¬ ((i : Nat) : Int) < ((size c plan : Nat) : Int) := by omega
    have e0 : wrap64 ((plan.length : Int) * ((rowLen plan 0 : Nat) : Int)) = ((places plan : Nat) : Int) := by
      have : (plan.length : Int) * ((rowLen plan 0 : Nat) : Int) = ((places plan : Nat) : Int) := by unfold places; push_cast; rfl
      rw [this]; exact wrap_id (by omega) (by omega)
    have e1 : wrap64 (((places plan : Nat) : Int) + 1) = ((places plan + 1 : Nat) : Int) := succ_wrap _ (by omega)
    have b2 : (0 : Int) ≤ ((places plan + 1 : Nat) : Int) := Int.natCast_nonneg _
    have b3 : ((places plan + 1 : Nat) : Int).toNat ≤ 11728124029610 := by omega
    have b4 : (0 : Int) ≤ ((places plan : Nat) : Int) := Int.natCast_nonneg _
    have b5 : ((places plan : Nat) : Int) < ((List.replicate (places plan + 1) ([] : List Int)).length : Int) := by rw [List.length_replicate]; omega
    have hpw := power_ev c (rowLen plan 0) c6 (by omega)
    have hi2 : i = size c plan := by omega
    have hok : LayOk c plan bs l (places plan) ((List.replicate (places plan + 1) ([] : List Int)).set (places plan) (List.replicate (size c plan) 1)) := by
      refine ⟨by simp, fun j h1 h2 => ?_⟩
      have : j = places plan := by omega
      subst this
      rw [getD_setL _ _ _ _ (by simp), if_pos rfl, ← capRow_one]
      apply capRow_congr
      intro a _
      simp [onS, onw]
    have h1 := layers_l1 C c l plan bs hC hc c6 hsh hcol hl (places plan) _ (Nat.le_refl _) hok
    refine Ev.step (f := fun k => (spec_l03Power.f k (c : Int) ((rowLen plan 0 : Nat) : Int)).bind fun t148 => spec_l03Layers.l1 k plan bs (rowLen plan 0 : Nat) C (size c plan : Nat) ((List.replicate (places plan + 1) ([] : List Int)).set (places plan) (List.replicate (size c plan) 1)) t148 (wrap64 (((places plan : Nat) : Int) - 1)) C l) (fun k => ?_) (Ev.bind hpw h1)
    rw [spec_l03Layers.l0, if_neg b1, e0, e1, if_pos b2, if_pos b3, Int.toNat_natCast, Option.bind_some, if_pos b4, if_pos b5, Int.toNat_natCast, hi2, hC]
    simp
  | succ d ih =>
    intro i hi
    have b1 : ((i : Nat) : Int) < ((size c plan : Nat) : Int) := by omega
    have b2 : (0 : Int) ≤ (i : Int) := Int.natCast_nonneg i
    have b3 : (i : Int) < ((List.replicate i (1 : Int) ++ List.replicate (d + 1) 0).length : Int) := by simp; omega
    have e : (List.replicate i (1 : Int) ++ List.replicate (d + 1) 0).set i 1 = List.replicate (i + 1) 1 ++ List.replicate d 0 := by
      rw [List.set_append_right _ _ (by simp), List.length_replicate, Nat.sub_self, List.replicate_succ (n := d), List.set_cons_zero, List.replicate_succ' (n := i), List.append_assoc]
      rfl
    refine Ev.step (fun k => ?_) (ih (i + 1) (by omega))
    rw [spec_l03Layers.l0, if_pos b1, if_pos b2, if_pos b3, Int.toNat_natCast, e, succ_wrap i (by omega)]
theorem specLayers_ev (hC : C = (c : Int)) (hc : 0 < c) (c6 : c ≤ 6) (hsh : Shape plan bs) (hcol : ∀ t ∈ l, Col c t) (hl : l.length ≤ 1000) : Ev (fun k => spec_l03Layers.f k C l plan bs) (layersT c plan bs l) := by
  have hw := hsh.w1
  have w5 := hsh.w5
  have hS : size c plan ≤ 46656 := pow_le c (rowLen plan 0 + 1) c6 (by omega)
  have hpw := power_ev c (rowLen plan 0 + 1) c6 (by omega)
  have b1 : (0 : Int) < (plan.length : Int) := by have := hsh.h1; omega
  have e0 : (rd_L1 plan 0).length = rowLen plan 0 := by
    have := rdL_nat plan 0
    rw [show (((0 : Nat)) : Int) = 0 from rfl] at this
    rw [this]; rfl
  have e1 : wrap64 (((rowLen plan 0 : Nat) : Int) + 1) = ((rowLen plan 0 + 1 : Nat) : Int) := succ_wrap _ (by omega)
  have b2 : (0 : Int) ≤ ((size c plan : Nat) : Int) := Int.natCast_nonneg _
  have b3 : ((size c plan : Nat) : Int).toNat ≤ 35184372088832 := by omega
  have h0 := layers_l0 C c l plan bs hC hc c6 hsh hcol hl (size c plan) 0 (by omega)
  refine Ev.congr (fun k => by rw [spec_l03Layers.f, if_pos b1, e0, e1, hC]) (Ev.bind hpw ?_)
  refine Ev.congr (fun k => ?_) h0
  rw [show c ^ (rowLen plan 0 + 1) = size c plan from rfl, if_pos b2, if_pos b3, Int.toNat_natCast, Option.bind_some, List.length_replicate, List.replicate_zero, List.nil_append, hC]
  rfl
end
end Go.Proofs.Ytcaikaflpmaocaa

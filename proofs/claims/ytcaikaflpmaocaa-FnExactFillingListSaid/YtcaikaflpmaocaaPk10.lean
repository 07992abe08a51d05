/-
 Parts of the proof, in their order: FitsE, PLayP, PNumP, LayW, StepH, Can, CanE, QSpecL03List, PList, PPlanP, ListF, LPlan, LPlanE.
-/
import Derived.Test.YtcaikaflpmaocaaSq
import Derived.Test.YtcaikaflpmaocaaPk9
import Derived.Test.YtcaikaflpmaocaaPk8
import Derived.Test.YtcaikaflpmaocaaPk7
import Derived.Test.YtcaikaflpmaocaaPk4
namespace Go.Proofs.Ytcaikaflpmaocaa
open Go Go.RowKit Go.Proofs Go.Proofs.YtcaikaflpmaocaaW.PrintWords Go.Proofs.Ytcaikaflpmaocaa.Q
set_option linter.unusedVariables false
set_option linter.unusedSimpArgs false
def shapeB (plan bs : List (List Int)) : Bool :=
 decide (1 ≤ plan.length) && decide (plan.length ≤ 5) && decide (1 ≤ rowLen plan 0) && decide (rowLen plan 0 ≤ 5) && (List.range plan.length).all (fun y => decide (rowLen plan y = rowLen plan 0)) && decide (bs.length = 4) &&
  (List.range 4).all (fun k => decide (rowLen bs k = 0) || decide (rowLen bs k = if k % 2 = 1 then rowLen plan 0 else plan.length))
theorem shape_of {plan bs : List (List Int)} (h : shapeB plan bs = true) : Shape plan bs := by
 simp only [shapeB, Bool.and_eq_true, decide_eq_true_eq, List.all_eq_true, List.mem_range, Bool.or_eq_true] at h
 obtain ⟨⟨⟨⟨⟨⟨h1, h5⟩, w1⟩, w5⟩, hl⟩, h4⟩, hb⟩ := h
 exact ⟨h1, h5, w1, w5, hl, h4, hb⟩
theorem shapeB_of {plan bs : List (List Int)} (h : Shape plan bs) : shapeB plan bs = true := by
 simp only [shapeB, Bool.and_eq_true, decide_eq_true_eq, List.all_eq_true, List.mem_range, Bool.or_eq_true]
 exact ⟨⟨⟨⟨⟨⟨h.h1, h.h5⟩, h.w1⟩, h.w5⟩, h.len⟩, h.four⟩, h.bl⟩
def placeB (n : Nat) (plan : List (List Int)) (y x i : Int) : Bool := decide (0 ≤ y ∧ y < plan.length) && decide (0 ≤ x ∧ x < rowLen plan 0) && decide (0 ≤ i ∧ i < n)
end Go.Proofs.Ytcaikaflpmaocaa
namespace Go.Proofs.Ytcaikaflpmaocaa.Q
open Go Go.RowKit Go.Proofs Go.Proofs.YtcaikaflpmaocaaW.PrintWords Go.Proofs.Ytcaikaflpmaocaa
set_option linter.unusedVariables false
set_option linter.unusedSimpArgs false
def spec_l03Fits.f (a0_0 : Int) (l0_1 : List STile) (l1 l2 : List (List Int)) (a3 a4 a5 : Int) : Option Bool :=
 if (decide (l0_1.length ≤ 1000000) && shapeB l1 l2 && placeB l0_1.length l1 a3 a4 a5) = true then some (fitB (l0_1.map toT) l1 l2 a3.toNat a4.toNat a5.toNat) else none
theorem spec_l03Fits.calls (a0_0 : Int) (A0_1 : Option Addr) (c0_1 : Nat) (l0_1 : List STile) (A1 : Option Addr) (c1 : Nat) (l1 : List (List Int)) (A2 : Option Addr) (c2 : Nat) (l2 : List (List Int)) (a3 a4 a5 : Int) (r : Bool) (w : World) (hr0_1 : Kd.C k85 w A0_1 l0_1.length l0_1) (hc0_1 : l0_1.length ≤ c0_1) (hr1 : Kd.C (Kd.slice 2 (Kd.int .i64)) w A1 l1.length l1) (hc1 : l1.length ≤ c1) (hr2 : Kd.C (Kd.slice 2 (Kd.int .i64)) w A2 l2.length l2) (hc2 : l2.length ≤ c2) (h : spec_l03Fits.f a0_0 l0_1 l1 l2 a3 a4 a5 = some r) :
 Calls Try.prog 77 #[.agg #[.int .i64 a0_0, .slice A0_1 l0_1.length c0_1], .slice A1 l1.length c1, .slice A2 l2.length c2, .int .i64 a3, .int .i64 a4, .int .i64 a5] w fun e w' => e = .returned (.bool r) ∧ Below w.heap.size w w' := by
 unfold spec_l03Fits.f at h
 split at h
 ·rename_i hl
  simp only [Bool.and_eq_true, decide_eq_true_eq, placeB] at hl
  obtain ⟨⟨h1, h2⟩, ⟨⟨y0, y1⟩, x0, x1⟩, i0, i1⟩ := hl
  obtain rfl := Option.some.inj h
  have h3 := fits_any a0_0 A0_1 (l0_1.map toT) l0_1.length c0_1 A1 l1 l1.length c1 A2 l2 l2.length c2 a3.toNat a4.toNat a5.toNat w (by simp) (rt_of_C hr0_1) h1 rfl (rr_of_C hr1) rfl (rr_of_C hr2) (shape_of h2) (by omega) (by omega) (by simp; omega)
  rw [Int.toNat_of_nonneg y0, Int.toNat_of_nonneg x0, Int.toNat_of_nonneg i0] at h3
  exact h3
 ·cases h
end Go.Proofs.Ytcaikaflpmaocaa.Q
namespace Go.Proofs.Ytcaikaflpmaocaa
open Go Go.RowKit Go.Proofs Go.Proofs.YtcaikaflpmaocaaW.PrintWords Go.Proofs.YtcaikaflpmaocaaW.PrintMore Go.Proofs.Ytcaikaflpmaocaa.Q
set_option linter.unusedVariables false
set_option linter.unusedSimpArgs false
theorem power_all : ∀ c : Fin 7, ∀ n : Fin 7, spec_l03Power.f 60 (c.val : Int) (n.val : Int) = some ((c.val ^ n.val : Nat) : Int) := by decide +kernel
theorem pow_le (c n : Nat) (hc : c ≤ 6) (hn : n ≤ 6) : c ^ n ≤ 46656 := by
 calc c ^ n ≤ 6 ^ n := Nat.pow_le_pow_left hc n
  _ ≤ 6 ^ 6 := Nat.pow_le_pow_right (by decide) hn
theorem mul6 {a b : Nat} (ha : a ≤ 6) (hb : b ≤ 46656) : a * b ≤ 279936 := Nat.mul_le_mul ha hb
theorem tdiv_nat (a b : Nat) (h : a < 1000000000) : wrap64 (Int.tdiv (a : Int) (b : Int)) = ((a / b : Nat) : Int) := by
 have h1 : a / b ≤ a := Nat.div_le_self a b
 rw [← Int.ofNat_tdiv]
 generalize a / b = q at h1
 exact wrap_id (by omega) (by omega)
theorem tmod_nat (a b : Nat) : Int.tmod (a : Int) (b : Int) = ((a % b : Nat) : Int) := (Int.ofNat_tmod a b).symm
theorem dig_int (c s k : Nat) (h : s < 1000000000) : Int.tmod (wrap64 (Int.tdiv (s : Int) ((c ^ k : Nat) : Int))) (c : Int) = ((dig c s k : Nat) : Int) := by
 rw [tdiv_nat _ _ h, tmod_nat]; rfl
theorem next_aux {s X E z f3 d f2 hi B T : Int} (h1 : (f3 - d) * B = X) (h2 : (f2 - hi) * T = E) (b1 : -100 ≤ f3 - d ∧ f3 - d ≤ 100) (b2 : -100 ≤ f2 - hi ∧ f2 - hi ≤ 100) (bX : -1000000 ≤ X ∧ X ≤ 1000000) (bE : -1000000 ≤ E ∧ E ≤ 1000000) (bs : 0 ≤ s ∧ s ≤ 1000000) (hz : z = s + X + E) :
 wrap64 ((wrap64 (s + (wrap64 ((wrap64 (f3 - d)) * B)))) + (wrap64 ((wrap64 (f2 - hi)) * T))) = z := by
 rw [wrap_id (x := f3 - d) (by omega) (by omega), h1, wrap_id (x := X) (by omega) (by omega), wrap_id (x := f2 - hi) (by omega) (by omega), h2, wrap_id (x := E) (by omega) (by omega), wrap_id (x := s + X) (by omega) (by omega), wrap_id (by omega) (by omega), hz]
theorem lin_aux {s m q g lo T X E z : Int} (e1 : lo = m + X) (e2 : s = m + q) (e3 : E = g - q) (l0 : 0 ≤ lo) (l1 : lo < T) (l2 : T ≤ 46656) (m0 : 0 ≤ m) (m1 : m < T) (q0 : 0 ≤ q) (q1 : q ≤ 279936) (g0 : 0 ≤ g) (g1 : g ≤ 279936) (hz : z = s + X - q + g) :
 (-1000000 ≤ X ∧ X ≤ 1000000) ∧ (-1000000 ≤ E ∧ E ≤ 1000000) ∧ (0 ≤ s ∧ s ≤ 1000000) ∧ z = s + X + E := by omega
theorem next_wrap (c w : Nat) (t : STile) (p s : Nat) (hc : 0 < c) (c6 : c ≤ 6) (hw : 0 < w) (w5 : w ≤ 5) (ht : Col c t) (hs : s < c ^ (w + 1)) :
 wrap64 ((wrap64 ((s : Int) + (wrap64 ((wrap64 (t.f3 - ((dig c s (p % w) : Nat) : Int))) * ((c ^ (p % w) : Nat) : Int))))) + (wrap64 ((wrap64 (t.f2 - ((s / c ^ w : Nat) : Int))) * ((c ^ w : Nat) : Int)))) = ((nextZ true c w t p s).toNat : Int) := by
 have hx : p % w < w := Nat.mod_lt _ hw
 obtain ⟨lo, h1, e1, -, h3⟩ := next_parts true c w t p s hc hw ht
 obtain ⟨-, -, g2, g3⟩ := ht
 have hT : c ^ w ≤ 46656 := pow_le c w c6 (by omega)
 have hd : dig c s (p % w) < c := Nat.mod_lt _ hc
 have hhi : s / c ^ w < c := by
  rw [Nat.div_lt_iff_lt_mul (Nat.pow_pos hc)]; rw [Nat.pow_succ, Nat.mul_comm] at hs; exact hs
 have hm : s % c ^ w < c ^ w := Nat.mod_lt _ (Nat.pow_pos hc)
 have hsm : s % c ^ w + s / c ^ w * c ^ w = s := by rw [Nat.mul_comm]; exact Nat.mod_add_div s (c ^ w)
 have b2 : (t.f2 - ((s / c ^ w : Nat) : Int)) * ((c ^ w : Nat) : Int) = t.f2 * ((c ^ w : Nat) : Int) - ((s / c ^ w : Nat) : Int) * ((c ^ w : Nat) : Int) := Int.sub_mul _ _ _
 have m2 : t.f2 * ((c ^ w : Nat) : Int) = ((t.f2.toNat * c ^ w : Nat) : Int) := by rw [Int.natCast_mul, Int.toNat_of_nonneg g2.1]
 have m3 : ((s / c ^ w : Nat) : Int) * ((c ^ w : Nat) : Int) = ((s / c ^ w * c ^ w : Nat) : Int) := by rw [Int.natCast_mul]
 have n2 : t.f2.toNat * c ^ w ≤ 279936 := mul6 (by omega) hT
 have n3 : s / c ^ w * c ^ w ≤ 279936 := mul6 (by omega) hT
 have hz : nextZ true c w t p s = (s : Int) + (t.f3 - (dig c s (p % w) : Int)) * ((c ^ (p % w) : Nat) : Int) - ((s / c ^ w * c ^ w : Nat) : Int) + ((t.f2.toNat * c ^ w : Nat) : Int) := by
  unfold nextZ; rw [m3]; simp only [Bool.true_or, if_true, m2]
 rw [m2, m3] at b2
 generalize hgX : (t.f3 - (dig c s (p % w) : Int)) * ((c ^ (p % w) : Nat) : Int) = X at hz e1
 generalize hgE : (t.f2 - ((s / c ^ w : Nat) : Int)) * ((c ^ w : Nat) : Int) = E at b2
 have hh : ((s / c ^ w : Nat) : Int) < (c : Int) := Int.ofNat_lt.2 hhi
 have hh0 : (0 : Int) ≤ ((s / c ^ w : Nat) : Int) := Int.natCast_nonneg _
 have hd1 : ((dig c s (p % w) : Nat) : Int) < (c : Int) := Int.ofNat_lt.2 hd
 have hd0 : (0 : Int) ≤ ((dig c s (p % w) : Nat) : Int) := Int.natCast_nonneg _
 have hsm' : (s : Int) = ((s % c ^ w : Nat) : Int) + ((s / c ^ w * c ^ w : Nat) : Int) := by rw [← Int.natCast_add, hsm]
 obtain ⟨k1, k2, k3, k4⟩ := lin_aux (T := ((c ^ w : Nat) : Int)) e1 hsm' b2 (Int.natCast_nonneg _) (Int.ofNat_lt.2 h1) (Int.ofNat_le.2 hT) (Int.natCast_nonneg _) (Int.ofNat_lt.2 hm) (Int.natCast_nonneg _) (Int.ofNat_le.2 n3) (Int.natCast_nonneg _) (Int.ofNat_le.2 n2) hz
 rw [Int.toNat_of_nonneg h3]
 refine next_aux hgX hgE ?_ ?_ k1 k2 k3 k4
 ·generalize ((dig c s (p % w) : Nat) : Int) = d at hd1 hd0 ⊢
  clear hgX hgE hz k4 e1 b2 hsm' n2 n3 hsm hm hhi hT h1 h3 hs m2 m3
  omega
 ·generalize ((s / c ^ w : Nat) : Int) = d at hh hh0 ⊢
  clear hgX hgE hz k4 e1 b2 hsm' n2 n3 hsm hm hhi hT h1 h3 hs m2 m3
  omega
def fitP (plan bs : List (List Int)) (l : List STile) : Nat → Nat → Bool := fun p i => fitB (l.map toT) plan bs (p / rowLen plan 0) (p % rowLen plan 0) i
def stepS (c : Nat) (plan bs : List (List Int)) (l : List STile) : Nx := nx true c (rowLen plan 0) l (fitP plan bs l)
def places (plan : List (List Int)) : Nat := plan.length * rowLen plan 0
def size (c : Nat) (plan : List (List Int)) : Nat := c ^ (rowLen plan 0 + 1)
def onS (c : Nat) (plan bs : List (List Int)) (l : List STile) (p : Nat) : Nat → Int := onw (stepS c plan bs l) l.length (places plan - p) p
def layS (c : Nat) (plan bs : List (List Int)) (l : List STile) (p : Nat) : List Int := capRow (size c plan) (onS c plan bs l p)
theorem nat_ne0 {n : Nat} (h : 0 < n) : ¬ (n : Int) = 0 := by omega
theorem rdL_nat (x : List (List Int)) (i : Nat) : rd_L1 x (i : Int) = x.getD i [] := by simp [rd_L1]
theorem getD_setL (v : List (List Int)) (e i : Nat) (x : List Int) (h : e < v.length) : (v.set e x).getD i [] = if i = e then x else v.getD i [] := by
 simp only [List.getD_eq_getElem?_getD, List.getElem?_set]
 by_cases hi : e = i
 ·subst hi; simp [h]
 ·simp [hi, Ne.symm hi]
def mix (Q' Q : Nat → Int) (s : Nat) : Nat → Int := fun a => if a < s then Q' a else Q a
theorem mix_same {sz s : Nat} {Q' Q : Nat → Int} (h : Q' s = Q s) : capRow sz (mix Q' Q s) = capRow sz (mix Q' Q (s + 1)) := by
 apply capRow_congr
 intro a ha
 unfold mix
 by_cases h1 : a < s
 ·rw [if_pos h1, if_pos (by omega)]
 ·rw [if_neg h1]
  by_cases h2 : a < s + 1
  ·rw [if_pos h2]
   have : a = s := by omega
   subst this
   exact h.symm
  ·rw [if_neg h2]
theorem mix_set {sz s : Nat} {Q' Q : Nat → Int} {y : Int} (hs : s < sz) (h : Q' s = Q s + y) : (capRow sz (mix Q' Q s)).set s (cap (Q s + y)) = capRow sz (mix Q' Q (s + 1)) := by
 have q3 : Q s = mix Q' Q s s := by unfold mix; rw [if_neg (by omega)]
 rw [q3, capRow_set hs]
 apply capRow_congr
 intro a ha
 unfold mix
 by_cases h1 : a < s
 ·rw [if_pos h1, if_neg (by omega), if_pos (by omega), Int.add_zero]
 ·rw [if_neg h1]
  by_cases h2 : a = s
  ·subst h2
   rw [if_pos rfl, if_pos (by omega), h]
  ·rw [if_neg h2, if_neg (by omega), Int.add_zero]
theorem mix_all {sz : Nat} {Q' Q : Nat → Int} : capRow sz (mix Q' Q sz) = capRow sz Q' := capRow_congr fun a ha => if_pos ha
theorem mix_none {sz : Nat} {Q' Q : Nat → Int} : capRow sz (mix Q' Q 0) = capRow sz Q := capRow_congr fun a ha => if_neg (by omega)
theorem mix_at {sz s : Nat} {Q' Q : Nat → Int} (hs : s < sz) : rd (capRow sz (mix Q' Q s)) (s : Int) = cap (Q s) := by
 rw [rd_nat, capRow_get hs]; unfold mix; rw [if_neg (by omega)]
theorem capRow_at {c s : Nat} {q : Nat → Int} (h : s < c) : rd (capRow c q) (s : Int) = cap (q s) := by rw [rd_nat, capRow_get h]
section
variable (C : Int) (c : Nat) (l : List STile) (plan bs : List (List Int)) (r : List (List Int))
def part (c : Nat) (l : List STile) (plan bs : List (List Int)) (p i : Nat) (a : Nat) : Int := ((List.range i).map fun j => val (onS c plan bs l (p + 1)) (stepS c plan bs l p a j)).sum
theorem part_succ (p i a : Nat) : part c l plan bs p (i + 1) a = part c l plan bs p i a + val (onS c plan bs l (p + 1)) (stepS c plan bs l p a i) := by
 simp [part, List.range_succ, List.sum_append]
theorem val_nn {q : Nat → Int} (h : ∀ a, 0 ≤ q a) (o : Option Nat) : 0 ≤ val q o := by
 cases o
 ·exact Int.le_refl 0
 ·exact h _
theorem onS_nn (p a : Nat) : 0 ≤ onS c plan bs l p a := onw_nn _ _ _ _ _
theorem part_nn (p i a : Nat) : 0 ≤ part c l plan bs p i a := by
 apply sum_nn
 intro x hx
 obtain ⟨j, -, rfl⟩ := List.mem_map.1 hx
 exact val_nn (onS_nn c l plan bs (p + 1)) _
theorem part_all (p : Nat) (hp : p < places plan) (a : Nat) : part c l plan bs p l.length a = onS c plan bs l p a := by
 rw [onS, show places plan - p = (places plan - (p + 1)) + 1 by omega, onw]; rfl
theorem step_nofit (p s i : Nat) (h : fitP plan bs l p i = false) : stepS c plan bs l p s i = none := by
 simp [stepS, nx, h]
def LayOk (c : Nat) (plan bs : List (List Int)) (l : List STile) (p : Nat) (x : List (List Int)) : Prop := x.length = places plan + 1 ∧ ∀ j, p ≤ j → j ≤ places plan → x.getD j [] = layS c plan bs l j
def layersT (c : Nat) (plan bs : List (List Int)) (l : List STile) : List (List Int) := (List.range (places plan + 1)).map (layS c plan bs l)
theorem layOk_tab {x : List (List Int)} (h : LayOk c plan bs l 0 x) : x = layersT c plan bs l := by
 apply List.ext_getElem
 ·rw [h.1]; simp [layersT]
 ·intro j h1 h2
  have hj : j ≤ places plan := by have := h.1; omega
  have := h.2 j (by omega) hj
  rw [List.getD_eq_getElem?_getD, List.getElem?_eq_getElem h1] at this
  simp only [Option.getD_some] at this
  rw [this]; simp [layersT]
theorem part_zero (p : Nat) : capRow (size c plan) (part c l plan bs p 0) = List.replicate (size c plan) 0 := by
 rw [← capRow_zero]
 exact capRow_congr fun a _ => by simp [part]
end
def numS (c : Nat) (plan bs : List (List Int)) (l : List STile) : Int := onS c plan bs l 0 0
theorem layersT_at (c : Nat) (plan bs : List (List Int)) (l : List STile) : rd_L1 (layersT c plan bs l) 0 = layS c plan bs l 0 := by
 have h := rdL_nat (layersT c plan bs l) 0
 rw [show (((0 : Nat)) : Int) = 0 from rfl] at h
 rw [h]
 simp [layersT, List.getD_eq_getElem?_getD]
theorem layS_at {c : Nat} (plan bs : List (List Int)) (l : List STile) (hc : 0 < c) : rd (layS c plan bs l 0) 0 = cap (numS c plan bs l) := by
 have h : rd (layS c plan bs l 0) ((0 : Nat) : Int) = cap (onS c plan bs l 0 0) := capRow_at (Nat.pow_pos hc)
 exact h
theorem isS_cols {C : Int} {l : List STile} (h : isS C (l.map toT) = true) : (1 ≤ C ∧ C ≤ 6) ∧ l.length ≤ 16 ∧ ∀ t ∈ l, Col C.toNat t := by
 obtain ⟨hc, hl, hok⟩ := isS_iff.1 h
 refine ⟨hc, by simpa using hl, fun t ht => ?_⟩
 obtain ⟨i, hi, rfl⟩ := List.getElem_of_mem ht
 have := (hok i (by simpa using hi)).1
 rw [tk_map _ _ hi] at this
 simp only [tileB, Bool.and_eq_true, inB_iff, T4.get, toT] at this
 simp at this
 unfold Col
 omega
theorem cap_pos' {x : Int} : cap x > 0 ↔ 0 < x := by unfold cap; split <;> omega
end Go.Proofs.Ytcaikaflpmaocaa
namespace Go.Proofs.Ytcaikaflpmaocaa
open Go Go.RowKit Go.Proofs Go.Proofs.YtcaikaflpmaocaaW.PrintWords Go.Proofs.YtcaikaflpmaocaaW.PrintLast Go.Proofs.YtcaikaflpmaocaaW.PrintMore Go.Proofs.Ytcaikaflpmaocaa.Q
set_option linter.unusedVariables false
set_option linter.unusedSimpArgs false
theorem power_any (C N : Int) (c n : Nat) (w : World) (hC : C = (c : Int)) (hN : N = (n : Int)) (hc : c ≤ 6) (hn : n ≤ 6) :
 Calls Try.prog 76 #[.int .i64 C, .int .i64 N] w fun e w' => e = .returned (.int .i64 ((c ^ n : Nat) : Int)) ∧ Below w.heap.size w w' := by
 subst hC hN
 have h := power_all ⟨c, by omega⟩ ⟨n, by omega⟩
 exact (spec_l03Power.calls 60 (c : Int) (n : Int) _ w h).mono fun e w' ⟨he, hw⟩ => ⟨he, by first | exact hw | (obtain ⟨nd, rfl⟩ := hw; exact pw_below_drewN (Below.refl _ _) nd) | (subst hw; exact Below.refl _ _)⟩
theorem S_putI {e e2 base g n cap i : Nat} {W : World} {ok okg : Nat → Prop} {rows : List (List Int)} {u : Value} {row : List Int}
 (h : Kd.S (Kd.slice e (Kd.int .i64)) e2 W base (fun k => ok k ∧ ¬ okg k) (.slice (some ⟨g, 0, none⟩) n cap) rows) (hi : i < n) (hM : Kd.R (Kd.int .i64) e W base okg u row) (hg : ∀ k, okg k → ok k ∧ k ≠ g) :
 Kd.S (Kd.slice e (Kd.int .i64)) e2 (W.setCell ⟨g, i, none⟩ u) base ok (.slice (some ⟨g, 0, none⟩) n cap) (rows.set i row) := by
 obtain ⟨oki, c, hcl, -, -, -, hH⟩ := Kd.S_lend h [] (i : Int) (by omega) (by omega)
 have hc1 : c.length = 1 := hcl
 have h2 := Kd.S_seg hH (by omega) (by omega) (seg := [u]) (j := 0) (x' := row) (okp := okg) (by show 0 + 1 ≤ 1; omega)
  (by
   have e : c.take 0 ++ [u] ++ c.drop (0 + [u].length) = [u] := by simp [List.drop_eq_nil_of_le (show c.length ≤ 1 by omega)]
   rw [e]
   exact Kd.M_row hM) (fun k hk => .inr hk) hg
 have e3 : (W.setCells g ((i : Int).toNat * (Kd.slice e (Kd.int .i64)).sz + 0) [u]) = W.setCell ⟨g, i, none⟩ u := by
  have e4 : (i : Int).toNat * (Kd.slice e (Kd.int .i64)).sz + 0 = i := by rw [Int.toNat_natCast]; show i * 1 + 0 = i; omega
  rw [e4]; rfl
 rw [e3, Int.toNat_natCast] at h2
 exact h2.1
structure YW (w0 W : World) (M : Nat) (C : Int) (A : Option Addr) (n c gO P1 cO : Nat) (rows : List (List Int)) : Prop where
 be : Below w0.heap.size w0 W
 l0 : w0.heap.size < M
 lM : M ≤ W.heap.size
 bs : BK W w0.heap.size #[.int .i64 C, .slice A n c] 36
 lay : Kd.S (Kd.slice 2 (Kd.int .i64)) 56 W w0.heap.size (fun k => k < M) (.slice (some ⟨gO, 0, none⟩) P1 cO) rows
section
variable {w0 W W1 : World} {M : Nat} {C : Int} {A : Option Addr} {n c gO P1 cO : Nat} {rows : List (List Int)}
theorem YW.keep (h : YW w0 W M C A n c gO P1 cO rows) (hb : Below w0.heap.size w0 W1) (hk : ∀ k, k < M → W1.heap[k]? = W.heap[k]?) (hM : M ≤ W1.heap.size) : YW w0 W1 M C A n c gO P1 cO rows :=
 ⟨hb, h.l0, hM, (hk _ h.l0).trans h.bs, Kd.S_move h.lay hk⟩
theorem YW.to (h : YW w0 W M C A n c gO P1 cO rows) (hb : Below W.heap.size W W1) : YW w0 W1 M C A n c gO P1 cO rows :=
 h.keep (below_to h.be hb) (fun k hk => hb.block k (by have := h.lM; omega)) (by have := h.lM; have := hb.size; omega)
theorem YW.far (h : YW w0 W M C A n c gO P1 cO rows) {g : Nat} (hg : M ≤ g) (j : Nat) (u : Value) : YW w0 (W.setCell ⟨g, j, none⟩ u) M C A n c gO P1 cO rows :=
 h.keep (h.be.setCell (by show w0.heap.size ≤ g; have := h.l0; omega) u) (fun k hk => Below.heap_setCell W ⟨g, j, none⟩ u k (by show k ≠ g; omega)) (by have := h.lM; simpa using this)
theorem YW.own (h : YW w0 W M C A n c gO P1 cO rows) : gO < M ∧ w0.heap.size ≤ gO := ⟨(Kd.S_R h.lay).1 gO (by simp [Value.ownBlock]), Kd.S_base h.lay gO (by simp [Value.ownBlock])⟩
theorem YW.len (h : YW w0 W M C A n c gO P1 cO rows) : P1 = rows.length := (Kd.S_reads' h.lay).1
theorem YW.put (h : YW w0 W M C A n c gO P1 cO rows) {u : Value} {row : List Int} (hr : Kd.R (Kd.int .i64) 2 W M (fun _ => True) u row) {i : Nat} (hi : i < P1) :
 YW w0 (W.setCell ⟨gO, i, none⟩ u) W.heap.size C A n c gO P1 cO (rows.set i row) := by
 have h1 := h.own; have h2 := h.l0; have h3 := h.lM
 have h4 : Kd.S (Kd.slice 2 (Kd.int .i64)) 56 W w0.heap.size (fun k => k < W.heap.size ∧ ¬ (M ≤ k ∧ k < W.heap.size)) (.slice (some ⟨gO, 0, none⟩) P1 cO) rows := Kd.S_mono h.lay (fun k hk => by omega)
 have h5 := S_putI (okg := fun k => M ≤ k ∧ k < W.heap.size) h4 hi (Kd.R_lower (Kd.R_mono (Kd.R_bound hr) (fun k hk => ⟨hk.2.1, hk.2.2.1⟩)) (by omega)) (fun k hk => by omega)
 have hne : w0.heap.size ≠ gO := fun e => by
  have e2 := Kd.S_ne h.lay (g := w0.heap.size) h.bs (by decide)
  rw [e] at e2
  exact e2 rfl
 exact ⟨h.be.setCell h1.2 _, by omega, by simp, h.bs.set_ne hne i u, h5⟩
theorem YW.head (h : YW w0 W M C A n c gO P1 cO rows) {i : Nat} (hi : i < P1) : ∃ v, W.cell? ⟨gO, i, none⟩ = some v ∧ W.frozen? ⟨gO, i, none⟩ = false ∧ gO < W.heap.size := by
 obtain ⟨oki, c, hcl, ⟨v, rfl, -⟩, hcc, hfr, -, -⟩ := Kd.S_elem h.lay [] (i : Int) (by omega) (by omega)
 have e : (i : Int).toNat * (Kd.slice 2 (Kd.int .i64)).sz + 0 = i := by rw [Int.toNat_natCast]; show i * 1 + 0 = i; omega
 have h1 := hcc 0 v rfl
 have h2 := hfr 0
 rw [e] at h1 h2
 have := h.own; have := h.lM
 exact ⟨v, h1, h2, by omega⟩
theorem YW.cell (h : YW w0 W M C A n c gO P1 cO rows) {i j : Nat} (hi : i < P1) (hj : j < rowLen rows i) :
 ∃ gr o cr, W.cell? ⟨gO, i, none⟩ = some (.slice (some ⟨gr, o, none⟩) (rowLen rows i) cr) ∧ W.cell? ⟨gr, o + j, none⟩ = some (.int .i64 (ik (rowAt rows i) j)) := by
 have hl := h.len
 have hC := (Kd.S_reads' h.lay).2.2
 obtain ⟨b, o, A', c', e, hb, hc, hri, -, -⟩ := (rr_of_C hC) i (by omega)
 injection e with e; injection e with e1 e2
 subst e1; subst e2
 obtain ⟨b', o', e', hb', hc'⟩ := hri j hj
 subst e'
 rw [Nat.zero_add] at hc
 exact ⟨b', o', c', hc, hc'⟩
end
def stp_T1 : Bool × List (List Nat × List Nat) := (true, [([], []), ([0], [0]), ([], []), ([2], [2]), ([], []), ([3, 4], [3, 4]), ([5], [5]), ([], []), ([1, 0, 1, 7], [1]), ([7, 6, 8, 0, 1, 2, 3, 4, 5, 6, 7, 8], [6, 7])])
def stp_B1 : List Nat := [0, 1, 0, 4, 0, 28, 60, 0, 131, 511]
theorem stp_tab1 : rtab .any (opsOf Try.f83 1) = stp_T1 := by kernel_rfl
theorem stp_bits1 : waitsOk stp_T1.2 stp_B1 = true := by kernel_rfl
theorem dv_nat9 (a b : Nat) (h : a < 1000000000) : wrap64 ((a : Int) / (b : Int)) = ((a / b : Nat) : Int) := by
 rw [← Int.natCast_ediv]
 have h2 := Nat.div_le_self a b
 generalize a / b = q at h2 ⊢
 exact wrap_id (by omega) (by omega)
set_option maxHeartbeats 8000000 in
set_option maxRecDepth 100000 in
theorem step_any (C : Int) (cn : Nat) (A : Option Addr) (ts : List T4) (n c : Nat) (wd9 s p i : Nat) (w : World)
 (hC : C = (cn : Int)) (hcn : 0 < cn) (c6 : cn ≤ 6) (hn : n = ts.length) (hA : RT w A ts) (hl : n ≤ 1000) (w1 : 1 ≤ wd9) (w5 : wd9 ≤ 5) (hs : s < cn ^ (wd9 + 1)) (hp : p ≤ 1000) (hi : i < ts.length) (hcol : ∀ t ∈ ts.map toS, Col cn t) :
 Calls Try.prog 83 #[.agg #[.int .i64 C, .slice A n c], .int .i64 wd9, .int .i64 s, .int .i64 p, .int .i64 i] w fun e w' => e = .returned (.int .i64 ((nextZ true cn wd9 (toS (tk ts i)) p s).toNat : Nat)) ∧ Below w.heap.size w w' := by
 have hNW := next_wrap cn wd9 (toS (tk ts i)) p s hcn c6 w1 w5 (hcol _ (List.mem_map.2 ⟨tk ts i, by simp [tk, List.getD_eq_getElem?_getD, List.getElem?_eq_getElem hi], rfl⟩)) hs
 have hs9 : s < 1000000000 := by have := pow_le cn (wd9 + 1) c6 (by omega); omega
 obtain ⟨tb, tq, hTA, htb, t0_, t1_, t2_, t3_⟩ := hA i hi
 subst hTA
 have e2 : (toS (tk ts i)).f2 = (tk ts i).get 2 := rfl
 have e3 : (toS (tk ts i)).f3 = (tk ts i).get 3 := rfl
 rw [e2, e3] at hNW
 generalize (nextZ true cn wd9 (toS (tk ts i)) p s).toNat = r at hNW ⊢
 generalize (tk ts i).get 0 = f0 at t0_
 generalize (tk ts i).get 1 = f1 at t1_
 generalize (tk ts i).get 2 = f2 at t2_ hNW
 generalize (tk ts i).get 3 = f3 at t3_ hNW
 have HC := Lib.hid hC; have HN := Lib.hid hn; have HNW := Lib.hid hNW; have HCN := Lib.hid hcn; have HI := Lib.hid hi
 have i1 : (i : Int) < n := by omega
 clear hC hn hNW hcn hi hcol e2 e3 hA
 go_enter Try.func83, Try.ntmps83
 go_upto_region 1 with fail
 refine name1 ?_
 intro W1 b1 hz hb0
 have z0 : W1.cell? ⟨w.heap.size, 0, none⟩ = some (.int .i64 C) := b1.cell rfl
 have z1 : W1.cell? ⟨w.heap.size, 1, none⟩ = some (.slice (some ⟨tb, tq, none⟩) n c) := b1.cell rfl
 have t0 := cell_to hb0 t0_; have t1 := cell_to hb0 t1_; have t2 := cell_to hb0 t2_; have t3 := cell_to hb0 t3_
 have hD := (Below.refl W1.heap.size W1).drew
 have HB0 := Lib.hid hb0
 clear t0_ t1_ t2_ t3_ hb0 hz b1
 refine start_ (n := 10) (S := fun w' => w'.cell? ⟨w.heap.size, 0, none⟩ = some (.int .i64 C) ∧ w'.cell? ⟨w.heap.size, 1, none⟩ = some (.slice (some ⟨tb, tq, none⟩) n c) ∧ w'.cell? ⟨tb, tq + i * 4, none⟩ = some (.int .i64 f0) ∧ w'.cell? ⟨tb, tq + i * 4 + 1, none⟩ = some (.int .i64 f1) ∧ w'.cell? ⟨tb, tq + i * 4 + 2, none⟩ = some (.int .i64 f2) ∧ w'.cell? ⟨tb, tq + i * 4 + 3, none⟩ = some (.int .i64 f3)) (ds := [9]) #[f_,f_,f_,f_,f_,f_,f_,f_,f_,f_] (by kernel_rfl) rfl rfl ⟨cell_to hD z0, cell_to hD z1, cell_to hD t0, cell_to hD t1, cell_to hD t2, cell_to hD t3⟩ (fun hHeld => ?_)
 refine with_tabW stp_tab1 stp_bits1 (fun HT_ HW_ => ?_)
 generalize W1.drew = wd at hD hHeld ⊢
 refine p_ 0 15 ?_ #[t_,f_,f_,f_,f_,f_,f_,f_,f_,f_] rfl rfl HT_.out (by kernel_rfl) (fun _ _ _ h => h) (.inl ⟨by rfl, ?_⟩) ?_ ?_ ?_
 rotate_left
 ·intro w'
  go_simp
  with_reducible rfl
 rotate_left
 ·simp only [Q_]
  rfl
 refine p_ 2 17 ?_ #[t_,f_,t_,f_,f_,f_,f_,f_,f_,f_] rfl rfl HT_.out (by kernel_rfl) (fun _ _ _ h => h) (.inl ⟨by rfl, ?_⟩) ?_ ?_ ?_
 rotate_left
 ·intro w'
  go_simp
  with_reducible rfl
 rotate_left
 ·simp only [Q_]
  rfl
 refine p_ 4 19 ?_ #[t_,f_,t_,f_,t_,f_,f_,f_,f_,f_] rfl rfl HT_.out (by kernel_rfl) (fun _ _ _ h => h) (.inl ⟨by rfl, ?_⟩) ?_ ?_ ?_
 rotate_left
 ·intro w'
  go_simp
  with_reducible rfl
 rotate_left
 ·simp only [Q_]
  rfl
 refine tk_ 1 16 ?_ #[t_,t_,t_,f_,t_,f_,f_,f_,f_,f_] rfl rfl (take_ofW HT_.out HW_.out (by kernel_rfl)) (fun _ _ _ h => h) (.inl ⟨by rfl, ?_⟩) hHeld ?_ ?_ ?_
 rotate_left
 ·rintro w' ⟨s0, s1, s2, s3, s4, s5⟩
  go_simp
  with_reducible rfl
 rotate_left
 ·simp only [Q_]
  rfl
 refine tk_ 3 18 ?_ #[t_,t_,t_,t_,t_,f_,f_,f_,f_,f_] rfl rfl (take_ofW HT_.out HW_.out (by kernel_rfl)) (fun _ _ _ h => h) (.inl ⟨by rfl, ?_⟩) hHeld ?_ ?_ ?_
 rotate_left
 ·rintro w' ⟨s0, s1, s2, s3, s4, s5⟩
  go_simp
  with_reducible rfl
 rotate_left
 ·simp only [Q_]
  rfl
 refine p_ 5 20 ?_ #[t_,t_,t_,t_,t_,t_,f_,f_,f_,f_] rfl rfl HT_.out (by kernel_rfl) (fun _ _ _ h => h) (.inl ⟨by rfl, ?_⟩) ?_ ?_ ?_
 rotate_left
 ·intro w'
  go_simp
  with_reducible rfl
 rotate_left
 ·simp only [Q_]
  rfl
 refine tk_ 6 21 ?_ #[t_,t_,t_,t_,t_,t_,t_,f_,f_,f_] rfl rfl (take_ofW HT_.out HW_.out (by kernel_rfl)) (fun _ _ _ h => h) (.inl ⟨by rfl, ?_⟩) hHeld ?_ ?_ ?_
 rotate_left
 ·rintro w' ⟨s0, s1, s2, s3, s4, s5⟩
  go_simp
  with_reducible rfl
 rotate_left
 ·simp only [Q_]
  rfl
 refine one_ (i := 7) (N := some 12) #[t_,t_,t_,t_,t_,t_,t_,t_,f_,f_] rfl rfl (one_of HT_.out (by kernel_rfl)) (by decide) (fun K hK => ?_)
 refine value_ (w1 := ?_) (v := ?_) (by rfl) rfl ?_ ?_
 rotate_left 2
 ·go_simp
  constructor
  ·rfl
  ·rfl
 refine hK.out _ _ ⟨cell_to (below_alloc (Below.refl _ _) _) hHeld.1, cell_to (below_alloc (Below.refl _ _) _) hHeld.2.1, cell_to (below_alloc (Below.refl _ _) _) hHeld.2.2.1, cell_to (below_alloc (Below.refl _ _) _) hHeld.2.2.2.1, cell_to (below_alloc (Below.refl _ _) _) hHeld.2.2.2.2.1, cell_to (below_alloc (Below.refl _ _) _) hHeld.2.2.2.2.2⟩ (fun hHeld => ?_)
 clear hK K
 refine norm_ (a' := ?_) ?_ ?_
 rotate_left
 ·show Act.put _ (some 12) _ = _
  simp only [Q_]
  rfl
 refine p_ 8 11 ?_ #[t_,t_,t_,t_,t_,t_,t_,t_,t_,f_] rfl rfl HT_.out (by kernel_rfl) (fun _ _ _ h => h) (.inl ⟨by rfl, ?_⟩) ?_ ?_ ?_
 rotate_left
 ·intro w'
  go_simp
  with_reducible rfl
 rotate_left
 ·simp only [Q_]
  rfl
 refine last_ (i := 9) (N := none) #[t_,t_,t_,t_,t_,t_,t_,t_,t_,t_] rfl rfl (one_of HT_.out (by kernel_rfl)) (by decide) (fun K hK => ?_)
 refine skip_ (w1 := ?_) (by rfl) rfl ?_ ?_
 rotate_left
 ·go_simp
  rfl
 refine hK.out _ _ ?_
 clear hK K
 refine done_ (done_of HT_.out (by kernel_rfl)) ?_
 have HBD := Lib.hid (below_to HB0.out hD)
 clear hHeld hD z0 z1 t0 t1 t2 t3 HT_ HW_
 have bt := BK.new wd #[.int .i64 f0, .int .i64 f1, .int .i64 f2, .int .i64 f3] 85
 have hb2 := below_alloc (Below.refl wd.heap.size wd) (.cells #[.int .i64 f0, .int .i64 f1, .int .i64 f2, .int .i64 f3] 85)
 obtain ⟨tB, htB⟩ : ∃ b_, b_ = wd.heap.size := ⟨_, rfl⟩
 generalize wd.alloc (.cells #[.int .i64 f0, .int .i64 f1, .int .i64 f2, .int .i64 f3] 85) = W2 at bt hb2 ⊢
 have HB2 := Lib.hid (below_to HBD.out hb2)
 rw [← htB] at bt ⊢
 have HBT := Lib.hid bt
 clear bt hb2 htB
 obtain ⟨x, hx⟩ : ∃ x : Nat, x = p % wd9 := ⟨_, rfl⟩
 have hxw : x < wd9 := by rw [hx]; exact Nat.mod_lt _ (by omega)
 have v2 : ¬ wd9 = 0 := by omega
 have e9 : (p : Int) % (wd9 : Int) = (x : Int) := by rw [hx, Int.natCast_emod]
 have HXX := Lib.hid hx
 clear hx
 go_wp2_with fail
 refine (power_any C _ cn x W2 HC.out (by first | rfl | exact e9 | (rw [tmod_nat, Int.natCast_emod]; exact e9)) c6 (by omega)).mono ?_
 rintro e W3 ⟨rfl, hb3⟩
 have HB3 := Lib.hid (below_to HB2.out hb3); have HBT3 := Lib.hid (show BK W3 tB _ _ from (hb3.block _ HBT.out.lt).trans HBT.out)
 obtain ⟨bl, hbl⟩ : ∃ q : Nat, q = cn ^ x := ⟨_, rfl⟩
 rw [← hbl]
 have bl0 : ¬ bl = 0 := by have : 0 < bl := (by rw [hbl]; exact Nat.pow_pos HCN.out); omega
 have HBL := Lib.hid hbl
 clear hb3 hbl
 go_wp2_with fail
 refine (power_any C _ cn wd9 W3 HC.out rfl c6 (by omega)).mono ?_
 rintro e W4 ⟨rfl, hb4⟩
 obtain ⟨tp, htp⟩ : ∃ q : Nat, q = cn ^ wd9 := ⟨_, rfl⟩
 rw [← htp]
 have tp0 : ¬ tp = 0 := by have : 0 < tp := (by rw [htp]; exact Nat.pow_pos HCN.out); omega
 have HB4 := Lib.hid (below_to HB3.out hb4)
 have bt4 : BK W4 tB #[.int .i64 f0, .int .i64 f1, .int .i64 f2, .int .i64 f3] 85 := (hb4.block _ HBT3.out.lt).trans HBT3.out
 have y2 : W4.cell? ⟨tB, 2, none⟩ = some (.int .i64 f2) := bt4.cell rfl
 have y3 : W4.cell? ⟨tB, 3, none⟩ = some (.int .i64 f3) := bt4.cell rfl
 have ly := bt4.lt
 have c0 : ¬ C = 0 := by have h := HC.out; have h2 := HCN.out; omega
 have c1 : (0 : Int) < C := by have h := HC.out; have h2 := HCN.out; omega
 have hF := HNW.out
 rw [← HXX.out, ← HBL.out, ← htp] at hF
 have HF := Lib.hid hF
 clear hF hb4 bt4 htp
 go_upto_region 3 with fail
 refine wp_region_gro (by kernel_rfl) (by kernel_rfl) ?_
 repeat (first | go_big_quiet_step (fail) | quiet_step (fail))
 refine wpQuiet_nil ?_
 intro W5 hB5
 have HB5 := Lib.hid (below_to HB4.out hB5)
 clear hB5
 go_wp2_with fail
 go_ret
 refine ⟨?_, HB5.out⟩
 have hd : Int.tmod (wrap64 ((s : Int) / (bl : Int))) C = ((dig cn s x : Nat) : Int) := by rw [dv_nat9 s bl hs9, HC.out, tmod_nat, HBL.out]; rfl
 have hh : wrap64 ((s : Int) / (tp : Int)) = ((s / tp : Nat) : Int) := dv_nat9 s tp hs9
 have hF := HF.out
 rw [← hd, ← hh] at hF
 exact congrArg (fun z_ => Ending.returned (.int .i64 z_)) hF
end Go.Proofs.Ytcaikaflpmaocaa
namespace Go.Proofs.Ytcaikaflpmaocaa.Q
open Go Go.RowKit Go.Proofs Go.Proofs.YtcaikaflpmaocaaW.PrintWords Go.Proofs.YtcaikaflpmaocaaW.PrintMore Go.Proofs.Ytcaikaflpmaocaa
set_option linter.unusedVariables false
def colB9 (c : Nat) (t : STile) : Bool := decide ((0 ≤ t.f0 ∧ t.f0 < (c : Int)) ∧ (0 ≤ t.f1 ∧ t.f1 < (c : Int)) ∧ (0 ≤ t.f2 ∧ t.f2 < (c : Int)) ∧ (0 ≤ t.f3 ∧ t.f3 < (c : Int)))
def spec_l03Step.ok (C : Int) (l : List STile) (w s p i : Int) : Bool := ((decide (1 ≤ C ∧ C ≤ 6) && decide (l.length ≤ 1000)) && (decide (1 ≤ w ∧ w ≤ 5) && l.all (colB9 C.toNat))) && (decide (0 ≤ s ∧ s.toNat < C.toNat ^ (w.toNat + 1)) && (decide (0 ≤ p ∧ p ≤ 1000) && decide (0 ≤ i ∧ i < (l.length : Nat))))
def spec_l03Step.f (k : Nat) (a0_0 : Int) (l0_1 : List STile) (a1 a2 a3 a4 : Int) : Option Int :=
 if spec_l03Step.ok a0_0 l0_1 a1 a2 a3 a4 = true then some ((nextZ true a0_0.toNat a1.toNat (tlAt l0_1 a4.toNat) a3.toNat a2.toNat).toNat : Nat) else none
theorem spec_l03Step.mono : ∀ a0 a1 a2 a3 a4 a5 k, LeO (spec_l03Step.f k a0 a1 a2 a3 a4 a5) (spec_l03Step.f (k + 1) a0 a1 a2 a3 a4 a5) := fun _ _ _ _ _ _ _ => LeO.refl _
theorem spec_l03Step.calls (k : Nat) (a0_0 : Int) (A0_1 : Option Addr) (c0_1 : Nat) (l0_1 : List STile) (a1 : Int) (a2 : Int) (a3 : Int) (a4 : Int) (r : Int) (w : World) (hr0_1 : Kd.C k85 w A0_1 l0_1.length l0_1) (hc0_1 : l0_1.length ≤ c0_1) (h : spec_l03Step.f k a0_0 l0_1 a1 a2 a3 a4 = some r) :
 Calls Try.prog 83 #[.agg #[.int .i64 a0_0, .slice A0_1 l0_1.length c0_1], .int .i64 a1, .int .i64 a2, .int .i64 a3, .int .i64 a4] w fun e w' => e = .returned (.int .i64 r) ∧ Below w.heap.size w w' := by
 unfold spec_l03Step.f at h
 split at h
 ·rename_i hl
  simp only [spec_l03Step.ok, Bool.and_eq_true, decide_eq_true_eq, List.all_eq_true, colB9] at hl
  obtain ⟨⟨⟨hC, hn⟩, hw, hcol⟩, hs, hp, hi⟩ := hl
  have h := Option.some.inj h
  have hil : a4.toNat < (l0_1.map toT).length := by rw [List.length_map]; omega
  have h3 := step_any a0_0 a0_0.toNat A0_1 (l0_1.map toT) l0_1.length c0_1 a1.toNat a2.toNat a3.toNat a4.toNat w (by omega) (by omega) (by omega) (by simp) (rt_of_C hr0_1) hn (by omega) (by omega) hs.2 (by omega) hil (by rw [map_toST]; exact hcol)
  rw [Int.toNat_of_nonneg (show 0 ≤ a1 by omega), Int.toNat_of_nonneg hs.1, Int.toNat_of_nonneg hp.1, Int.toNat_of_nonneg hi.1] at h3
  have e : toS (tk (l0_1.map toT) a4.toNat) = tlAt l0_1 a4.toNat := by
   have h9 : a4.toNat < l0_1.length := by omega
   simp [tlAt, tk, List.getD_eq_getElem?_getD, List.getElem?_eq_getElem h9, toS_toT]
  rw [e, h] at h3
  exact h3
 ·cases h
end Go.Proofs.Ytcaikaflpmaocaa.Q
namespace Go.Proofs.Ytcaikaflpmaocaa
end Go.Proofs.Ytcaikaflpmaocaa
namespace Go.Proofs.Ytcaikaflpmaocaa
open Go Go.RowKit Go.Proofs Go.Proofs.YtcaikaflpmaocaaW.PrintWords Go.Proofs.YtcaikaflpmaocaaW.PrintLast Go.Proofs.YtcaikaflpmaocaaW.PrintMore Go.Proofs.Ytcaikaflpmaocaa.Q
set_option linter.unusedVariables false
set_option linter.unusedSimpArgs false
def can_T1 : Bool × List (List Nat × List Nat) := (true, [([], []), ([0], [0]), ([1], [1]), ([2], [2]), ([], []), ([4], [4]), ([], []), ([6], [6]), ([], []), ([7, 8], [7, 8]), ([9], [9]), ([], []), ([3, 0, 1, 2, 3, 11], [3]), ([5, 12, 0, 1, 2, 3, 4, 5, 11, 12], [5]), ([11, 10, 13, 0, 1, 2, 3, 4, 5, 6, 7, 8, 9, 10, 11, 12, 13], [10, 11])])
def can_B1 : List Nat := [0, 1, 3, 7, 0, 16, 0, 64, 0, 448, 960, 0, 2063, 6207, 16383]
theorem can_tab1 : rtab .any (opsOf Try.f82 1) = can_T1 := by kernel_rfl
theorem can_bits1 : waitsOk can_T1.2 can_B1 = true := by kernel_rfl
theorem nameC {P : Program} {c : Code} {Q : Exit → Act → World → Prop} {a : Act} {w : World} {C1 : Array Value} {E1 : TypeId}
 (h : ∀ W, BK W w.heap.size C1 E1 → Below w.heap.size w W → c.wp P Q a W) : c.wp P Q a (w.alloc (.cells C1 E1)) := h _ (BK.new _ _ _) (below_alloc (Below.refl _ _) _)
theorem digit_s (C : Int) (cn s k : Nat) (w : World) (hC : C = (cn : Int)) (hcn : 0 < cn) (c6 : cn ≤ 6) (hk : k ≤ 6) (hs : s < 1000000000) :
 Calls Try.prog 96 #[.int .i64 s, .int .i64 C, .int .i64 k] w fun e w' => e = .returned (.int .i64 ((dig cn s k : Nat) : Int)) ∧ Below w.heap.size w w' := by
 subst hC
 have hp := power_all ⟨cn, by omega⟩ ⟨k, by omega⟩
 simp only at hp
 have h0 : 0 < cn ^ k := Nat.pow_pos hcn
 have hf : spec_l03Digit.f 60 (s : Int) (cn : Int) (k : Int) = some ((dig cn s k : Nat) : Int) := by
  rw [spec_l03Digit.f, hp, Option.bind_some, if_neg (by omega), if_neg (by omega), dig_int cn s k hs]
 refine (spec_l03Digit.calls 60 _ _ _ _ w hf).mono ?_
 rintro e w' ⟨rfl, ⟨nd, rfl⟩⟩
 exact ⟨rfl, pw_below_drewN (Below.refl _ _) nd⟩
def canB (c : Nat) (plan bs : List (List Int)) (ts : List T4) (p s i : Nat) : Bool :=
 fitB ts plan bs (p / rowLen plan 0) (p % rowLen plan 0) i && ((decide (p / rowLen plan 0 = 0) || decide (((dig c s (p % rowLen plan 0) : Nat) : Int) = (tk ts i).get 1)) && (decide (p % rowLen plan 0 = 0) || decide (((dig c s (rowLen plan 0) : Nat) : Int) = (tk ts i).get 0)))
set_option maxHeartbeats 16000000 in
set_option maxRecDepth 100000 in
theorem can_any (C : Int) (cn : Nat) (A : Option Addr) (ts : List T4) (n c : Nat) (A1 : Option Addr) (plan : List (List Int)) (m1 c1 : Nat) (A2 : Option Addr) (bs : List (List Int)) (m2 c2 : Nat) (s p i : Nat) (w : World)
 (hC : C = (cn : Int)) (hcn : 0 < cn) (c6 : cn ≤ 6) (hn : n = ts.length) (hA : RT w A ts) (hl : n ≤ 1000000) (hm1 : m1 = plan.length) (hA1 : RR w A1 plan) (hm2 : m2 = bs.length) (hA2 : RR w A2 bs) (hsh : Shape plan bs)
 (hp : p < plan.length * rowLen plan 0) (hs : s < 1000000000) (hi : i < ts.length) :
 Calls Try.prog 82 #[.agg #[.int .i64 C, .slice A n c], .slice A1 m1 c1, .slice A2 m2 c2, .int .i64 s, .int .i64 p, .int .i64 i] w fun e w' => e = .returned (.bool (canB cn plan bs ts p s i)) ∧ Below w.heap.size w w' := by
 have HN := Lib.hid hn; have HM1 := Lib.hid hm1; have HM2 := Lib.hid hm2; have HSH := Lib.hid hsh; have HC := Lib.hid hC; have HCN := Lib.hid hcn; have HC6 := Lib.hid c6; have HS9 := Lib.hid hs; have HI := Lib.hid hi
 obtain ⟨h1, h5, w1, w5, hlen, h4, hbl⟩ := hsh
 have hy : p / rowLen plan 0 < plan.length := (Nat.div_lt_iff_lt_mul w1).2 hp
 have hx : p % rowLen plan 0 < rowLen plan 0 := Nat.mod_lt _ w1
 have p9 : p < 1000000000 := by
  have : plan.length * rowLen plan 0 ≤ 25 := Nat.mul_le_mul h5 w5
  omega
 have HEY := Lib.hid (show wrap64 (Int.tdiv (p : Int) ((rowLen plan 0 : Nat) : Int)) = ((p / rowLen plan 0 : Nat) : Int) from tdiv_nat _ _ p9)
 have HEX := Lib.hid (show Int.tmod (p : Int) ((rowLen plan 0 : Nat) : Int) = ((p % rowLen plan 0 : Nat) : Int) from tmod_nat _ _)
 have HEY3 := Lib.hid (show wrap64 ((p : Int) / ((rowLen plan 0 : Nat) : Int)) = ((p / rowLen plan 0 : Nat) : Int) by have h := tdiv_nat p (rowLen plan 0) p9; rwa [Int.tdiv_eq_ediv_of_nonneg (Int.natCast_nonneg p)] at h)
 have HEX3 := Lib.hid (show (p : Int) % ((rowLen plan 0 : Nat) : Int) = ((p % rowLen plan 0 : Nat) : Int) from (Int.natCast_emod p _).symm)
 have HCAN := Lib.hid (show canB cn plan bs ts p s i = (fitB ts plan bs (p / rowLen plan 0) (p % rowLen plan 0) i && ((decide (p / rowLen plan 0 = 0) || decide (((dig cn s (p % rowLen plan 0) : Nat) : Int) = (tk ts i).get 1)) && (decide (p % rowLen plan 0 = 0) || decide (((dig cn s (rowLen plan 0) : Nat) : Int) = (tk ts i).get 0)))) from rfl)
 generalize canB cn plan bs ts p s i = cb at HCAN ⊢
 generalize p / rowLen plan 0 = y at *
 generalize p % rowLen plan 0 = x at *
 have HX := Lib.hid hx; have HY := Lib.hid hy
 obtain ⟨pb, po, PA, pc, hPA, hpb, p0, -, -, -⟩ := hA1 0 (by omega)
 subst hPA
 rw [Nat.add_zero] at p0
 obtain ⟨tb, tq, hTA, htb, c0, c1_, c2_, c3⟩ := hA i hi
 subst hTA
 have c1 := c1_; have c2 := c2_; clear c1_ c2_
 have j3 : (0 : Int) < m1 := by omega
 have j4 : (i : Int) < n := by omega
 have j5 : 0 < m1 := by omega
 have HAA := Lib.hid hA; have HA1 := Lib.hid hA1; have HA2 := Lib.hid hA2
 have vr : (((rowLen plan 0 : Nat) : Int) == 0) = false := by simp; omega
 have vr2 : (rowLen plan 0 == 0) = false := by simp; omega
 clear hA hA1 hA2 hlen hbl hn hm1 hm2 hC hcn c6 hs hi hp hx hy
 go_enter Try.func82, Try.ntmps82
 go_upto_region 1 with fail
 refine nameC ?_
 intro wB b1 hb0
 have z0 : wB.cell? ⟨w.heap.size, 0, none⟩ = some (.int .i64 C) := b1.cell rfl
 have z1 : wB.cell? ⟨w.heap.size, 1, none⟩ = some (.slice (some ⟨tb, tq, none⟩) n c) := b1.cell rfl
 replace p0 := cell_to hb0 p0; replace c0 := cell_to hb0 c0; replace c1 := cell_to hb0 c1; replace c2 := cell_to hb0 c2; replace c3 := cell_to hb0 c3
 have hD := (Below.refl wB.heap.size wB).drew
 have HB1 := Lib.hid b1; clear b1
 refine start_ (n := 15) (S := fun w' => w'.cell? ⟨pb, po, none⟩ = some (.slice PA (rowLen plan 0) pc) ∧ w'.cell? ⟨w.heap.size, 0, none⟩ = some (.int .i64 C) ∧ w'.cell? ⟨w.heap.size, 1, none⟩ = some (.slice (some ⟨tb, tq, none⟩) n c) ∧ w'.cell? ⟨tb, tq + i * 4, none⟩ = some (.int .i64 ((tk ts i).get 0)) ∧ w'.cell? ⟨tb, tq + i * 4 + 1, none⟩ = some (.int .i64 ((tk ts i).get 1)) ∧ w'.cell? ⟨tb, tq + i * 4 + 2, none⟩ = some (.int .i64 ((tk ts i).get 2)) ∧ w'.cell? ⟨tb, tq + i * 4 + 3, none⟩ = some (.int .i64 ((tk ts i).get 3))) (ds := [14]) #[f_,f_,f_,f_,f_,f_,f_,f_,f_,f_,f_,f_,f_,f_,f_] (by kernel_rfl) rfl rfl ⟨cell_to hD p0, cell_to hD z0, cell_to hD z1, cell_to hD c0, cell_to hD c1, cell_to hD c2, cell_to hD c3⟩ (fun hHeld => ?_)
 refine with_tabW can_tab1 can_bits1 (fun HT_ HW_ => ?_)
 generalize wB.drew = wd at hD hHeld ⊢
 refine p_ 0 18 ?_ #[t_,f_,f_,f_,f_,f_,f_,f_,f_,f_,f_,f_,f_,f_,f_] rfl rfl HT_.out (by kernel_rfl) (fun _ _ _ h => h) (.inl ⟨by rfl, ?_⟩) ?_ ?_ ?_
 rotate_left
 ·intro w'
  go_simp
  with_reducible rfl
 rotate_left
 ·simp only [Q_]
  rfl
 refine p_ 1 19 ?_ #[t_,t_,f_,f_,f_,f_,f_,f_,f_,f_,f_,f_,f_,f_,f_] rfl rfl HT_.out (by kernel_rfl) (fun _ _ _ h => h) (.inl ⟨by rfl, ?_⟩) ?_ ?_ ?_
 rotate_left
 ·intro w'
  go_simp
  with_reducible rfl
 rotate_left
 ·simp only [Q_]
  rfl
 refine p_ 4 22 ?_ #[t_,t_,f_,f_,t_,f_,f_,f_,f_,f_,f_,f_,f_,f_,f_] rfl rfl HT_.out (by kernel_rfl) (fun _ _ _ h => h) (.inl ⟨by rfl, ?_⟩) ?_ ?_ ?_
 rotate_left
 ·intro w'
  go_simp
  with_reducible rfl
 rotate_left
 ·simp only [Q_]
  rfl
 refine p_ 6 24 ?_ #[t_,t_,f_,f_,t_,f_,t_,f_,f_,f_,f_,f_,f_,f_,f_] rfl rfl HT_.out (by kernel_rfl) (fun _ _ _ h => h) (.inl ⟨by rfl, ?_⟩) ?_ ?_ ?_
 rotate_left
 ·intro w'
  go_simp
  with_reducible rfl
 rotate_left
 ·simp only [Q_]
  rfl
 refine p_ 8 26 ?_ #[t_,t_,f_,f_,t_,f_,t_,f_,t_,f_,f_,f_,f_,f_,f_] rfl rfl HT_.out (by kernel_rfl) (fun _ _ _ h => h) (.inl ⟨by rfl, ?_⟩) ?_ ?_ ?_
 rotate_left
 ·intro w'
  go_simp
  with_reducible rfl
 rotate_left
 ·simp only [Q_]
  rfl
 refine tk_ 2 20 ?_ #[t_,t_,t_,f_,t_,f_,t_,f_,t_,f_,f_,f_,f_,f_,f_] rfl rfl (take_ofW HT_.out HW_.out (by kernel_rfl)) (fun _ _ _ h => h) (.inl ⟨by rfl, ?_⟩) hHeld ?_ ?_ ?_
 rotate_left
 ·rintro w' ⟨s0, s1, s2, s3, s4, s5, s6⟩
  go_simp
  with_reducible rfl
 rotate_left
 ·simp only [Q_]
  rfl
 refine p_ 3 21 ?_ #[t_,t_,t_,t_,t_,f_,t_,f_,t_,f_,f_,f_,f_,f_,f_] rfl rfl HT_.out (by kernel_rfl) (fun _ _ _ h => h) (.inl ⟨by rfl, ?_⟩) ?_ ?_ ?_
 rotate_left
 ·intro w'
  go_simp
  with_reducible rfl
 rotate_left
 ·simp only [Q_]
  rfl
 refine tk_ 5 23 ?_ #[t_,t_,t_,t_,t_,t_,t_,f_,t_,f_,f_,f_,f_,f_,f_] rfl rfl (take_ofW HT_.out HW_.out (by kernel_rfl)) (fun _ _ _ h => h) (.inl ⟨by rfl, ?_⟩) hHeld ?_ ?_ ?_
 rotate_left
 ·rintro w' ⟨s0, s1, s2, s3, s4, s5, s6⟩
  go_simp
  with_reducible rfl
 rotate_left
 ·simp only [Q_]
  rfl
 refine tk_ 7 25 ?_ #[t_,t_,t_,t_,t_,t_,t_,t_,t_,f_,f_,f_,f_,f_,f_] rfl rfl (take_ofW HT_.out HW_.out (by kernel_rfl)) (fun _ _ _ h => h) (.inl ⟨by rfl, ?_⟩) hHeld ?_ ?_ ?_
 rotate_left
 ·rintro w' ⟨s0, s1, s2, s3, s4, s5, s6⟩
  go_simp
  with_reducible rfl
 rotate_left
 ·simp only [Q_]
  rfl
 refine p_ 9 27 ?_ #[t_,t_,t_,t_,t_,t_,t_,t_,t_,t_,f_,f_,f_,f_,f_] rfl rfl HT_.out (by kernel_rfl) (fun _ _ _ h => h) (.inl ⟨by rfl, ?_⟩) ?_ ?_ ?_
 rotate_left
 ·intro w'
  go_simp
  with_reducible rfl
 rotate_left
 ·simp only [Q_]
  rfl
 refine tk_ 10 28 ?_ #[t_,t_,t_,t_,t_,t_,t_,t_,t_,t_,t_,f_,f_,f_,f_] rfl rfl (take_ofW HT_.out HW_.out (by kernel_rfl)) (fun _ _ _ h => h) (.inl ⟨by rfl, ?_⟩) hHeld ?_ ?_ ?_
 rotate_left
 ·rintro w' ⟨s0, s1, s2, s3, s4, s5, s6⟩
  go_simp
  with_reducible rfl
 rotate_left
 ·simp only [Q_]
  rfl
 refine one_ (i := 11) (N := some 15) #[t_,t_,t_,t_,t_,t_,t_,t_,t_,t_,t_,t_,f_,f_,f_] rfl rfl (one_of HT_.out (by kernel_rfl)) (by decide) (fun K hK => ?_)
 refine box_step ?hg (N := 15) ?hd (cs := #[.int .i64 0, .int .i64 0, .int .i64 0, .int .i64 0]) (t := 85) ?hr ?_; (case hd => rfl); (case hg => rfl); (case hr => first | (go_simp; done) | (go_simp; rfl))
 intro gb hg w27 hbox hb
 have G1 : wd.heap.size ≤ gb := Nat.le_of_eq hg.symm
 have bT : BK w27 gb #[.int .i64 0, .int .i64 0, .int .i64 0, .int .i64 0] 85 := hbox
 clear hg hbox
 refine hK.out _ _ ⟨cell_to hb hHeld.1, cell_to hb hHeld.2.1, cell_to hb hHeld.2.2.1, cell_to hb hHeld.2.2.2.1, cell_to hb hHeld.2.2.2.2.1, cell_to hb hHeld.2.2.2.2.2.1, cell_to hb hHeld.2.2.2.2.2.2⟩ (fun hHeld => ?_)
 clear hK K
 refine norm_ (a' := ?_) ?_ ?_
 rotate_left
 ·show Act.put _ (some 15) _ = _
  simp only [Q_]
  rfl
 refine p_ 12 13 ?_ #[t_,t_,t_,t_,t_,t_,t_,t_,t_,t_,t_,t_,t_,f_,f_] rfl rfl HT_.out (by kernel_rfl) (fun _ _ _ h => h) (.inl ⟨by rfl, ?_⟩) ?_ ?_ ?_
 rotate_left
 ·intro w'
  go_simp
  with_reducible rfl
 rotate_left
 ·simp only [Q_]
  rfl
 refine p_ 13 14 ?_ #[t_,t_,t_,t_,t_,t_,t_,t_,t_,t_,t_,t_,t_,t_,f_] rfl rfl HT_.out (by kernel_rfl) (fun _ _ _ h => h) (.inl ⟨by rfl, ?_⟩) ?_ ?_ ?_
 rotate_left
 ·intro w'
  go_simp
  with_reducible rfl
 rotate_left
 ·simp only [Q_]
  rfl
 refine last_ (i := 14) (N := none) #[t_,t_,t_,t_,t_,t_,t_,t_,t_,t_,t_,t_,t_,t_,t_] rfl rfl (one_of HT_.out (by kernel_rfl)) (by decide) (fun K hK => ?_)
 have y0 : w27.cell? ⟨gb, 0, none⟩ = some (.int .i64 0) := bT.cell rfl
 have y1 : w27.cell? ⟨gb, 1, none⟩ = some (.int .i64 0) := bT.cell rfl
 have y2 : w27.cell? ⟨gb, 2, none⟩ = some (.int .i64 0) := bT.cell rfl
 have y3 : w27.cell? ⟨gb, 3, none⟩ = some (.int .i64 0) := bT.cell rfl
 have f0 := bT.frozen 0; have f1 := bT.frozen 1; have f2 := bT.frozen 2; have f3 := bT.frozen 3
 refine skip_ (w1 := ?_) (by rfl) rfl ?_ ?_
 rotate_left
 ·go_simp
  rfl
 have hs4 := below_set4g hb G1 (.int .i64 ((tk ts i).get 0)) (.int .i64 ((tk ts i).get 1)) (.int .i64 ((tk ts i).get 2)) (.int .i64 ((tk ts i).get 3))
 have bT4 := (((bT.set 0 (.int .i64 ((tk ts i).get 0))).set 1 (.int .i64 ((tk ts i).get 1))).set 2 (.int .i64 ((tk ts i).get 2))).set 3 (.int .i64 ((tk ts i).get 3))
 refine hK.out _ _ ?_
 clear hK K
 refine done_ (done_of HT_.out (by kernel_rfl)) ?_
 generalize ((((w27.setCell ⟨gb, 0, none⟩ (.int .i64 ((tk ts i).get 0))).setCell ⟨gb, 1, none⟩ (.int .i64 ((tk ts i).get 1))).setCell ⟨gb, 2, none⟩ (.int .i64 ((tk ts i).get 2))).setCell ⟨gb, 3, none⟩ (.int .i64 ((tk ts i).get 3))) = w4 at hs4 bT4 ⊢
 have HD4 := Lib.hid (below_to hb0 (below_to hD hs4))
 have o0 : w4.cell? ⟨gb, 0, none⟩ = some (.int .i64 ((tk ts i).get 0)) := bT4.cell rfl
 have o1 : w4.cell? ⟨gb, 1, none⟩ = some (.int .i64 ((tk ts i).get 1)) := bT4.cell rfl
 have y0_ : w4.cell? ⟨w.heap.size, 0, none⟩ = some (.int .i64 C) := cell_to hs4 (cell_to hD z0)
 have y1_ : w4.cell? ⟨w.heap.size, 1, none⟩ = some (.slice (some ⟨tb, tq, none⟩) n c) := cell_to hs4 (cell_to hD z1)
 clear bT4 hs4 hD z0 z1 p0 c0 c1 c2 c3 G1 hb hb0 HB1
 try clear hHeld
 go_upto_region 2 with fail
 refine wp_region_gro (by kernel_rfl) (by kernel_rfl) ?_
 repeat (first | go_big_quiet_step (fail) | quiet_step (fail))
 refine wpQuiet_nil ?_
 intro w5 hB5
 have HD5 := Lib.hid (below_to HD4.out hB5)
 replace o0 := cell_to hB5 o0; replace o1 := cell_to hB5 o1; replace y0_ := cell_to hB5 y0_; replace y1_ := cell_to hB5 y1_
 have lgb := World.block_lt_of_cell? w5 _ o0; have lbx := World.block_lt_of_cell? w5 _ y0_
 simp only at lgb lbx
 clear hB5 HD4
 simp only [HEY3.out, HEX3.out]
 obtain ⟨t0, ht0⟩ : ∃ t_ : Int, t_ = (tk ts i).get 0 := ⟨_, rfl⟩
 obtain ⟨t1, ht1⟩ : ∃ t_ : Int, t_ = (tk ts i).get 1 := ⟨_, rfl⟩
 rw [← ht0] at o0; rw [← ht1] at o1
 have HT0 := Lib.hid ht0; have HT1 := Lib.hid ht1
 clear ht0 ht1
 clear vr vr2
 obtain ⟨bf, hbf⟩ : ∃ b_ : Bool, b_ = fitB ts plan bs y x i := ⟨_, rfl⟩
 have HF := Lib.hid hbf.symm; clear hbf
 obtain ⟨dx, hdx⟩ : ∃ d_ : Int, d_ = ((dig cn s x : Nat) : Int) := ⟨_, rfl⟩
 have HDX := Lib.hid hdx.symm; clear hdx
 obtain ⟨dw, hdw⟩ : ∃ d_ : Int, d_ = ((dig cn s (rowLen plan 0) : Nat) : Int) := ⟨_, rfl⟩
 have HDW := Lib.hid hdw.symm; clear hdw
 have HRES := Lib.hid (show cb = (bf && ((decide (y = 0) || decide (dx = t1)) && (decide (x = 0) || decide (dw = t0)))) by rw [HCAN.out, HF.out, HDX.out, HDW.out, HT0.out, HT1.out])
 clear HCAN
 go_upto_region 3 with fail
 cases bf with
 | false =>
  refine wp_region_gro (by kernel_rfl) (by kernel_rfl) ?_
  repeat (first | go_big_quiet_step ((go_at_call 77; exact quiet_call (by have h := fits_any C (some ⟨tb, tq, none⟩) ts n c (some ⟨pb, po, none⟩) plan m1 c1 A2 bs m2 c2 y x i (gro w5 ‹GP›) HN.out (HAA.out.below (below_to HD5.out (gro_below w5 _))) (by omega) HM1.out (HA1.out.below (below_to HD5.out (gro_below w5 _))) HM2.out (HA2.out.below (below_to HD5.out (gro_below w5 _))) HSH.out HY.out HX.out HI.out; rw [HF.out] at h; exact h))) | quiet_step ((go_at_call 77; exact quiet_call (by have h := fits_any C (some ⟨tb, tq, none⟩) ts n c (some ⟨pb, po, none⟩) plan m1 c1 A2 bs m2 c2 y x i (gro w5 ‹GP›) HN.out (HAA.out.below (below_to HD5.out (gro_below w5 _))) (by omega) HM1.out (HA1.out.below (below_to HD5.out (gro_below w5 _))) HM2.out (HA2.out.below (below_to HD5.out (gro_below w5 _))) HSH.out HY.out HX.out HI.out; rw [HF.out] at h; exact h))))
  refine wpQuiet_nil ?_
  intro w6 hB6
  go_wp2_with fail
  go_ret
  exact ⟨congrArg (fun b_ => Ending.returned (.bool b_)) (by rw [HRES.out]; simp []), below_to HD5.out hB6⟩
 | true =>
  by_cases ey : y = 0
  ·subst ey
   by_cases ex : x = 0
   ·subst ex
    refine wp_region_gro (by kernel_rfl) (by kernel_rfl) ?_
    repeat (first | go_big_quiet_step ((go_at_call 77; exact quiet_call (by have h := fits_any C (some ⟨tb, tq, none⟩) ts n c (some ⟨pb, po, none⟩) plan m1 c1 A2 bs m2 c2 0 0 i (gro w5 ‹GP›) HN.out (HAA.out.below (below_to HD5.out (gro_below w5 _))) (by omega) HM1.out (HA1.out.below (below_to HD5.out (gro_below w5 _))) HM2.out (HA2.out.below (below_to HD5.out (gro_below w5 _))) HSH.out HY.out HX.out HI.out; rw [HF.out] at h; exact h))) | quiet_step ((go_at_call 77; exact quiet_call (by have h := fits_any C (some ⟨tb, tq, none⟩) ts n c (some ⟨pb, po, none⟩) plan m1 c1 A2 bs m2 c2 0 0 i (gro w5 ‹GP›) HN.out (HAA.out.below (below_to HD5.out (gro_below w5 _))) (by omega) HM1.out (HA1.out.below (below_to HD5.out (gro_below w5 _))) HM2.out (HA2.out.below (below_to HD5.out (gro_below w5 _))) HSH.out HY.out HX.out HI.out; rw [HF.out] at h; exact h))))
    refine wpQuiet_nil ?_
    intro w6 hB6
    go_wp2_with fail
    go_ret
    exact ⟨congrArg (fun b_ => Ending.returned (.bool b_)) (by rw [HRES.out]; simp []), below_to HD5.out hB6⟩
   ·have vx : ((x : Int) == 0) = false := by simp; omega
    by_cases ew : dw = t0
    ·subst ew
     refine wp_region_gro (by kernel_rfl) (by kernel_rfl) ?_
     repeat (first | go_big_quiet_step ((first | (go_at_call 77; exact quiet_call (by have h := fits_any C (some ⟨tb, tq, none⟩) ts n c (some ⟨pb, po, none⟩) plan m1 c1 A2 bs m2 c2 0 x i (gro w5 ‹GP›) HN.out (HAA.out.below (below_to HD5.out (gro_below w5 _))) (by omega) HM1.out (HA1.out.below (below_to HD5.out (gro_below w5 _))) HM2.out (HA2.out.below (below_to HD5.out (gro_below w5 _))) HSH.out HY.out HX.out HI.out; rw [HF.out] at h; exact h)) | (go_at_call 96; exact quiet_call (by have h := digit_s C cn s (rowLen plan 0) (gro w5 ‹GP›) HC.out HCN.out HC6.out (by have := HX.out; omega) HS9.out; rw [HDW.out] at h; exact h)))) | quiet_step ((first | (go_at_call 77; exact quiet_call (by have h := fits_any C (some ⟨tb, tq, none⟩) ts n c (some ⟨pb, po, none⟩) plan m1 c1 A2 bs m2 c2 0 x i (gro w5 ‹GP›) HN.out (HAA.out.below (below_to HD5.out (gro_below w5 _))) (by omega) HM1.out (HA1.out.below (below_to HD5.out (gro_below w5 _))) HM2.out (HA2.out.below (below_to HD5.out (gro_below w5 _))) HSH.out HY.out HX.out HI.out; rw [HF.out] at h; exact h)) | (go_at_call 96; exact quiet_call (by have h := digit_s C cn s (rowLen plan 0) (gro w5 ‹GP›) HC.out HCN.out HC6.out (by have := HX.out; omega) HS9.out; rw [HDW.out] at h; exact h)))))
     refine wpQuiet_nil ?_
     intro w6 hB6
     go_wp2_with fail
     go_ret
     exact ⟨congrArg (fun b_ => Ending.returned (.bool b_)) (by rw [HRES.out]; simp [ex]), below_to HD5.out hB6⟩
    ·have vw : (dw == t0) = false := by simp [ew]
     refine wp_region_gro (by kernel_rfl) (by kernel_rfl) ?_
     repeat (first | go_big_quiet_step ((first | (go_at_call 77; exact quiet_call (by have h := fits_any C (some ⟨tb, tq, none⟩) ts n c (some ⟨pb, po, none⟩) plan m1 c1 A2 bs m2 c2 0 x i (gro w5 ‹GP›) HN.out (HAA.out.below (below_to HD5.out (gro_below w5 _))) (by omega) HM1.out (HA1.out.below (below_to HD5.out (gro_below w5 _))) HM2.out (HA2.out.below (below_to HD5.out (gro_below w5 _))) HSH.out HY.out HX.out HI.out; rw [HF.out] at h; exact h)) | (go_at_call 96; exact quiet_call (by have h := digit_s C cn s (rowLen plan 0) (gro w5 ‹GP›) HC.out HCN.out HC6.out (by have := HX.out; omega) HS9.out; rw [HDW.out] at h; exact h)))) | quiet_step ((first | (go_at_call 77; exact quiet_call (by have h := fits_any C (some ⟨tb, tq, none⟩) ts n c (some ⟨pb, po, none⟩) plan m1 c1 A2 bs m2 c2 0 x i (gro w5 ‹GP›) HN.out (HAA.out.below (below_to HD5.out (gro_below w5 _))) (by omega) HM1.out (HA1.out.below (below_to HD5.out (gro_below w5 _))) HM2.out (HA2.out.below (below_to HD5.out (gro_below w5 _))) HSH.out HY.out HX.out HI.out; rw [HF.out] at h; exact h)) | (go_at_call 96; exact quiet_call (by have h := digit_s C cn s (rowLen plan 0) (gro w5 ‹GP›) HC.out HCN.out HC6.out (by have := HX.out; omega) HS9.out; rw [HDW.out] at h; exact h)))))
     refine wpQuiet_nil ?_
     intro w6 hB6
     go_wp2_with fail
     go_ret
     exact ⟨congrArg (fun b_ => Ending.returned (.bool b_)) (by rw [HRES.out]; simp [ex, ew]), below_to HD5.out hB6⟩
  ·have vy : ((y : Int) == 0) = false := by simp; omega
   by_cases e1 : dx = t1
   ·subst e1
    by_cases ex : x = 0
    ·subst ex
     refine wp_region_gro (by kernel_rfl) (by kernel_rfl) ?_
     repeat (first | go_big_quiet_step ((first | (go_at_call 77; exact quiet_call (by have h := fits_any C (some ⟨tb, tq, none⟩) ts n c (some ⟨pb, po, none⟩) plan m1 c1 A2 bs m2 c2 y 0 i (gro w5 ‹GP›) HN.out (HAA.out.below (below_to HD5.out (gro_below w5 _))) (by omega) HM1.out (HA1.out.below (below_to HD5.out (gro_below w5 _))) HM2.out (HA2.out.below (below_to HD5.out (gro_below w5 _))) HSH.out HY.out HX.out HI.out; rw [HF.out] at h; exact h)) | (go_at_call 96; exact quiet_call (by have h := digit_s C cn s 0 (gro w5 ‹GP›) HC.out HCN.out HC6.out (by have := HX.out; omega) HS9.out; rw [HDX.out] at h; exact h)))) | quiet_step ((first | (go_at_call 77; exact quiet_call (by have h := fits_any C (some ⟨tb, tq, none⟩) ts n c (some ⟨pb, po, none⟩) plan m1 c1 A2 bs m2 c2 y 0 i (gro w5 ‹GP›) HN.out (HAA.out.below (below_to HD5.out (gro_below w5 _))) (by omega) HM1.out (HA1.out.below (below_to HD5.out (gro_below w5 _))) HM2.out (HA2.out.below (below_to HD5.out (gro_below w5 _))) HSH.out HY.out HX.out HI.out; rw [HF.out] at h; exact h)) | (go_at_call 96; exact quiet_call (by have h := digit_s C cn s 0 (gro w5 ‹GP›) HC.out HCN.out HC6.out (by have := HX.out; omega) HS9.out; rw [HDX.out] at h; exact h)))))
     refine wpQuiet_nil ?_
     intro w6 hB6
     go_wp2_with fail
     go_ret
     exact ⟨congrArg (fun b_ => Ending.returned (.bool b_)) (by rw [HRES.out]; simp [ey]), below_to HD5.out hB6⟩
    ·have vx : ((x : Int) == 0) = false := by simp; omega
     by_cases ew : dw = t0
     ·subst ew
      refine wp_region_gro (by kernel_rfl) (by kernel_rfl) ?_
      repeat (first | go_big_quiet_step ((first | (go_at_call 77; exact quiet_call (by have h := fits_any C (some ⟨tb, tq, none⟩) ts n c (some ⟨pb, po, none⟩) plan m1 c1 A2 bs m2 c2 y x i (gro w5 ‹GP›) HN.out (HAA.out.below (below_to HD5.out (gro_below w5 _))) (by omega) HM1.out (HA1.out.below (below_to HD5.out (gro_below w5 _))) HM2.out (HA2.out.below (below_to HD5.out (gro_below w5 _))) HSH.out HY.out HX.out HI.out; rw [HF.out] at h; exact h)) | (go_at_call_of 96 (rowLen plan 0); exact quiet_call (by have h := digit_s C cn s (rowLen plan 0) (gro w5 ‹GP›) HC.out HCN.out HC6.out (by have := HX.out; omega) HS9.out; rw [HDW.out] at h; exact h)) | (go_at_call 96; exact quiet_call (by have h := digit_s C cn s x (gro w5 ‹GP›) HC.out HCN.out HC6.out (by have := HX.out; omega) HS9.out; rw [HDX.out] at h; exact h)))) | quiet_step ((first | (go_at_call 77; exact quiet_call (by have h := fits_any C (some ⟨tb, tq, none⟩) ts n c (some ⟨pb, po, none⟩) plan m1 c1 A2 bs m2 c2 y x i (gro w5 ‹GP›) HN.out (HAA.out.below (below_to HD5.out (gro_below w5 _))) (by omega) HM1.out (HA1.out.below (below_to HD5.out (gro_below w5 _))) HM2.out (HA2.out.below (below_to HD5.out (gro_below w5 _))) HSH.out HY.out HX.out HI.out; rw [HF.out] at h; exact h)) | (go_at_call_of 96 (rowLen plan 0); exact quiet_call (by have h := digit_s C cn s (rowLen plan 0) (gro w5 ‹GP›) HC.out HCN.out HC6.out (by have := HX.out; omega) HS9.out; rw [HDW.out] at h; exact h)) | (go_at_call 96; exact quiet_call (by have h := digit_s C cn s x (gro w5 ‹GP›) HC.out HCN.out HC6.out (by have := HX.out; omega) HS9.out; rw [HDX.out] at h; exact h)))))
      refine wpQuiet_nil ?_
      intro w6 hB6
      go_wp2_with fail
      go_ret
      exact ⟨congrArg (fun b_ => Ending.returned (.bool b_)) (by rw [HRES.out]; simp [ex, ey]), below_to HD5.out hB6⟩
     ·have vw : (dw == t0) = false := by simp [ew]
      refine wp_region_gro (by kernel_rfl) (by kernel_rfl) ?_
      repeat (first | go_big_quiet_step ((first | (go_at_call 77; exact quiet_call (by have h := fits_any C (some ⟨tb, tq, none⟩) ts n c (some ⟨pb, po, none⟩) plan m1 c1 A2 bs m2 c2 y x i (gro w5 ‹GP›) HN.out (HAA.out.below (below_to HD5.out (gro_below w5 _))) (by omega) HM1.out (HA1.out.below (below_to HD5.out (gro_below w5 _))) HM2.out (HA2.out.below (below_to HD5.out (gro_below w5 _))) HSH.out HY.out HX.out HI.out; rw [HF.out] at h; exact h)) | (go_at_call_of 96 (rowLen plan 0); exact quiet_call (by have h := digit_s C cn s (rowLen plan 0) (gro w5 ‹GP›) HC.out HCN.out HC6.out (by have := HX.out; omega) HS9.out; rw [HDW.out] at h; exact h)) | (go_at_call 96; exact quiet_call (by have h := digit_s C cn s x (gro w5 ‹GP›) HC.out HCN.out HC6.out (by have := HX.out; omega) HS9.out; rw [HDX.out] at h; exact h)))) | quiet_step ((first | (go_at_call 77; exact quiet_call (by have h := fits_any C (some ⟨tb, tq, none⟩) ts n c (some ⟨pb, po, none⟩) plan m1 c1 A2 bs m2 c2 y x i (gro w5 ‹GP›) HN.out (HAA.out.below (below_to HD5.out (gro_below w5 _))) (by omega) HM1.out (HA1.out.below (below_to HD5.out (gro_below w5 _))) HM2.out (HA2.out.below (below_to HD5.out (gro_below w5 _))) HSH.out HY.out HX.out HI.out; rw [HF.out] at h; exact h)) | (go_at_call_of 96 (rowLen plan 0); exact quiet_call (by have h := digit_s C cn s (rowLen plan 0) (gro w5 ‹GP›) HC.out HCN.out HC6.out (by have := HX.out; omega) HS9.out; rw [HDW.out] at h; exact h)) | (go_at_call 96; exact quiet_call (by have h := digit_s C cn s x (gro w5 ‹GP›) HC.out HCN.out HC6.out (by have := HX.out; omega) HS9.out; rw [HDX.out] at h; exact h)))))
      refine wpQuiet_nil ?_
      intro w6 hB6
      go_wp2_with fail
      go_ret
      exact ⟨congrArg (fun b_ => Ending.returned (.bool b_)) (by rw [HRES.out]; simp [ex, ey, ew]), below_to HD5.out hB6⟩
   ·have v1 : (dx == t1) = false := by simp [e1]
    refine wp_region_gro (by kernel_rfl) (by kernel_rfl) ?_
    repeat (first | go_big_quiet_step ((first | (go_at_call 77; exact quiet_call (by have h := fits_any C (some ⟨tb, tq, none⟩) ts n c (some ⟨pb, po, none⟩) plan m1 c1 A2 bs m2 c2 y x i (gro w5 ‹GP›) HN.out (HAA.out.below (below_to HD5.out (gro_below w5 _))) (by omega) HM1.out (HA1.out.below (below_to HD5.out (gro_below w5 _))) HM2.out (HA2.out.below (below_to HD5.out (gro_below w5 _))) HSH.out HY.out HX.out HI.out; rw [HF.out] at h; exact h)) | (go_at_call 96; exact quiet_call (by have h := digit_s C cn s x (gro w5 ‹GP›) HC.out HCN.out HC6.out (by have := HX.out; omega) HS9.out; rw [HDX.out] at h; exact h)))) | quiet_step ((first | (go_at_call 77; exact quiet_call (by have h := fits_any C (some ⟨tb, tq, none⟩) ts n c (some ⟨pb, po, none⟩) plan m1 c1 A2 bs m2 c2 y x i (gro w5 ‹GP›) HN.out (HAA.out.below (below_to HD5.out (gro_below w5 _))) (by omega) HM1.out (HA1.out.below (below_to HD5.out (gro_below w5 _))) HM2.out (HA2.out.below (below_to HD5.out (gro_below w5 _))) HSH.out HY.out HX.out HI.out; rw [HF.out] at h; exact h)) | (go_at_call 96; exact quiet_call (by have h := digit_s C cn s x (gro w5 ‹GP›) HC.out HCN.out HC6.out (by have := HX.out; omega) HS9.out; rw [HDX.out] at h; exact h)))))
    refine wpQuiet_nil ?_
    intro w6 hB6
    go_wp2_with fail
    go_ret
    exact ⟨congrArg (fun b_ => Ending.returned (.bool b_)) (by rw [HRES.out]; simp [ey, e1]), below_to HD5.out hB6⟩
end Go.Proofs.Ytcaikaflpmaocaa
namespace Go.Proofs.Ytcaikaflpmaocaa.Q
open Go Go.RowKit Go.Proofs Go.Proofs.YtcaikaflpmaocaaW.PrintWords Go.Proofs.Ytcaikaflpmaocaa
set_option linter.unusedVariables false
set_option linter.unusedSimpArgs false
def spec_l03Can.f (a0_0 : Int) (l0_1 : List STile) (l1 l2 : List (List Int)) (a3 a4 a5 : Int) : Option Bool :=
 if (decide (l0_1.length ≤ 1000000) && shapeB l1 l2 && decide (1 ≤ a0_0 ∧ a0_0 ≤ 6) && decide (0 ≤ a3 ∧ a3 < 1000000000) && decide (0 ≤ a4 ∧ a4 < (l1.length * rowLen l1 0 : Nat)) && decide (0 ≤ a5 ∧ a5 < (l0_1.length : Nat))) = true then some (canB a0_0.toNat l1 l2 (l0_1.map toT) a4.toNat a3.toNat a5.toNat) else none
theorem spec_l03Can.calls (a0_0 : Int) (A0_1 : Option Addr) (c0_1 : Nat) (l0_1 : List STile) (A1 : Option Addr) (c1 : Nat) (l1 : List (List Int)) (A2 : Option Addr) (c2 : Nat) (l2 : List (List Int)) (a3 a4 a5 : Int) (r : Bool) (w : World) (hr0_1 : Kd.C k85 w A0_1 l0_1.length l0_1) (hc0_1 : l0_1.length ≤ c0_1) (hr1 : Kd.C (Kd.slice 2 (Kd.int .i64)) w A1 l1.length l1) (hc1 : l1.length ≤ c1) (hr2 : Kd.C (Kd.slice 2 (Kd.int .i64)) w A2 l2.length l2) (hc2 : l2.length ≤ c2) (h : spec_l03Can.f a0_0 l0_1 l1 l2 a3 a4 a5 = some r) :
 Calls Try.prog 82 #[.agg #[.int .i64 a0_0, .slice A0_1 l0_1.length c0_1], .slice A1 l1.length c1, .slice A2 l2.length c2, .int .i64 a3, .int .i64 a4, .int .i64 a5] w fun e w' => e = .returned (.bool r) ∧ Below w.heap.size w w' := by
 unfold spec_l03Can.f at h
 split at h
 ·rename_i hl
  simp only [Bool.and_eq_true, decide_eq_true_eq] at hl
  obtain ⟨⟨⟨⟨⟨h1, h2⟩, hc⟩, s0, s1⟩, p0, p1⟩, i0, i1⟩ := hl
  obtain rfl := Option.some.inj h
  have h3 := can_any a0_0 a0_0.toNat A0_1 (l0_1.map toT) l0_1.length c0_1 A1 l1 l1.length c1 A2 l2 l2.length c2 a3.toNat a4.toNat a5.toNat w (by omega) (by omega) (by omega) (by simp) (rt_of_C hr0_1) h1 rfl (rr_of_C hr1) rfl (rr_of_C hr2) (shape_of h2) (by omega) (by omega) (by simp; omega)
  rw [Int.toNat_of_nonneg s0, Int.toNat_of_nonneg p0, Int.toNat_of_nonneg i0] at h3
  exact h3
 ·cases h
end Go.Proofs.Ytcaikaflpmaocaa.Q
namespace Go.Proofs.Ytcaikaflpmaocaa.Q
open Go.RowKit Go.Proofs.YtcaikaflpmaocaaW.PrintWords Go.Proofs.YtcaikaflpmaocaaW.PrintLast Go.Proofs.YtcaikaflpmaocaaW.PrintMore
attribute [local go_sem] max2_int min2_int max_two min_two max_three min_three max_four min_four
set_option linter.unusedVariables false
set_option linter.unusedSimpArgs false
abbrev spec_l03List.z0 : Array Bool := #[t_,t_,t_,t_,t_,t_,t_,t_,t_,f_,t_,t_,t_,t_,t_,f_,f_,f_]
mutual
def spec_l03List.l0 : Nat → List (List Int) → List (List Int) → List (List Int) → List Int → Int → Int → Int → List (List Int) → Int → Int → List (S85) → Option ((List (List Int)))
 | 0, _, _, _, _, _, _, _, _, _, _, _ => none
 | k + 1, x1, x2, x3, x4, x5, x6, x15, x16, x17, x358000, x358001 => if x17 < (x358001.length : Int) then (spec_l03List.j1 k x1 x2 x3 x4 x5 x6 x15 x16 x17 (decide ((x16.length : Int) < x6)) x358000 x358001) else (spec_l03List.j1 k x1 x2 x3 x4 x5 x6 x15 x16 x17 false x358000 x358001)
def spec_l03List.j1 : Nat → List (List Int) → List (List Int) → List (List Int) → List Int → Int → Int → Int → List (List Int) → Int → Bool → Int → List (S85) → Option ((List (List Int)))
 | 0, _, _, _, _, _, _, _, _, _, _, _, _ => none
 | k + 1, x1, x2, x3, x4, x5, x6, x15, x16, x17, x39, x358000, x358001 => if x39 = true then ((spec_l03Can.f x358000 x358001 x1 x2 x5 x15 x17).bind fun t364 => (if t364 = true then (if 0 < (x1.length : Int) then ((spec_l03Step.f k x358000 x358001 ((rd_L1 x1 0).length : Int) x5 x15 x17).bind fun t366 => (if 0 ≤ (wrap64 (x15 + 1)) then (if (wrap64 (x15 + 1)) < (x3.length : Int) then (if 0 ≤ t366 then (if t366 < ((rd_L1 x3 (wrap64 (x15 + 1))).length : Int) then (if (rd (rd_L1 x3 (wrap64 (x15 + 1))) t366) > 0 then ((spec_l01Own.f x4).bind fun t369 => ((some (([x17] : List Int) : List Int)).bind fun y372 => (if t369.length + y372.length < 17592186044416 then ((spec_l03List.f k x358000 x358001 x1 x2 x3 (t369 ++ y372) t366 (wrap64 (x6 - (x16.length : Int)))).bind fun t378 => (if x16.length + t378.length < 5864062014805 then (spec_l03List.l0 k x1 x2 x3 x4 x5 x6 x15 (x16 ++ t378) (wrap64 (x17 + 1)) x358000 x358001) else (none))) else (none)))) else (spec_l03List.l0 k x1 x2 x3 x4 x5 x6 x15 x16 (wrap64 (x17 + 1)) x358000 x358001)) else (none)) else (none)) else (none)) else (none))) else (none)) else (spec_l03List.l0 k x1 x2 x3 x4 x5 x6 x15 x16 (wrap64 (x17 + 1)) x358000 x358001))) else (some x16)
def spec_l03List.f : Nat → Int → List (S85) → List (List Int) → List (List Int) → List (List Int) → List Int → Int → Int → Option ((List (List Int)))
 | 0, _, _, _, _, _, _, _, _ => none
 | k + 1, a0_0, l0_1, l1, l2, l3, l4, a5, a6 => if (l4.length : Int) = (wrap64 ((l3.length : Int) - 1)) then (some (([l4] : List (List Int)))) else (spec_l03List.l0 k l1 l2 l3 l4 a5 a6 (l4.length : Int) (([] : List (List Int))) 0 a0_0 l0_1)
end
theorem spec_l03List.mono_l : ∀ k, (∀ y0 y1 y2 y3 y4 y5 y6 y7, LeO (spec_l03List.f k y0 y1 y2 y3 y4 y5 y6 y7) (spec_l03List.f (k + 1) y0 y1 y2 y3 y4 y5 y6 y7)) ∧ (∀ y0 y1 y2 y3 y4 y5 y6 y7 y8 y9 y10, LeO (spec_l03List.l0 k y0 y1 y2 y3 y4 y5 y6 y7 y8 y9 y10) (spec_l03List.l0 (k + 1) y0 y1 y2 y3 y4 y5 y6 y7 y8 y9 y10)) ∧ (∀ y0 y1 y2 y3 y4 y5 y6 y7 y8 y9 y10 y11, LeO (spec_l03List.j1 k y0 y1 y2 y3 y4 y5 y6 y7 y8 y9 y10 y11) (spec_l03List.j1 (k + 1) y0 y1 y2 y3 y4 y5 y6 y7 y8 y9 y10 y11))
 | 0 => ⟨fun _ _ _ _ _ _ _ _ r h => by simp [spec_l03List.f] at h, fun _ _ _ _ _ _ _ _ _ _ _ r h => by simp [spec_l03List.l0] at h, fun _ _ _ _ _ _ _ _ _ _ _ _ r h => by simp [spec_l03List.j1] at h⟩
 | k + 1 => by
  obtain ⟨ih0, ih1, ih2⟩ := spec_l03List.mono_l k
  refine ⟨?_, ?_, ?_⟩
  ·intro y0 y1 y2 y3 y4 y5 y6 y7
   unfold spec_l03List.f
   repeat' first
   | (with_reducible exact ih0 _ _ _ _ _ _ _ _)
   | (with_reducible exact ih1 _ _ _ _ _ _ _ _ _ _ _)
   | (with_reducible exact ih2 _ _ _ _ _ _ _ _ _ _ _ _)
   | (with_reducible exact spec_l03Step.mono _ _ _ _ _ _ _)
   | (with_reducible exact LeO.refl _)
   | (with_reducible exact LeO.none _)
   | (with_reducible refine LeO.ite ?_ ?_)
   | (with_reducible refine LeO.bind ?_ (fun _ => ?_))
   | exact ih0 _ _ _ _ _ _ _ _
   | exact ih1 _ _ _ _ _ _ _ _ _ _ _
   | exact ih2 _ _ _ _ _ _ _ _ _ _ _ _
   | exact spec_l03Step.mono _ _ _ _ _ _ _
   | exact LeO.none _
   | refine LeO.ite ?_ ?_
   | refine LeO.bind ?_ (fun _ => ?_)
  ·intro y0 y1 y2 y3 y4 y5 y6 y7 y8 y9 y10
   unfold spec_l03List.l0
   repeat' first
   | (with_reducible exact ih0 _ _ _ _ _ _ _ _)
   | (with_reducible exact ih1 _ _ _ _ _ _ _ _ _ _ _)
   | (with_reducible exact ih2 _ _ _ _ _ _ _ _ _ _ _ _)
   | (with_reducible exact spec_l03Step.mono _ _ _ _ _ _ _)
   | (with_reducible exact LeO.refl _)
   | (with_reducible exact LeO.none _)
   | (with_reducible refine LeO.ite ?_ ?_)
   | (with_reducible refine LeO.bind ?_ (fun _ => ?_))
   | exact ih0 _ _ _ _ _ _ _ _
   | exact ih1 _ _ _ _ _ _ _ _ _ _ _
   | exact ih2 _ _ _ _ _ _ _ _ _ _ _ _
   | exact spec_l03Step.mono _ _ _ _ _ _ _
   | exact LeO.none _
   | refine LeO.ite ?_ ?_
   | refine LeO.bind ?_ (fun _ => ?_)
  ·intro y0 y1 y2 y3 y4 y5 y6 y7 y8 y9 y10 y11
   unfold spec_l03List.j1
   repeat' first
   | (with_reducible exact ih0 _ _ _ _ _ _ _ _)
   | (with_reducible exact ih1 _ _ _ _ _ _ _ _ _ _ _)
   | (with_reducible exact ih2 _ _ _ _ _ _ _ _ _ _ _ _)
   | (with_reducible exact spec_l03Step.mono _ _ _ _ _ _ _)
   | (with_reducible exact LeO.refl _)
   | (with_reducible exact LeO.none _)
   | (with_reducible refine LeO.ite ?_ ?_)
   | (with_reducible refine LeO.bind ?_ (fun _ => ?_))
   | exact ih0 _ _ _ _ _ _ _ _
   | exact ih1 _ _ _ _ _ _ _ _ _ _ _
   | exact ih2 _ _ _ _ _ _ _ _ _ _ _ _
   | exact spec_l03Step.mono _ _ _ _ _ _ _
   | exact LeO.none _
   | refine LeO.ite ?_ ?_
   | refine LeO.bind ?_ (fun _ => ?_)
theorem spec_l03List.mono : ∀ a0 a1 a2 a3 a4 a5 a6 a7 k, LeO (spec_l03List.f k a0 a1 a2 a3 a4 a5 a6 a7) (spec_l03List.f (k + 1) a0 a1 a2 a3 a4 a5 a6 a7) := by
 intro a0 a1 a2 a3 a4 a5 a6 a7 k
 obtain ⟨ih0, ih1, ih2⟩ := spec_l03List.mono_l k
 exact ih0 a0 a1 a2 a3 a4 a5 a6 a7
def spec_l03List.T9 : Bool × List (List Nat × List Nat) := (true, [([], []), ([], []), ([1], [1]), ([2], [2]), ([3], [3]), ([], []), ([], []), ([], []), ([0, 4, 5, 6, 7], [0, 4, 5, 6, 7]), ([8, 8, 0, 1, 2, 3, 4, 5, 6, 7, 8], [8])])
def spec_l03List.B9 : List Nat := [0, 0, 2, 6, 14, 0, 0, 0, 255, 511]
theorem spec_l03List.tab9 : rtab .any (opsOf Try.f61 9) = spec_l03List.T9 := by kernel_rfl
theorem spec_l03List.bits9 : waitsOk spec_l03List.T9.2 spec_l03List.B9 = true := by kernel_rfl
def spec_l03List.T11 : Bool × List (List Nat × List Nat) := (true, [([], []), ([], []), ([], []), ([], []), ([], []), ([], []), ([5], [5]), ([], []), ([7], [7]), ([6, 8, 6], [6, 8]), ([], []), ([], []), ([], []), ([12], [12]), ([11, 13], [11, 13]), ([1, 2, 3, 4, 9, 10, 14, 9], [1, 2, 3, 4, 9, 10, 14]), ([0, 15, 15], [0, 15]), ([16, 16, 0, 1, 2, 3, 4, 5, 6, 7, 8, 9, 10, 11, 12, 13, 14, 15, 16], [0, 12, 16])])
def spec_l03List.B11 : List Nat := [0, 0, 0, 0, 0, 0, 32, 0, 128, 480, 0, 0, 0, 4096, 14336, 32766, 65535, 131071]
theorem spec_l03List.tab11 : rtab .any (opsOf Try.f61 11) = spec_l03List.T11 := by kernel_rfl
theorem spec_l03List.bits11 : waitsOk spec_l03List.T11.2 spec_l03List.B11 = true := by kernel_rfl
set_option maxHeartbeats 8000000 in
set_option maxRecDepth 100000 in
theorem spec_l03List.calls (k : Nat) : ∀ (a0_0 : Int) (A0_1 : Option Addr) (c0_1 : Nat) (l0_1 : List (S85)) (A1 : Option Addr) (c1 : Nat) (l1 : List (List Int)) (A2 : Option Addr) (c2 : Nat) (l2 : List (List Int)) (A3 : Option Addr) (c3 : Nat) (l3 : List (List Int)) (P4_ : Nat → Prop) (A4 : Option Addr) (c4 : Nat) (l4 : List Int) (a5 : Int) (a6 : Int) (r : List (List Int)) (w : World) (hr0_1 : Kd.C k85 w A0_1 l0_1.length l0_1) (hc0_1 : l0_1.length ≤ c0_1) (hr1 : Kd.C (Kd.slice 2 (Kd.int .i64)) w A1 l1.length l1) (hc1 : l1.length ≤ c1) (hr2 : Kd.C (Kd.slice 2 (Kd.int .i64)) w A2 l2.length l2) (hc2 : l2.length ≤ c2) (hr3 : Kd.C (Kd.slice 2 (Kd.int .i64)) w A3 l3.length l3) (hc3 : l3.length ≤ c3) (hs4 : Kd.V (Kd.int .i64) 2 w w.heap.size (fun k_ => P4_ k_) (.slice A4 l4.length c4) l4) (h : spec_l03List.f k a0_0 l0_1 l1 l2 l3 l4 a5 a6 = some r),
 Calls Try.prog 61 #[.agg #[.int .i64 a0_0, .slice A0_1 l0_1.length c0_1], .slice A1 l1.length c1, .slice A2 l2.length c2, .slice A3 l3.length c3, .slice A4 l4.length c4, .int .i64 a5, .int .i64 a6] w fun e w' => ∃ v0_ : Value, e = .returned (v0_) ∧ Kd.N (Kd.slice 2 (Kd.int .i64)) 56 w' w.heap.size (fun k_ => (P4_ k_ ∨ w.heap.size ≤ k_)) v0_ r ∧ Below w.heap.size w w' := by
 induction k using Nat.strongRecOn with
 | _ k ih =>
 intro a0_0 A0_1 c0_1 l0_1 A1 c1 l1 A2 c2 l2 A3 c3 l3 P4_ A4 c4 l4 a5 a6 r w hr0_1 hc0_1 hr1 hc1 hr2 hc2 hr3 hc3 hs4 h
 cases k with
 | zero => exact absurd h (by simp [spec_l03List.f])
 | succ k =>
 simp only [spec_l03List.f] at h
 have hu36 := Try.underlying36
 have HR0_1 := Aside0.mk hr0_1
 have HC0_1 := Aside0.mk hc0_1
 clear hr0_1 hc0_1
 have HR1 := Aside0.mk hr1
 have HC1 := Aside0.mk hc1
 clear hr1 hc1
 have HR2 := Aside0.mk hr2
 have HC2 := Aside0.mk hc2
 clear hr2 hc2
 have HR3 := Aside0.mk hr3
 have HC3 := Aside0.mk hc3
 clear hr3 hc3
 have HO4 := Aside0.mk (show Kd.V (Kd.int .i64) 2 w w.heap.size (fun k_ => (P4_ k_ ∨ w.heap.size ≤ k_)) (.slice A4 l4.length c4) l4 from Kd.V_mono hs4 (fun k_ hk => .inl hk))
 have HB := Aside0.mk (Below.refl w.heap.size w)
 have H : (if (l4.length : Int) = (wrap64 ((l3.length : Int) - 1)) then (some (([l4] : List (List Int)))) else (spec_l03List.l0 k l1 l2 l3 l4 a5 a6 (l4.length : Int) (([] : List (List Int))) 0 a0_0 l0_1)) = some r := h
 clear h
 by_cases c8 : (l4.length : Int) = (wrap64 ((l3.length : Int) - 1))
 rotate_left
 ·rw [if_neg c8] at H
  have c8b0 : ((l4.length : Int) == (wrap64 ((l3.length : Int) - 1))) = false := beq_eq_false_iff_ne.mpr c8
  have c8b1 : ((l4.length : Int) != (wrap64 ((l3.length : Int) - 1))) = true := bne_iff_ne.mpr c8
  obtain ⟨y361, hy361⟩ : ∃ y_ : List (List Int), y_ = (([] : List (List Int))) := ⟨_, rfl⟩
  replace H : (spec_l03List.l0 k l1 l2 l3 l4 a5 a6 (l4.length : Int) y361 0 a0_0 l0_1) = some r := by first | (rw [hy361]; with_reducible exact H) | (have H2_ := (Option.bind_some _ _).symm.trans H; rw [hy361]; with_reducible exact H2_) | (have H2_ := (Option.bind_some _ _).symm.trans H; with_reducible exact H2_) | with_reducible exact H | (rw [hy361]; exact H) | exact H
  have Ny361 := Aside0.mk hy361
  clear hy361
  have H' := Aside0.mk H
  clear H
  go_enter Try.func61, Try.ntmps61
  go_wp2_with (first | ((with_reducible refine gate_dst (N := 7) rfl ?_); (try (refine gate_guard (by rfl) ?_; dsimp only)); refine box_event ?hg (N := 7) ?hd (cs := #[.int .i64 a0_0, .slice A0_1 l0_1.length c0_1]) (t := 36) ?hr ?_; (case hd => rfl); (case hg => rfl); (case hr => first | (go_simp; done) | (go_simp; rfl)); intro gb357 hg w12 hbox hb; have n0_ := Aside0.mk (Kd.V_below (Kd.V_elderB (by (with_reducible repeat (first | apply Kd.V_alloc | apply Kd.V_drewN | apply Kd.V_drew)); exact HO4.out) gb357 (Nat.le_of_eq hg.symm)) hb); have n1_ := Aside0.mk (below_step (by repeat (first | (with_reducible first | exact HB.out | apply lA_ | apply lN_ | apply lD_) | exact HB.out)) hb); have n2_ := Aside0.mk (hbox); have n3_ := Aside0.mk ((by rw [hg]; exact (below_size (by repeat (first | (with_reducible first | exact HB.out | apply lA_ | apply lN_ | apply lD_) | exact HB.out))) : w.heap.size ≤ gb357)); have n4_ := Aside0.mk ((by rw [hg]; exact (below_size (by repeat (first | (with_reducible first | exact HB.out | apply lA_ | apply lN_ | apply lD_) | exact HB.out))) : w.heap.size ≤ gb357)); clear HO4; clear HB; have HO4 := n0_; have HB := n1_; have BK357 := n2_; have GW357 := n3_; have GE357 := n4_; clear n0_ n1_ n2_ n3_ n4_; clear hb hbox hg) | ((with_reducible refine gate_dst (N := 28) rfl ?_); (try (refine gate_guard (by rfl) ?_; dsimp only)); refine Kd.N_lit (Kd.slice 2 (Kd.int .i64)) _ 56 ?hg (N' := 28) ?hd (xs := ([] : List (List Int))) (inner := []) (ok := (fun k_ => (P4_ k_ ∨ w.heap.size ≤ k_) ∧ k_ ≠ gb357)) (okp := (fun k_ => (P4_ k_ ∨ w.heap.size ≤ k_) ∧ k_ ≠ gb357)) ?hr ?hp (fun _ hk => hk) ((show ∀ k_, w12.heap.size ≤ k_ → (fun k_ => (P4_ k_ ∨ w.heap.size ≤ k_) ∧ k_ ≠ gb357) k_ from fun k_ hk => ⟨(.inr (Nat.le_trans (below_size (by repeat (first | (with_reducible first | exact HB.out | apply lA_ | apply lN_ | apply lD_ | refine lS_ ?_ GE357.out) | exact HB.out))) hk)), Kd.freshB (g := gb357) (o := .cells #[.int .i64 a0_0, .slice A0_1 l0_1.length c0_1] 36 (0, 0)) (by (with_reducible repeat (first | apply bN_ | apply bD_ | apply bA_)); exact BK357.out) k_ hk⟩) _ (Nat.le_refl _)) (Below.refl _ _) (Nat.le_refl _) (by simp) ?_; (case hd => rfl); (case hg => rfl); (case hr => first | (go_simp; done) | (go_simp; rfl)); (case hp => exact (Reps.none _ _)); intro v362 w13 ho14 hb hg_ hnew_; clear hg_ hnew_; (first | rw [← Ny361.out] at ho14 | (simp only [Int.reduceToNat] at ho14; rw [← Ny361.out] at ho14)); have n0_ := Aside0.mk (Kd.V_elder' (by (with_reducible repeat (first | apply Kd.V_alloc | apply Kd.V_drewN | apply Kd.V_drew)); exact HO4.out) (Kd.N_base ho14) hb); have n1_ := Aside0.mk (Kd.N_lower ho14 (below_size (by repeat (first | (with_reducible first | exact HB.out | apply lA_ | apply lN_ | apply lD_ | refine lS_ ?_ GE357.out) | exact HB.out)))); have n2_ := Aside0.mk (blk_below (g := gb357) (o := .cells #[.int .i64 a0_0, .slice A0_1 l0_1.length c0_1] 36 (0, 0)) (by (with_reducible repeat (first | apply bN_ | apply bD_ | apply bA_)); exact BK357.out) hb); have n3_ := Aside0.mk (below_step (by repeat (first | (with_reducible first | exact HB.out | apply lA_ | apply lN_ | apply lD_ | refine lS_ ?_ GE357.out) | exact HB.out)) hb); clear HO4; clear BK357; clear HB; have HO4 := n0_; have HO363 := n1_; have BK357 := n2_; have HB := n3_; clear n0_ n1_ n2_ n3_; clear hb ho14))
  go_loopg [16, 17] k (fun kq v16 v17 w' => ∃ (x16_1 : List (List Int)) (x17_1 : Int), v17 = .int .i64 x17_1 ∧ Aside0 (spec_l03List.l0 kq l1 l2 l3 l4 a5 a6 (l4.length : Int) x16_1 x17_1 a0_0 l0_1 = some r) ∧ Aside0 (kq ≤ k) ∧ Aside0 (Kd.V (Kd.int .i64) 2 w' w.heap.size (fun k_ => (P4_ k_ ∨ w.heap.size ≤ k_) ∧ some k_ ≠ (v16 : Value).ownBlock ∧ k_ ≠ gb357) (.slice A4 l4.length c4) l4) ∧ Aside0 (Kd.N (Kd.slice 2 (Kd.int .i64)) 56 w' w.heap.size (fun k_ => (P4_ k_ ∨ w.heap.size ≤ k_) ∧ k_ ≠ gb357) v16 x16_1) ∧ Aside0 (w'.heap[gb357]? = some (.cells #[.int .i64 a0_0, (.slice A0_1 l0_1.length c0_1)] 36 (0, 0))) ∧ Aside0 (Below w.heap.size w w'))
  case atStart => exact ⟨(y361), (0), (by first | rfl | (simp; done) | (simp [*]; done) | (simp; decide +kernel)), H', ⟨Nat.le_refl _⟩, ⟨by (with_reducible repeat (first | apply Kd.V_alloc | apply Kd.V_drewN | apply Kd.V_drew)); exact Kd.V_mono HO4.out (fun _ hk => ⟨hk.1.1, ⟨hk.2, hk.1.2⟩⟩)⟩, ⟨by (with_reducible repeat (first | apply Kd.N_alloc | apply Kd.N_drewN | apply Kd.N_drew)); exact HO363.out⟩, ⟨by (with_reducible repeat (first | apply bN_ | apply bD_ | apply bA_)); exact BK357.out⟩, ⟨by repeat (first | (with_reducible first | exact HB.out | apply lA_ | apply lN_ | apply lD_ | refine lS_ ?_ GE357.out) | exact HB.out)⟩⟩
  case round =>
   clear H'
   try clear c1
   try clear c2
   try clear p2
   try clear c3
   try clear c4
   try clear c6
   try clear p6
   try clear c8
   try clear c8b0
   try clear c8b1
   obtain ⟨x16_1, x17_1, rfl, HA, HK1, HO_4, HO_16, BK357, HB⟩ := hrel
   cases gk with
   | zero => exact absurd HA.out (by simp [spec_l03List.l0])
   | succ k1 =>
    have H := HA.out
    clear HA
    simp only [spec_l03List.l0] at H
    have HC15 := Aside0.mk H
    clear H
    go_upto_region 6 with (fail)
    go_cut [39] (fun v39 wc => ∃ (kq : Nat) (x39_14 : Bool), v39 = .bool x39_14 ∧ Aside0 (spec_l03List.j1 kq l1 l2 l3 l4 a5 a6 (l4.length : Int) x16_1 x17_1 x39_14 a0_0 l0_1 = some r) ∧ Aside0 (kq ≤ k1) ∧ Aside0 (Kd.V (Kd.int .i64) 2 wc w.heap.size (fun k_ => (P4_ k_ ∨ w.heap.size ≤ k_) ∧ some k_ ≠ (u16 : Value).ownBlock ∧ k_ ≠ gb357) (.slice A4 l4.length c4) l4) ∧ Aside0 (Kd.N (Kd.slice 2 (Kd.int .i64)) 56 wc w.heap.size (fun k_ => (P4_ k_ ∨ w.heap.size ≤ k_) ∧ k_ ≠ gb357) u16 x16_1) ∧ Aside0 (wc.heap[gb357]? = some (.cells #[.int .i64 a0_0, (.slice A0_1 l0_1.length c0_1)] 36 (0, 0))) ∧ Aside0 (Below w.heap.size w wc))
    case first =>
     have H := HC15.out
     clear HC15
     by_cases c16 : x17_1 < (l0_1.length : Int)
     rotate_left
     ·rw [if_neg c16] at H
      have c16b0 : decide (x17_1 < (l0_1.length : Int)) = false := decide_eq_false c16
      clear c16
      (first | rw [c16b0] | (simp only [i64_w, i32_w]; rw [c16b0]) | skip)
      have H' := Aside0.mk H
      clear H
      have hcz19_0 : wr.cell? ⟨gb357, 0, none⟩ = some (.int .i64 a0_0) := (blk_cell BK357.out 0).trans rfl
      have hcz19_1 : wr.cell? ⟨gb357, 1, none⟩ = some (.slice A0_1 l0_1.length c0_1) := (blk_cell BK357.out 1).trans rfl
      have hfz19_0 := blk_frozen BK357.out 0
      have hfz19_1 := blk_frozen BK357.out 1
      go_wp2
      go_meet
      case rel => exact ⟨_, (false), (by first | rfl | (simp; done) | (simp [*]; done) | (simp; decide +kernel)), H', ⟨by have := HK1.out; first | omega | exact Nat.le_refl _⟩, ⟨by (with_reducible repeat (first | apply Kd.V_alloc | apply Kd.V_drewN | apply Kd.V_drew)); exact HO_4.out⟩, ⟨by (with_reducible repeat (first | apply Kd.N_alloc | apply Kd.N_drewN | apply Kd.N_drew)); exact HO_16.out⟩, ⟨by (with_reducible repeat (first | apply bN_ | apply bD_ | apply bA_)); exact BK357.out⟩, ⟨by repeat (first | (with_reducible first | exact HB.out | apply lA_ | apply lN_ | apply lD_ | refine lS_ ?_ GE357.out) | exact HB.out)⟩⟩
     rw [if_pos c16] at H
     have c16b0 : decide (x17_1 < (l0_1.length : Int)) = true := decide_eq_true c16
     clear c16
     (first | rw [c16b0] | (simp only [i64_w, i32_w]; rw [c16b0]) | skip)
     have H' := Aside0.mk H
     clear H
     have hcz17_0 : wr.cell? ⟨gb357, 0, none⟩ = some (.int .i64 a0_0) := (blk_cell BK357.out 0).trans rfl
     have hcz17_1 : wr.cell? ⟨gb357, 1, none⟩ = some (.slice A0_1 l0_1.length c0_1) := (blk_cell BK357.out 1).trans rfl
     have hfz17_0 := blk_frozen BK357.out 0
     have hfz17_1 := blk_frozen BK357.out 1
     obtain ⟨Ao18, co18, eo18⟩ := Kd.N_slice HO_16.out
     subst eo18
     go_wp2
     go_meet
     case rel => exact ⟨_, (decide ((x16_1.length : Int) < a6)), (by first | rfl | (simp; done) | (simp [*]; done) | (simp; decide +kernel)), H', ⟨by have := HK1.out; first | omega | exact Nat.le_refl _⟩, ⟨by (with_reducible repeat (first | apply Kd.V_alloc | apply Kd.V_drewN | apply Kd.V_drew)); exact HO_4.out⟩, ⟨by (with_reducible repeat (first | apply Kd.N_alloc | apply Kd.N_drewN | apply Kd.N_drew)); exact HO_16.out⟩, ⟨by (with_reducible repeat (first | apply bN_ | apply bD_ | apply bA_)); exact BK357.out⟩, ⟨by repeat (first | (with_reducible first | exact HB.out | apply lA_ | apply lN_ | apply lD_ | refine lS_ ?_ GE357.out) | exact HB.out)⟩⟩
    case rest =>
     clear HC15
     try clear c1
     try clear c2
     try clear p2
     try clear c3
     try clear c4
     try clear c6
     try clear p6
     try clear c8
     try clear c8b0
     try clear c8b1
     try clear c16
     try clear c16b0
     try clear hcz17_0
     try clear hcz17_1
     try clear hcz19_0
     try clear hcz19_1
     try clear hfz17_0
     try clear hfz17_1
     try clear hfz19_0
     try clear hfz19_1
     try clear p2
     try clear p6
     obtain ⟨kq, x39_14, rfl, HA, HJ14, HO_4, HO_16, BK357, HB⟩ := hcut
     cases kq with
     | zero => exact absurd HA.out (by simp [spec_l03List.j1])
     | succ kj14 =>
      have H := HA.out
      clear HA
      simp only [spec_l03List.j1] at H
      by_cases c20 : x39_14 = true
      rotate_left
      ·replace c20 := Bool.eq_false_iff.mpr c20
       subst c20
       have H1 : (some x16_1) = some r := by rw [if_neg (show ¬ (false = true) by decide)] at H; exact H
       clear H
       have H := H1
       clear H1
       obtain rfl := Option.some.inj H
       go_wp2
       go_ret
       exact ⟨_, by first | rfl | (simp [errW_none, errW_some] <;> rfl) | (simp [*, errW_none, errW_some] <;> rfl), by (with_reducible repeat (first | apply Kd.N_alloc | apply Kd.N_drewN | apply Kd.N_drew)); exact Kd.N_mono HO_16.out (fun _ hk => hk.1), by repeat (first | (with_reducible first | exact HB.out | apply lA_ | apply lN_ | apply lD_ | refine lS_ ?_ GE357.out) | exact HB.out)⟩
      subst c20
      have H1 : ((spec_l03Can.f a0_0 l0_1 l1 l2 a5 (l4.length : Int) x17_1).bind fun t364 => (if t364 = true then (if 0 < (l1.length : Int) then ((spec_l03Step.f kj14 a0_0 l0_1 ((rd_L1 l1 0).length : Int) a5 (l4.length : Int) x17_1).bind fun t366 => (if 0 ≤ (wrap64 ((l4.length : Int) + 1)) then (if (wrap64 ((l4.length : Int) + 1)) < (l3.length : Int) then (if 0 ≤ t366 then (if t366 < ((rd_L1 l3 (wrap64 ((l4.length : Int) + 1))).length : Int) then (if (rd (rd_L1 l3 (wrap64 ((l4.length : Int) + 1))) t366) > 0 then ((spec_l01Own.f l4).bind fun t369 => ((some (([x17_1] : List Int) : List Int)).bind fun y372 => (if t369.length + y372.length < 17592186044416 then ((spec_l03List.f kj14 a0_0 l0_1 l1 l2 l3 (t369 ++ y372) t366 (wrap64 (a6 - (x16_1.length : Int)))).bind fun t378 => (if x16_1.length + t378.length < 5864062014805 then (spec_l03List.l0 kj14 l1 l2 l3 l4 a5 a6 (l4.length : Int) (x16_1 ++ t378) (wrap64 (x17_1 + 1)) a0_0 l0_1) else (none))) else (none)))) else (spec_l03List.l0 kj14 l1 l2 l3 l4 a5 a6 (l4.length : Int) x16_1 (wrap64 (x17_1 + 1)) a0_0 l0_1)) else (none)) else (none)) else (none)) else (none))) else (none)) else (spec_l03List.l0 kj14 l1 l2 l3 l4 a5 a6 (l4.length : Int) x16_1 (wrap64 (x17_1 + 1)) a0_0 l0_1))) = some r := by rw [if_pos rfl] at H; exact H
      clear H
      have H := H1
      clear H1
      replace H := Option.bind_eq_some_iff.mp H
      obtain ⟨t364, A210, H⟩ := H
      replace H : (if t364 = true then (if 0 < (l1.length : Int) then ((spec_l03Step.f kj14 a0_0 l0_1 ((rd_L1 l1 0).length : Int) a5 (l4.length : Int) x17_1).bind fun t366 => (if 0 ≤ (wrap64 ((l4.length : Int) + 1)) then (if (wrap64 ((l4.length : Int) + 1)) < (l3.length : Int) then (if 0 ≤ t366 then (if t366 < ((rd_L1 l3 (wrap64 ((l4.length : Int) + 1))).length : Int) then (if (rd (rd_L1 l3 (wrap64 ((l4.length : Int) + 1))) t366) > 0 then ((spec_l01Own.f l4).bind fun t369 => ((some (([x17_1] : List Int) : List Int)).bind fun y372 => (if t369.length + y372.length < 17592186044416 then ((spec_l03List.f kj14 a0_0 l0_1 l1 l2 l3 (t369 ++ y372) t366 (wrap64 (a6 - (x16_1.length : Int)))).bind fun t378 => (if x16_1.length + t378.length < 5864062014805 then (spec_l03List.l0 kj14 l1 l2 l3 l4 a5 a6 (l4.length : Int) (x16_1 ++ t378) (wrap64 (x17_1 + 1)) a0_0 l0_1) else (none))) else (none)))) else (spec_l03List.l0 kj14 l1 l2 l3 l4 a5 a6 (l4.length : Int) x16_1 (wrap64 (x17_1 + 1)) a0_0 l0_1)) else (none)) else (none)) else (none)) else (none))) else (none)) else (spec_l03List.l0 kj14 l1 l2 l3 l4 a5 a6 (l4.length : Int) x16_1 (wrap64 (x17_1 + 1)) a0_0 l0_1)) = some r := H
      have A21 := Aside0.mk A210
      clear A210
      by_cases c22 : t364 = true
      rotate_left
      ·replace c22 := Bool.eq_false_iff.mpr c22
       subst c22
       have H1 : (spec_l03List.l0 kj14 l1 l2 l3 l4 a5 a6 (l4.length : Int) x16_1 (wrap64 (x17_1 + 1)) a0_0 l0_1) = some r := by rw [if_neg (show ¬ (false = true) by decide)] at H; exact H
       clear H
       have H := H1
       clear H1
       have H' := Aside0.mk H
       clear H
       have hcz55_0 : wc.cell? ⟨gb357, 0, none⟩ = some (.int .i64 a0_0) := (blk_cell BK357.out 0).trans rfl
       have hcz55_1 : wc.cell? ⟨gb357, 1, none⟩ = some (.slice A0_1 l0_1.length c0_1) := (blk_cell BK357.out 1).trans rfl
       have hfz55_0 := blk_frozen BK357.out 0
       have hfz55_1 := blk_frozen BK357.out 1
       go_wp2_with (first | ((with_reducible refine gate_callee (f := 82) rfl ?_); refine goesL_ (some 48) rfl rfl Try.func82 (by kernel_rfl) rfl #[.agg #[.int .i64 a0_0, .slice A0_1 l0_1.length c0_1], .slice A1 l1.length c1, .slice A2 l2.length c2, .int .i64 a5, .int .i64 (l4.length : Int), .int .i64 x17_1] rfl (by (try simp only [q4_, q5_, q6_]); first | done | rfl | (simp only [List.length_drop, List.length_take]; rfl)) ?_; (with_reducible refine (spec_l03Can.calls a0_0 _ _ l0_1 _ _ l1 _ _ l2 a5 (l4.length : Int) x17_1 false _ ?side1 ?side2 ?side3 ?side4 ?side5 ?side6 A21.out).mono ?_); (case side1 => repeat (first | exact (Kd.C_below HR0_1.out HB.out) | (with_reducible refine Kd.C_alloc ?_ _) | (with_reducible refine Kd.C_drewN ?_ _) | (with_reducible refine Kd.C_drew ?_))); (case side2 => exact HC0_1.out); (case side3 => repeat (first | exact (Kd.C_below HR1.out HB.out) | (with_reducible refine Kd.C_alloc ?_ _) | (with_reducible refine Kd.C_drewN ?_ _) | (with_reducible refine Kd.C_drew ?_))); (case side4 => exact HC1.out); (case side5 => repeat (first | exact (Kd.C_below HR2.out HB.out) | (with_reducible refine Kd.C_alloc ?_ _) | (with_reducible refine Kd.C_drewN ?_ _) | (with_reducible refine Kd.C_drew ?_))); (case side6 => exact HC2.out); rintro e w56 ⟨rfl, hb⟩; refine ⟨_, rfl, ?_⟩; have n0_ := Aside0.mk (Kd.V_below (by (with_reducible repeat (first | apply Kd.V_alloc | apply Kd.V_drewN | apply Kd.V_drew)); exact HO_4.out) hb); have n1_ := Aside0.mk (Kd.N_below (by (with_reducible repeat (first | apply Kd.N_alloc | apply Kd.N_drewN | apply Kd.N_drew)); exact HO_16.out) hb); have n2_ := Aside0.mk (blk_below (g := gb357) (o := .cells #[.int .i64 a0_0, .slice A0_1 l0_1.length c0_1] 36 (0, 0)) (by (with_reducible repeat (first | apply bN_ | apply bD_ | apply bA_)); exact BK357.out) hb); have n3_ := Aside0.mk (below_step (by repeat (first | (with_reducible first | exact HB.out | apply lA_ | apply lN_ | apply lD_ | refine lS_ ?_ GE357.out) | exact HB.out)) hb); clear HO_4; clear HO_16; clear BK357; clear HB; have HO_4 := n0_; have HO_16 := n1_; have BK357 := n2_; have HB := n3_; clear n0_ n1_ n2_ n3_; (try clear hb); (try clear hb2); (try clear hk); (try clear hi)))
       go_roundg kj14
       case measure => have := HK1.out; have := HJ14.out; omega
       case rel => exact ⟨(x16_1), (wrap64 (x17_1 + 1)), (by first | rfl | (simp; done) | (simp [*]; done) | (simp; decide +kernel)), H', ⟨by have := HK1.out; have := HJ14.out; omega⟩, ⟨by (with_reducible repeat (first | apply Kd.V_alloc | apply Kd.V_drewN | apply Kd.V_drew)); exact HO_4.out⟩, ⟨by (with_reducible repeat (first | apply Kd.N_alloc | apply Kd.N_drewN | apply Kd.N_drew)); exact HO_16.out⟩, ⟨by (with_reducible repeat (first | apply bN_ | apply bD_ | apply bA_)); exact BK357.out⟩, ⟨by repeat (first | (with_reducible first | exact HB.out | apply lA_ | apply lN_ | apply lD_ | refine lS_ ?_ GE357.out) | exact HB.out)⟩⟩
      subst c22
      have H1 : (if 0 < (l1.length : Int) then ((spec_l03Step.f kj14 a0_0 l0_1 ((rd_L1 l1 0).length : Int) a5 (l4.length : Int) x17_1).bind fun t366 => (if 0 ≤ (wrap64 ((l4.length : Int) + 1)) then (if (wrap64 ((l4.length : Int) + 1)) < (l3.length : Int) then (if 0 ≤ t366 then (if t366 < ((rd_L1 l3 (wrap64 ((l4.length : Int) + 1))).length : Int) then (if (rd (rd_L1 l3 (wrap64 ((l4.length : Int) + 1))) t366) > 0 then ((spec_l01Own.f l4).bind fun t369 => ((some (([x17_1] : List Int) : List Int)).bind fun y372 => (if t369.length + y372.length < 17592186044416 then ((spec_l03List.f kj14 a0_0 l0_1 l1 l2 l3 (t369 ++ y372) t366 (wrap64 (a6 - (x16_1.length : Int)))).bind fun t378 => (if x16_1.length + t378.length < 5864062014805 then (spec_l03List.l0 kj14 l1 l2 l3 l4 a5 a6 (l4.length : Int) (x16_1 ++ t378) (wrap64 (x17_1 + 1)) a0_0 l0_1) else (none))) else (none)))) else (spec_l03List.l0 kj14 l1 l2 l3 l4 a5 a6 (l4.length : Int) x16_1 (wrap64 (x17_1 + 1)) a0_0 l0_1)) else (none)) else (none)) else (none)) else (none))) else (none)) = some r := by rw [if_pos rfl] at H; exact H
      clear H
      have H := H1
      clear H1
      by_cases c23 : 0 < (l1.length : Int)
      rotate_left
      ·rw [if_neg c23] at H
       exact absurd H (by simp)
      rw [if_pos c23] at H
      have c23b0 : decide (0 < (l1.length : Int)) = true := decide_eq_true c23
      have c23b1 : decide (0 < l1.length) = true := decide_eq_true (by omega)
      clear c23
      replace H := Option.bind_eq_some_iff.mp H
      obtain ⟨t366, A240, H⟩ := H
      replace H : (if 0 ≤ (wrap64 ((l4.length : Int) + 1)) then (if (wrap64 ((l4.length : Int) + 1)) < (l3.length : Int) then (if 0 ≤ t366 then (if t366 < ((rd_L1 l3 (wrap64 ((l4.length : Int) + 1))).length : Int) then (if (rd (rd_L1 l3 (wrap64 ((l4.length : Int) + 1))) t366) > 0 then ((spec_l01Own.f l4).bind fun t369 => ((some (([x17_1] : List Int) : List Int)).bind fun y372 => (if t369.length + y372.length < 17592186044416 then ((spec_l03List.f kj14 a0_0 l0_1 l1 l2 l3 (t369 ++ y372) t366 (wrap64 (a6 - (x16_1.length : Int)))).bind fun t378 => (if x16_1.length + t378.length < 5864062014805 then (spec_l03List.l0 kj14 l1 l2 l3 l4 a5 a6 (l4.length : Int) (x16_1 ++ t378) (wrap64 (x17_1 + 1)) a0_0 l0_1) else (none))) else (none)))) else (spec_l03List.l0 kj14 l1 l2 l3 l4 a5 a6 (l4.length : Int) x16_1 (wrap64 (x17_1 + 1)) a0_0 l0_1)) else (none)) else (none)) else (none)) else (none)) = some r := H
      have A24 := Aside0.mk A240
      clear A240
      obtain ⟨ji25, hji25⟩ : ∃ j_ : Int, (wrap64 ((l4.length : Int) + 1)) = j_ := ⟨_, rfl⟩
      replace H : (if 0 ≤ (ji25) then (if (ji25) < (l3.length : Int) then (if 0 ≤ t366 then (if t366 < ((rd_L1 l3 (ji25)).length : Int) then (if (rd (rd_L1 l3 (ji25)) t366) > 0 then ((spec_l01Own.f l4).bind fun t369 => ((some (([x17_1] : List Int) : List Int)).bind fun y372 => (if t369.length + y372.length < 17592186044416 then ((spec_l03List.f kj14 a0_0 l0_1 l1 l2 l3 (t369 ++ y372) t366 (wrap64 (a6 - (x16_1.length : Int)))).bind fun t378 => (if x16_1.length + t378.length < 5864062014805 then (spec_l03List.l0 kj14 l1 l2 l3 l4 a5 a6 (l4.length : Int) (x16_1 ++ t378) (wrap64 (x17_1 + 1)) a0_0 l0_1) else (none))) else (none)))) else (spec_l03List.l0 kj14 l1 l2 l3 l4 a5 a6 (l4.length : Int) x16_1 (wrap64 (x17_1 + 1)) a0_0 l0_1)) else (none)) else (none)) else (none)) else (none)) = some r := by first | (rw [hji25] at H; exact H) | (simp only [hji25] at H ⊢; exact H)
      (try rw [hji25] at A21)
      (try rw [hji25] at A24)
      have hji25w : (IntKind.i64.wrap ((l4.length : Int) + 1)) = ji25 := (i64_w _).trans hji25
      by_cases c26 : 0 ≤ (ji25)
      rotate_left
      ·rw [if_neg c26] at H
       exact absurd H (by simp)
      rw [if_pos c26] at H
      have c26b0 : decide (0 ≤ (ji25)) = true := decide_eq_true c26
      clear c26
      by_cases c27 : (ji25) < (l3.length : Int)
      rotate_left
      ·rw [if_neg c27] at H
       exact absurd H (by simp)
      rw [if_pos c27] at H
      have c27b0 : decide ((ji25) < (l3.length : Int)) = true := decide_eq_true c27
      clear c27
      by_cases c28 : 0 ≤ t366
      rotate_left
      ·rw [if_neg c28] at H
       exact absurd H (by simp)
      rw [if_pos c28] at H
      have c28b0 : decide (0 ≤ t366) = true := decide_eq_true c28
      clear c28
      by_cases c29 : t366 < ((rd_L1 l3 (ji25)).length : Int)
      rotate_left
      ·rw [if_neg c29] at H
       exact absurd H (by simp)
      rw [if_pos c29] at H
      have c29b0 : decide (t366 < ((rd_L1 l3 (ji25)).length : Int)) = true := decide_eq_true c29
      clear c29
      by_cases c30 : (rd (rd_L1 l3 (ji25)) t366) > 0
      rotate_left
      ·rw [if_neg c30] at H
       have c30b0 : decide (0 < (rd (rd_L1 l3 (ji25)) t366)) = false := decide_eq_false c30
       clear c30
       have H' := Aside0.mk H
       clear H
       have hcz51_0 : wc.cell? ⟨gb357, 0, none⟩ = some (.int .i64 a0_0) := (blk_cell BK357.out 0).trans rfl
       have hcz51_1 : wc.cell? ⟨gb357, 1, none⟩ = some (.slice A0_1 l0_1.length c0_1) := (blk_cell BK357.out 1).trans rfl
       have hfz51_0 := blk_frozen BK357.out 0
       have hfz51_1 := blk_frozen BK357.out 1
       try go_wp2_with (first | ((with_reducible refine gate_callee (f := 82) rfl ?_); refine goesL_ (some 48) rfl rfl Try.func82 (by kernel_rfl) rfl #[.agg #[.int .i64 a0_0, .slice A0_1 l0_1.length c0_1], .slice A1 l1.length c1, .slice A2 l2.length c2, .int .i64 a5, .int .i64 (l4.length : Int), .int .i64 x17_1] rfl (by (try simp only [q4_, q5_, q6_]); first | done | rfl | (simp only [List.length_drop, List.length_take]; rfl)) ?_; (with_reducible refine (spec_l03Can.calls a0_0 _ _ l0_1 _ _ l1 _ _ l2 a5 (l4.length : Int) x17_1 true _ ?side1 ?side2 ?side3 ?side4 ?side5 ?side6 A21.out).mono ?_); (case side1 => repeat (first | exact (Kd.C_below HR0_1.out HB.out) | (with_reducible refine Kd.C_alloc ?_ _) | (with_reducible refine Kd.C_drewN ?_ _) | (with_reducible refine Kd.C_drew ?_))); (case side2 => exact HC0_1.out); (case side3 => repeat (first | exact (Kd.C_below HR1.out HB.out) | (with_reducible refine Kd.C_alloc ?_ _) | (with_reducible refine Kd.C_drewN ?_ _) | (with_reducible refine Kd.C_drew ?_))); (case side4 => exact HC1.out); (case side5 => repeat (first | exact (Kd.C_below HR2.out HB.out) | (with_reducible refine Kd.C_alloc ?_ _) | (with_reducible refine Kd.C_drewN ?_ _) | (with_reducible refine Kd.C_drew ?_))); (case side6 => exact HC2.out); rintro e w52 ⟨rfl, hb⟩; refine ⟨_, rfl, ?_⟩; have n0_ := Aside0.mk (Kd.V_below (by (with_reducible repeat (first | apply Kd.V_alloc | apply Kd.V_drewN | apply Kd.V_drew)); exact HO_4.out) hb); have n1_ := Aside0.mk (Kd.N_below (by (with_reducible repeat (first | apply Kd.N_alloc | apply Kd.N_drewN | apply Kd.N_drew)); exact HO_16.out) hb); have n2_ := Aside0.mk (blk_below (g := gb357) (o := .cells #[.int .i64 a0_0, .slice A0_1 l0_1.length c0_1] 36 (0, 0)) (by (with_reducible repeat (first | apply bN_ | apply bD_ | apply bA_)); exact BK357.out) hb); have n3_ := Aside0.mk (below_step (by repeat (first | (with_reducible first | exact HB.out | apply lA_ | apply lN_ | apply lD_ | refine lS_ ?_ GE357.out) | exact HB.out)) hb); clear HO_4; clear HO_16; clear BK357; clear HB; have HO_4 := n0_; have HO_16 := n1_; have BK357 := n2_; have HB := n3_; clear n0_ n1_ n2_ n3_; (try clear hb); (try clear hb2); (try clear hk); (try clear hi)))
       have n0_ := Aside0.mk (Kd.V_drew HO_4.out)
       have n1_ := Aside0.mk (Kd.N_drew HO_16.out)
       have n2_ := Aside0.mk (blk_drew BK357.out)
       have n3_ := Aside0.mk (below_drew1 HB.out)
       clear HO_4
       clear HO_16
       clear BK357
       clear HB
       have HO_4 := n0_
       have HO_16 := n1_
       have BK357 := n2_
       have HB := n3_
       clear n0_ n1_ n2_ n3_
       have p365 : 0 ≤ (0 : Int) := (by omega)
       have q365 : 0 < (l1.length : Int) := of_decide_eq_true (by first | (with_reducible assumption) | assumption)
       obtain ⟨ad365, A365_0, c365_0, e365, hx365_0, hl365_0, hi365_0⟩ := at_L1 HR1.out 0 p365 q365
       have hw365_0 := hx365_0
       (try rw [show ((0 : Int)).toNat = 0 from rfl] at hw365_0)
       (try rw [show 0 * 1 = 0 from rfl] at hw365_0)
       (try rw [Addr.add_zero'] at hw365_0)
       cases e365
       have qi365 : (0 < l1.length) = True := eq_true (by omega)
       (try rw [show ((0 : Int)).toNat = 0 from rfl] at hx365_0)
       (try rw [Addr.add_zero'] at hx365_0)
       replace hx365_0 := (HB.out.cell (World.block_lt_of_cell? w _ hx365_0)).trans hx365_0
       have HR365_0 := Aside0.mk hi365_0
       have HC365_0 := Aside0.mk hl365_0
       clear hi365_0 hl365_0
       replace p365 := eq_true p365
       replace q365 := eq_true q365
       refine start_ (n := 10) (S := fun w' => w'.cell? ⟨gb357, 0, none⟩ = some (.int .i64 a0_0) ∧ w'.cell? ⟨gb357, 1, none⟩ = some (.slice A0_1 l0_1.length c0_1) ∧ w'.cell? ad365 = some (.slice A365_0 (rd_L1 l1 0).length c365_0)) (ds := []) #[f_,f_,f_,f_,f_,f_,f_,f_,f_,f_] (by kernel_rfl) rfl rfl ⟨(blk_cell BK357.out 0).trans rfl, (blk_cell BK357.out 1).trans rfl, ((HB.out.cell (World.block_lt_of_cell? w _ hw365_0)).trans hw365_0)⟩ (fun hHeld => ?_); refine with_tabW spec_l03List.tab9 spec_l03List.bits9 (fun HT_ HW_ => ?_)
       generalize w52.drew = w53 at HO_4 HO_16 BK357 HB HR365_0 hx365_0 hHeld ⊢
       refine p_ 1 51 ?_ #[f_,t_,f_,f_,f_,f_,f_,f_,f_,f_] rfl rfl HT_.out (by kernel_rfl) (fun _ _ _ h => h) (.inl ⟨by rfl, ?_⟩) ?_ ?_ ?_
       rotate_left
       ·intro w'
        go_simp
        with_reducible rfl
       rotate_left
       ·simp only [Q_]
        rfl
       refine p_ 2 52 ?_ #[f_,t_,t_,f_,f_,f_,f_,f_,f_,f_] rfl rfl HT_.out (by kernel_rfl) (fun _ _ _ h => h) (.inl ⟨by rfl, ?_⟩) ?_ ?_ ?_
       rotate_left
       ·intro w'
        go_simp
        with_reducible rfl
       rotate_left
       ·simp only [Q_]
        rfl
       refine p_ 5 55 ?_ #[f_,t_,t_,f_,f_,t_,f_,f_,f_,f_] rfl rfl HT_.out (by kernel_rfl) (fun _ _ _ h => h) (.inl ⟨by rfl, ?_⟩) ?_ ?_ ?_
       rotate_left
       ·intro w'
        go_simp
        with_reducible rfl
       rotate_left
       ·simp only [Q_]
        rfl
       refine p_ 6 56 ?_ #[f_,t_,t_,f_,f_,t_,t_,f_,f_,f_] rfl rfl HT_.out (by kernel_rfl) (fun _ _ _ h => h) (.inl ⟨by rfl, ?_⟩) ?_ ?_ ?_
       rotate_left
       ·intro w'
        go_simp
        with_reducible rfl
       rotate_left
       ·simp only [Q_]
        rfl
       refine p_ 7 57 ?_ #[f_,t_,t_,f_,f_,t_,t_,t_,f_,f_] rfl rfl HT_.out (by kernel_rfl) (fun _ _ _ h => h) (.inl ⟨by rfl, ?_⟩) ?_ ?_ ?_
       rotate_left
       ·intro w'
        go_simp
        with_reducible rfl
       rotate_left
       ·simp only [Q_]
        rfl
       refine tk_ 0 50 ?_ #[t_,t_,t_,f_,f_,t_,t_,t_,f_,f_] rfl rfl (take_ofW HT_.out HW_.out (by kernel_rfl)) (fun _ _ _ h => h) (.inl ⟨by rfl, ?_⟩) hHeld ?_ ?_ ?_
       rotate_left
       ·rintro w' ⟨s0, s1, s2⟩
        go_simp
        with_reducible rfl
       rotate_left
       ·simp only [Q_]
        rfl
       refine tk_ 3 53 ?_ #[t_,t_,t_,t_,f_,t_,t_,t_,f_,f_] rfl rfl (take_ofW HT_.out HW_.out (by kernel_rfl)) (fun _ _ _ h => h) (.inl ⟨by rfl, ?_⟩) hHeld ?_ ?_ ?_
       rotate_left
       ·rintro w' ⟨s0, s1, s2⟩
        go_simp
        with_reducible rfl
       rotate_left
       ·simp only [Q_]
        rfl
       refine p_ 4 54 ?_ #[t_,t_,t_,t_,t_,t_,t_,t_,f_,f_] rfl rfl HT_.out (by kernel_rfl) (fun _ _ _ h => h) (.inl ⟨by rfl, ?_⟩) ?_ ?_ ?_
       rotate_left
       ·intro w'
        go_simp
        with_reducible rfl
       rotate_left
       ·simp only [Q_]
        rfl
       refine one_ (i := 8) (N := some 58) #[t_,t_,t_,t_,t_,t_,t_,t_,t_,f_] rfl rfl (one_of HT_.out (by kernel_rfl)) (by decide) (fun K hK => ?_)
       refine goes_ Try.func83 (by kernel_rfl) rfl #[.agg #[.int .i64 a0_0, .slice A0_1 l0_1.length c0_1], .int .i64 ((rd_L1 l1 0).length : Int), .int .i64 a5, .int .i64 (l4.length : Int), .int .i64 x17_1] (by rfl) rfl rfl (by (try simp only [q4_, q5_, q6_]); first | done | rfl | (simp only [List.length_drop, List.length_take]; rfl)) ?_
       with_reducible refine (spec_l03Step.calls kj14 a0_0 _ _ l0_1 ((rd_L1 l1 0).length : Int) a5 (l4.length : Int) x17_1 t366 _ ?side1 ?side2 A24.out).mono ?_
       (case side1 => repeat (first | exact (Kd.C_below HR0_1.out HB.out) | (with_reducible refine Kd.C_alloc ?_ _) | (with_reducible refine Kd.C_drewN ?_ _) | (with_reducible refine Kd.C_drew ?_)))
       (case side2 => exact HC0_1.out)
       rintro e w54 ⟨rfl, hb⟩
       refine ⟨_, rfl, ?_⟩
       have n0_ := Aside0.mk (Kd.V_below (by (with_reducible repeat (first | apply Kd.V_alloc | apply Kd.V_drewN | apply Kd.V_drew)); exact HO_4.out) hb)
       have n1_ := Aside0.mk (Kd.N_below (by (with_reducible repeat (first | apply Kd.N_alloc | apply Kd.N_drewN | apply Kd.N_drew)); exact HO_16.out) hb)
       have n2_ := Aside0.mk (blk_below (g := gb357) (o := .cells #[.int .i64 a0_0, .slice A0_1 l0_1.length c0_1] 36 (0, 0)) (by (with_reducible repeat (first | apply bN_ | apply bD_ | apply bA_)); exact BK357.out) hb)
       have n3_ := Aside0.mk (below_step (by repeat (first | (with_reducible first | exact HB.out | apply lA_ | apply lN_ | apply lD_ | refine lS_ ?_ GE357.out) | exact HB.out)) hb)
       clear HO_4
       clear HO_16
       clear BK357
       clear HB
       have HO_4 := n0_
       have HO_16 := n1_
       have BK357 := n2_
       have HB := n3_
       clear n0_ n1_ n2_ n3_
       (try clear hb)
       (try clear hb2)
       (try clear hk)
       (try clear hi)
       refine hK.out _ _ ⟨(blk_cell BK357.out 0).trans rfl, (blk_cell BK357.out 1).trans rfl, ((HB.out.cell (World.block_lt_of_cell? w _ hw365_0)).trans hw365_0)⟩ (fun hHeld => ?_)
       clear hK K
       refine norm_ (a' := ?_) ?_ ?_
       rotate_left
       ·show Act.put _ (some 58) _ = _
        simp only [Q_]
        rfl
       refine p_ 9 18 ?_ #[t_,t_,t_,t_,t_,t_,t_,t_,t_,t_] rfl rfl HT_.out (by kernel_rfl) (fun _ _ _ h => h) (.inl ⟨by rfl, ?_⟩) ?_ ?_ ?_
       rotate_left
       ·intro w'
        go_simp
        with_reducible rfl
       rotate_left
       ·simp only [Q_]
        rfl
       refine done_ (done_of HT_.out (by kernel_rfl)) ?_
       have p367 : 0 ≤ ((ji25) : Int) := of_decide_eq_true (by first | (with_reducible assumption) | assumption)
       have q367 : (ji25) < (l3.length : Int) := of_decide_eq_true (by first | (with_reducible assumption) | assumption)
       obtain ⟨ad367, A367_0, c367_0, e367, hx367_0, hl367_0, hi367_0⟩ := at_L1 HR3.out (ji25) p367 q367
       cases e367
       replace hx367_0 := (HB.out.cell (World.block_lt_of_cell? w _ hx367_0)).trans hx367_0
       have HR367_0 := Aside0.mk hi367_0
       have HC367_0 := Aside0.mk hl367_0
       clear hi367_0 hl367_0
       replace p367 := eq_true p367
       replace q367 := eq_true q367
       have p368 : 0 ≤ (t366 : Int) := of_decide_eq_true (by first | (with_reducible assumption) | assumption)
       have q368 : t366 < ((rd_L1 l3 (ji25)).length : Int) := of_decide_eq_true (by first | (with_reducible assumption) | assumption)
       obtain ⟨ad368, e368, hx368_0⟩ := Kd.at_int HR367_0.out t366 p368 q368
       cases e368
       replace hx368_0 := (HB.out.cell (World.block_lt_of_cell? w _ hx368_0)).trans hx368_0
       replace p368 := eq_true p368
       replace q368 := eq_true q368
       try go_wp2
       go_roundg kj14
       case measure => have := HK1.out; have := HJ14.out; omega
       case rel => exact ⟨(x16_1), (wrap64 (x17_1 + 1)), (by first | rfl | (simp; done) | (simp [*]; done) | (simp; decide +kernel)), H', ⟨by have := HK1.out; have := HJ14.out; omega⟩, ⟨by (with_reducible repeat (first | apply Kd.V_alloc | apply Kd.V_drewN | apply Kd.V_drew)); exact HO_4.out⟩, ⟨by (with_reducible repeat (first | apply Kd.N_alloc | apply Kd.N_drewN | apply Kd.N_drew)); exact HO_16.out⟩, ⟨by (with_reducible repeat (first | apply bN_ | apply bD_ | apply bA_)); exact BK357.out⟩, ⟨by repeat (first | (with_reducible first | exact HB.out | apply lA_ | apply lN_ | apply lD_ | refine lS_ ?_ GE357.out) | exact HB.out)⟩⟩
      rw [if_pos c30] at H
      have c30b0 : decide (0 < (rd (rd_L1 l3 (ji25)) t366)) = true := decide_eq_true c30
      clear c30
      replace H := Option.bind_eq_some_iff.mp H
      obtain ⟨t369, A310, H⟩ := H
      replace H : ((some (([x17_1] : List Int) : List Int)).bind fun y372 => (if t369.length + y372.length < 17592186044416 then ((spec_l03List.f kj14 a0_0 l0_1 l1 l2 l3 (t369 ++ y372) t366 (wrap64 (a6 - (x16_1.length : Int)))).bind fun t378 => (if x16_1.length + t378.length < 5864062014805 then (spec_l03List.l0 kj14 l1 l2 l3 l4 a5 a6 (l4.length : Int) (x16_1 ++ t378) (wrap64 (x17_1 + 1)) a0_0 l0_1) else (none))) else (none))) = some r := H
      have A31 := Aside0.mk A310
      clear A310
      obtain ⟨y372, hy372⟩ : ∃ y_ : List Int, y_ = (([x17_1] : List Int)) := ⟨_, rfl⟩
      replace H : (if t369.length + y372.length < 17592186044416 then ((spec_l03List.f kj14 a0_0 l0_1 l1 l2 l3 (t369 ++ y372) t366 (wrap64 (a6 - (x16_1.length : Int)))).bind fun t378 => (if x16_1.length + t378.length < 5864062014805 then (spec_l03List.l0 kj14 l1 l2 l3 l4 a5 a6 (l4.length : Int) (x16_1 ++ t378) (wrap64 (x17_1 + 1)) a0_0 l0_1) else (none))) else (none)) = some r := by first | (rw [hy372]; with_reducible exact H) | (have H2_ := (Option.bind_some _ _).symm.trans H; rw [hy372]; with_reducible exact H2_) | (have H2_ := (Option.bind_some _ _).symm.trans H; with_reducible exact H2_) | with_reducible exact H | (rw [hy372]; exact H) | exact H
      have Ny372 := Aside0.mk hy372
      clear hy372
      by_cases c32 : t369.length + y372.length < 17592186044416
      rotate_left
      ·rw [if_neg c32] at H
       exact absurd H (by simp)
      rw [if_pos c32] at H
      have LMc32 := Aside0.mk c32
      clear c32
      obtain ⟨y375, hy375⟩ : ∃ y_ : List Int, y_ = (t369 ++ y372) := ⟨_, rfl⟩
      replace H : ((spec_l03List.f kj14 a0_0 l0_1 l1 l2 l3 y375 t366 (wrap64 (a6 - (x16_1.length : Int)))).bind fun t378 => (if x16_1.length + t378.length < 5864062014805 then (spec_l03List.l0 kj14 l1 l2 l3 l4 a5 a6 (l4.length : Int) (x16_1 ++ t378) (wrap64 (x17_1 + 1)) a0_0 l0_1) else (none))) = some r := by first | (rw [hy375]; with_reducible exact H) | (have H2_ := (Option.bind_some _ _).symm.trans H; rw [hy375]; with_reducible exact H2_) | (have H2_ := (Option.bind_some _ _).symm.trans H; with_reducible exact H2_) | with_reducible exact H | (rw [hy375]; exact H) | exact H
      have Ny375 := Aside0.mk hy375
      clear hy375
      replace H := Option.bind_eq_some_iff.mp H
      obtain ⟨t378, A330, H⟩ := H
      replace H : (if x16_1.length + t378.length < 5864062014805 then (spec_l03List.l0 kj14 l1 l2 l3 l4 a5 a6 (l4.length : Int) (x16_1 ++ t378) (wrap64 (x17_1 + 1)) a0_0 l0_1) else (none)) = some r := H
      have A33 := Aside0.mk A330
      clear A330
      by_cases c34 : x16_1.length + t378.length < 5864062014805
      rotate_left
      ·rw [if_neg c34] at H
       exact absurd H (by simp)
      rw [if_pos c34] at H
      have LMc34 := Aside0.mk c34
      clear c34
      obtain ⟨y381, hy381⟩ : ∃ y_ : List (List Int), y_ = (x16_1 ++ t378) := ⟨_, rfl⟩
      replace H : (spec_l03List.l0 kj14 l1 l2 l3 l4 a5 a6 (l4.length : Int) y381 (wrap64 (x17_1 + 1)) a0_0 l0_1) = some r := by first | (rw [hy381]; with_reducible exact H) | (have H2_ := (Option.bind_some _ _).symm.trans H; rw [hy381]; with_reducible exact H2_) | (have H2_ := (Option.bind_some _ _).symm.trans H; with_reducible exact H2_) | with_reducible exact H | (rw [hy381]; exact H) | exact H
      have Ny381 := Aside0.mk hy381
      clear hy381
      have H' := Aside0.mk H
      clear H
      have hcz35_0 : wc.cell? ⟨gb357, 0, none⟩ = some (.int .i64 a0_0) := (blk_cell BK357.out 0).trans rfl
      have hcz35_1 : wc.cell? ⟨gb357, 1, none⟩ = some (.slice A0_1 l0_1.length c0_1) := (blk_cell BK357.out 1).trans rfl
      have hfz35_0 := blk_frozen BK357.out 0
      have hfz35_1 := blk_frozen BK357.out 1
      try go_wp2_with (first | ((with_reducible refine gate_callee (f := 82) rfl ?_); refine goesL_ (some 48) rfl rfl Try.func82 (by kernel_rfl) rfl #[.agg #[.int .i64 a0_0, .slice A0_1 l0_1.length c0_1], .slice A1 l1.length c1, .slice A2 l2.length c2, .int .i64 a5, .int .i64 (l4.length : Int), .int .i64 x17_1] rfl (by (try simp only [q4_, q5_, q6_]); first | done | rfl | (simp only [List.length_drop, List.length_take]; rfl)) ?_; (with_reducible refine (spec_l03Can.calls a0_0 _ _ l0_1 _ _ l1 _ _ l2 a5 (l4.length : Int) x17_1 true _ ?side1 ?side2 ?side3 ?side4 ?side5 ?side6 A21.out).mono ?_); (case side1 => repeat (first | exact (Kd.C_below HR0_1.out HB.out) | (with_reducible refine Kd.C_alloc ?_ _) | (with_reducible refine Kd.C_drewN ?_ _) | (with_reducible refine Kd.C_drew ?_))); (case side2 => exact HC0_1.out); (case side3 => repeat (first | exact (Kd.C_below HR1.out HB.out) | (with_reducible refine Kd.C_alloc ?_ _) | (with_reducible refine Kd.C_drewN ?_ _) | (with_reducible refine Kd.C_drew ?_))); (case side4 => exact HC1.out); (case side5 => repeat (first | exact (Kd.C_below HR2.out HB.out) | (with_reducible refine Kd.C_alloc ?_ _) | (with_reducible refine Kd.C_drewN ?_ _) | (with_reducible refine Kd.C_drew ?_))); (case side6 => exact HC2.out); rintro e w36 ⟨rfl, hb⟩; refine ⟨_, rfl, ?_⟩; have n0_ := Aside0.mk (Kd.V_below (by (with_reducible repeat (first | apply Kd.V_alloc | apply Kd.V_drewN | apply Kd.V_drew)); exact HO_4.out) hb); have n1_ := Aside0.mk (Kd.N_below (by (with_reducible repeat (first | apply Kd.N_alloc | apply Kd.N_drewN | apply Kd.N_drew)); exact HO_16.out) hb); have n2_ := Aside0.mk (blk_below (g := gb357) (o := .cells #[.int .i64 a0_0, .slice A0_1 l0_1.length c0_1] 36 (0, 0)) (by (with_reducible repeat (first | apply bN_ | apply bD_ | apply bA_)); exact BK357.out) hb); have n3_ := Aside0.mk (below_step (by repeat (first | (with_reducible first | exact HB.out | apply lA_ | apply lN_ | apply lD_ | refine lS_ ?_ GE357.out) | exact HB.out)) hb); clear HO_4; clear HO_16; clear BK357; clear HB; have HO_4 := n0_; have HO_16 := n1_; have BK357 := n2_; have HB := n3_; clear n0_ n1_ n2_ n3_; (try clear hb); (try clear hb2); (try clear hk); (try clear hi)))
      have n0_ := Aside0.mk (Kd.V_drew HO_4.out)
      have n1_ := Aside0.mk (Kd.N_drew HO_16.out)
      have n2_ := Aside0.mk (blk_drew BK357.out)
      have n3_ := Aside0.mk (below_drew1 HB.out)
      clear HO_4
      clear HO_16
      clear BK357
      clear HB
      have HO_4 := n0_
      have HO_16 := n1_
      have BK357 := n2_
      have HB := n3_
      clear n0_ n1_ n2_ n3_
      have p365 : 0 ≤ (0 : Int) := (by omega)
      have q365 : 0 < (l1.length : Int) := of_decide_eq_true (by first | (with_reducible assumption) | assumption)
      obtain ⟨ad365, A365_0, c365_0, e365, hx365_0, hl365_0, hi365_0⟩ := at_L1 HR1.out 0 p365 q365
      have hw365_0 := hx365_0
      (try rw [show ((0 : Int)).toNat = 0 from rfl] at hw365_0)
      (try rw [show 0 * 1 = 0 from rfl] at hw365_0)
      (try rw [Addr.add_zero'] at hw365_0)
      cases e365
      have qi365 : (0 < l1.length) = True := eq_true (by omega)
      (try rw [show ((0 : Int)).toNat = 0 from rfl] at hx365_0)
      (try rw [Addr.add_zero'] at hx365_0)
      replace hx365_0 := (HB.out.cell (World.block_lt_of_cell? w _ hx365_0)).trans hx365_0
      have HR365_0 := Aside0.mk hi365_0
      have HC365_0 := Aside0.mk hl365_0
      clear hi365_0 hl365_0
      replace p365 := eq_true p365
      replace q365 := eq_true q365
      refine start_ (n := 10) (S := fun w' => w'.cell? ⟨gb357, 0, none⟩ = some (.int .i64 a0_0) ∧ w'.cell? ⟨gb357, 1, none⟩ = some (.slice A0_1 l0_1.length c0_1) ∧ w'.cell? ad365 = some (.slice A365_0 (rd_L1 l1 0).length c365_0)) (ds := []) #[f_,f_,f_,f_,f_,f_,f_,f_,f_,f_] (by kernel_rfl) rfl rfl ⟨(blk_cell BK357.out 0).trans rfl, (blk_cell BK357.out 1).trans rfl, ((HB.out.cell (World.block_lt_of_cell? w _ hw365_0)).trans hw365_0)⟩ (fun hHeld => ?_); refine with_tabW spec_l03List.tab9 spec_l03List.bits9 (fun HT_ HW_ => ?_)
      generalize w36.drew = w37 at HO_4 HO_16 BK357 HB HR365_0 hx365_0 hHeld ⊢
      refine p_ 1 51 ?_ #[f_,t_,f_,f_,f_,f_,f_,f_,f_,f_] rfl rfl HT_.out (by kernel_rfl) (fun _ _ _ h => h) (.inl ⟨by rfl, ?_⟩) ?_ ?_ ?_
      rotate_left
      ·intro w'
       go_simp
       with_reducible rfl
      rotate_left
      ·simp only [Q_]
       rfl
      refine p_ 2 52 ?_ #[f_,t_,t_,f_,f_,f_,f_,f_,f_,f_] rfl rfl HT_.out (by kernel_rfl) (fun _ _ _ h => h) (.inl ⟨by rfl, ?_⟩) ?_ ?_ ?_
      rotate_left
      ·intro w'
       go_simp
       with_reducible rfl
      rotate_left
      ·simp only [Q_]
       rfl
      refine p_ 5 55 ?_ #[f_,t_,t_,f_,f_,t_,f_,f_,f_,f_] rfl rfl HT_.out (by kernel_rfl) (fun _ _ _ h => h) (.inl ⟨by rfl, ?_⟩) ?_ ?_ ?_
      rotate_left
      ·intro w'
       go_simp
       with_reducible rfl
      rotate_left
      ·simp only [Q_]
       rfl
      refine p_ 6 56 ?_ #[f_,t_,t_,f_,f_,t_,t_,f_,f_,f_] rfl rfl HT_.out (by kernel_rfl) (fun _ _ _ h => h) (.inl ⟨by rfl, ?_⟩) ?_ ?_ ?_
      rotate_left
      ·intro w'
       go_simp
       with_reducible rfl
      rotate_left
      ·simp only [Q_]
       rfl
      refine p_ 7 57 ?_ #[f_,t_,t_,f_,f_,t_,t_,t_,f_,f_] rfl rfl HT_.out (by kernel_rfl) (fun _ _ _ h => h) (.inl ⟨by rfl, ?_⟩) ?_ ?_ ?_
      rotate_left
      ·intro w'
       go_simp
       with_reducible rfl
      rotate_left
      ·simp only [Q_]
       rfl
      refine tk_ 0 50 ?_ #[t_,t_,t_,f_,f_,t_,t_,t_,f_,f_] rfl rfl (take_ofW HT_.out HW_.out (by kernel_rfl)) (fun _ _ _ h => h) (.inl ⟨by rfl, ?_⟩) hHeld ?_ ?_ ?_
      rotate_left
      ·rintro w' ⟨s0, s1, s2⟩
       go_simp
       with_reducible rfl
      rotate_left
      ·simp only [Q_]
       rfl
      refine tk_ 3 53 ?_ #[t_,t_,t_,t_,f_,t_,t_,t_,f_,f_] rfl rfl (take_ofW HT_.out HW_.out (by kernel_rfl)) (fun _ _ _ h => h) (.inl ⟨by rfl, ?_⟩) hHeld ?_ ?_ ?_
      rotate_left
      ·rintro w' ⟨s0, s1, s2⟩
       go_simp
       with_reducible rfl
      rotate_left
      ·simp only [Q_]
       rfl
      refine p_ 4 54 ?_ #[t_,t_,t_,t_,t_,t_,t_,t_,f_,f_] rfl rfl HT_.out (by kernel_rfl) (fun _ _ _ h => h) (.inl ⟨by rfl, ?_⟩) ?_ ?_ ?_
      rotate_left
      ·intro w'
       go_simp
       with_reducible rfl
      rotate_left
      ·simp only [Q_]
       rfl
      refine one_ (i := 8) (N := some 58) #[t_,t_,t_,t_,t_,t_,t_,t_,t_,f_] rfl rfl (one_of HT_.out (by kernel_rfl)) (by decide) (fun K hK => ?_)
      refine goes_ Try.func83 (by kernel_rfl) rfl #[.agg #[.int .i64 a0_0, .slice A0_1 l0_1.length c0_1], .int .i64 ((rd_L1 l1 0).length : Int), .int .i64 a5, .int .i64 (l4.length : Int), .int .i64 x17_1] (by rfl) rfl rfl (by (try simp only [q4_, q5_, q6_]); first | done | rfl | (simp only [List.length_drop, List.length_take]; rfl)) ?_
      with_reducible refine (spec_l03Step.calls kj14 a0_0 _ _ l0_1 ((rd_L1 l1 0).length : Int) a5 (l4.length : Int) x17_1 t366 _ ?side1 ?side2 A24.out).mono ?_
      (case side1 => repeat (first | exact (Kd.C_below HR0_1.out HB.out) | (with_reducible refine Kd.C_alloc ?_ _) | (with_reducible refine Kd.C_drewN ?_ _) | (with_reducible refine Kd.C_drew ?_)))
      (case side2 => exact HC0_1.out)
      rintro e w38 ⟨rfl, hb⟩
      refine ⟨_, rfl, ?_⟩
      have n0_ := Aside0.mk (Kd.V_below (by (with_reducible repeat (first | apply Kd.V_alloc | apply Kd.V_drewN | apply Kd.V_drew)); exact HO_4.out) hb)
      have n1_ := Aside0.mk (Kd.N_below (by (with_reducible repeat (first | apply Kd.N_alloc | apply Kd.N_drewN | apply Kd.N_drew)); exact HO_16.out) hb)
      have n2_ := Aside0.mk (blk_below (g := gb357) (o := .cells #[.int .i64 a0_0, .slice A0_1 l0_1.length c0_1] 36 (0, 0)) (by (with_reducible repeat (first | apply bN_ | apply bD_ | apply bA_)); exact BK357.out) hb)
      have n3_ := Aside0.mk (below_step (by repeat (first | (with_reducible first | exact HB.out | apply lA_ | apply lN_ | apply lD_ | refine lS_ ?_ GE357.out) | exact HB.out)) hb)
      clear HO_4
      clear HO_16
      clear BK357
      clear HB
      have HO_4 := n0_
      have HO_16 := n1_
      have BK357 := n2_
      have HB := n3_
      clear n0_ n1_ n2_ n3_
      (try clear hb)
      (try clear hb2)
      (try clear hk)
      (try clear hi)
      refine hK.out _ _ ⟨(blk_cell BK357.out 0).trans rfl, (blk_cell BK357.out 1).trans rfl, ((HB.out.cell (World.block_lt_of_cell? w _ hw365_0)).trans hw365_0)⟩ (fun hHeld => ?_)
      clear hK K
      refine norm_ (a' := ?_) ?_ ?_
      rotate_left
      ·show Act.put _ (some 58) _ = _
       simp only [Q_]
       rfl
      refine p_ 9 18 ?_ #[t_,t_,t_,t_,t_,t_,t_,t_,t_,t_] rfl rfl HT_.out (by kernel_rfl) (fun _ _ _ h => h) (.inl ⟨by rfl, ?_⟩) ?_ ?_ ?_
      rotate_left
      ·intro w'
       go_simp
       with_reducible rfl
      rotate_left
      ·simp only [Q_]
       rfl
      refine done_ (done_of HT_.out (by kernel_rfl)) ?_
      have p367 : 0 ≤ ((ji25) : Int) := of_decide_eq_true (by first | (with_reducible assumption) | assumption)
      have q367 : (ji25) < (l3.length : Int) := of_decide_eq_true (by first | (with_reducible assumption) | assumption)
      obtain ⟨ad367, A367_0, c367_0, e367, hx367_0, hl367_0, hi367_0⟩ := at_L1 HR3.out (ji25) p367 q367
      cases e367
      replace hx367_0 := (HB.out.cell (World.block_lt_of_cell? w _ hx367_0)).trans hx367_0
      have HR367_0 := Aside0.mk hi367_0
      have HC367_0 := Aside0.mk hl367_0
      clear hi367_0 hl367_0
      replace p367 := eq_true p367
      replace q367 := eq_true q367
      have p368 : 0 ≤ (t366 : Int) := of_decide_eq_true (by first | (with_reducible assumption) | assumption)
      have q368 : t366 < ((rd_L1 l3 (ji25)).length : Int) := of_decide_eq_true (by first | (with_reducible assumption) | assumption)
      obtain ⟨ad368, e368, hx368_0⟩ := Kd.at_int HR367_0.out t366 p368 q368
      cases e368
      replace hx368_0 := (HB.out.cell (World.block_lt_of_cell? w _ hx368_0)).trans hx368_0
      replace p368 := eq_true p368
      replace q368 := eq_true q368
      obtain ⟨Ao39, co39, eo39⟩ := Kd.N_slice HO_16.out
      subst eo39
      try go_wp2
      have n0_ := Aside0.mk (Kd.V_drew HO_4.out)
      have n1_ := Aside0.mk (Kd.N_drew HO_16.out)
      have n2_ := Aside0.mk (blk_drew BK357.out)
      have n3_ := Aside0.mk (below_drew1 HB.out)
      clear HO_4
      clear HO_16
      clear BK357
      clear HB
      have HO_4 := n0_
      have HO_16 := n1_
      have BK357 := n2_
      have HB := n3_
      clear n0_ n1_ n2_ n3_
      refine start_ (n := 18) (S := fun w' => w'.cell? ⟨gb357, 0, none⟩ = some (.int .i64 a0_0) ∧ w'.cell? ⟨gb357, 1, none⟩ = some (.slice A0_1 l0_1.length c0_1)) (ds := []) #[f_,f_,f_,f_,f_,f_,f_,f_,f_,f_,f_,f_,f_,f_,f_,f_,f_,f_] (by kernel_rfl) rfl rfl ⟨(blk_cell BK357.out 0).trans rfl, (blk_cell BK357.out 1).trans rfl⟩ (fun hHeld => ?_); refine with_tabW spec_l03List.tab11 spec_l03List.bits11 (fun HT_ HW_ => ?_)
      generalize w38.drew = w40 at HO_4 HO_16 BK357 HB hHeld ⊢
      refine p_ 0 68 ?_ #[t_,f_,f_,f_,f_,f_,f_,f_,f_,f_,f_,f_,f_,f_,f_,f_,f_,f_] rfl rfl HT_.out (by kernel_rfl) (fun _ _ _ h => h) (.inl ⟨by rfl, ?_⟩) ?_ ?_ ?_
      rotate_left
      ·intro w'
       go_simp
       with_reducible rfl
      rotate_left
      ·simp only [Q_]
       rfl
      refine p_ 2 70 ?_ #[t_,f_,t_,f_,f_,f_,f_,f_,f_,f_,f_,f_,f_,f_,f_,f_,f_,f_] rfl rfl HT_.out (by kernel_rfl) (fun _ _ _ h => h) (.inl ⟨by rfl, ?_⟩) ?_ ?_ ?_
      rotate_left
      ·intro w'
       go_simp
       with_reducible rfl
      rotate_left
      ·simp only [Q_]
       rfl
      refine p_ 3 71 ?_ #[t_,f_,t_,t_,f_,f_,f_,f_,f_,f_,f_,f_,f_,f_,f_,f_,f_,f_] rfl rfl HT_.out (by kernel_rfl) (fun _ _ _ h => h) (.inl ⟨by rfl, ?_⟩) ?_ ?_ ?_
      rotate_left
      ·intro w'
       go_simp
       with_reducible rfl
      rotate_left
      ·simp only [Q_]
       rfl
      refine p_ 4 72 ?_ #[t_,f_,t_,t_,t_,f_,f_,f_,f_,f_,f_,f_,f_,f_,f_,f_,f_,f_] rfl rfl HT_.out (by kernel_rfl) (fun _ _ _ h => h) (.inl ⟨by rfl, ?_⟩) ?_ ?_ ?_
      rotate_left
      ·intro w'
       go_simp
       with_reducible rfl
      rotate_left
      ·simp only [Q_]
       rfl
      refine p_ 5 73 ?_ #[t_,f_,t_,t_,t_,t_,f_,f_,f_,f_,f_,f_,f_,f_,f_,f_,f_,f_] rfl rfl HT_.out (by kernel_rfl) (fun _ _ _ h => h) (.inl ⟨by rfl, ?_⟩) ?_ ?_ ?_
      rotate_left
      ·intro w'
       go_simp
       with_reducible rfl
      rotate_left
      ·simp only [Q_]
       rfl
      refine p_ 7 75 ?_ #[t_,f_,t_,t_,t_,t_,f_,t_,f_,f_,f_,f_,f_,f_,f_,f_,f_,f_] rfl rfl HT_.out (by kernel_rfl) (fun _ _ _ h => h) (.inl ⟨by rfl, ?_⟩) ?_ ?_ ?_
      rotate_left
      ·intro w'
       go_simp
       with_reducible rfl
      rotate_left
      ·simp only [Q_]
       rfl
      refine p_ 10 78 ?_ #[t_,f_,t_,t_,t_,t_,f_,t_,f_,f_,t_,f_,f_,f_,f_,f_,f_,f_] rfl rfl HT_.out (by kernel_rfl) (fun _ _ _ h => h) (.inl ⟨by rfl, ?_⟩) ?_ ?_ ?_
      rotate_left
      ·intro w'
       go_simp
       with_reducible rfl
      rotate_left
      ·simp only [Q_]
       rfl
      refine p_ 11 79 ?_ #[t_,f_,t_,t_,t_,t_,f_,t_,f_,f_,t_,t_,f_,f_,f_,f_,f_,f_] rfl rfl HT_.out (by kernel_rfl) (fun _ _ _ h => h) (.inl ⟨by rfl, ?_⟩) ?_ ?_ ?_
      rotate_left
      ·intro w'
       go_simp
       with_reducible rfl
      rotate_left
      ·simp only [Q_]
       rfl
      refine p_ 12 80 ?_ #[t_,f_,t_,t_,t_,t_,f_,t_,f_,f_,t_,t_,t_,f_,f_,f_,f_,f_] rfl rfl HT_.out (by kernel_rfl) (fun _ _ _ h => h) (.inl ⟨by rfl, ?_⟩) ?_ ?_ ?_
      rotate_left
      ·intro w'
       go_simp
       with_reducible rfl
      rotate_left
      ·simp only [Q_]
       rfl
      refine p_ 13 81 ?_ #[t_,f_,t_,t_,t_,t_,f_,t_,f_,f_,t_,t_,t_,t_,f_,f_,f_,f_] rfl rfl HT_.out (by kernel_rfl) (fun _ _ _ h => h) (.inl ⟨by rfl, ?_⟩) ?_ ?_ ?_
      rotate_left
      ·intro w'
       go_simp
       with_reducible rfl
      rotate_left
      ·simp only [Q_]
       rfl
      refine p_ 14 82 ?_ #[t_,f_,t_,t_,t_,t_,f_,t_,f_,f_,t_,t_,t_,t_,t_,f_,f_,f_] rfl rfl HT_.out (by kernel_rfl) (fun _ _ _ h => h) (.inl ⟨by rfl, ?_⟩) ?_ ?_ ?_
      rotate_left
      ·intro w'
       go_simp
       with_reducible rfl
      rotate_left
      ·simp only [Q_]
       rfl
      refine tk_ 1 69 ?_ #[t_,t_,t_,t_,t_,t_,f_,t_,f_,f_,t_,t_,t_,t_,t_,f_,f_,f_] rfl rfl (take_ofW HT_.out HW_.out (by kernel_rfl)) (fun _ _ _ h => h) (.inl ⟨by rfl, ?_⟩) hHeld ?_ ?_ ?_
      rotate_left
      ·rintro w' ⟨s0, s1⟩
       go_simp
       with_reducible rfl
      rotate_left
      ·simp only [Q_]
       rfl
      refine join_ (σ := Value × Value) 4 spec_l03List.z0 (fun s_ => [(74, s_.1), (76, s_.2)]) (fun s_ w' => (w'.cell? ⟨gb357, 0, none⟩ = some (.int .i64 a0_0) ∧ w'.cell? ⟨gb357, 1, none⟩ = some (.slice A0_1 l0_1.length c0_1)) ∧ (Kd.R (Kd.int .i64) 2 w' w.heap.size (fun k_ => (w.heap.size ≤ k_) ∧ some k_ ≠ (s_.2 : Value).ownBlock) s_.1 t369) ∧ (Kd.R (Kd.int .i64) 2 w' w.heap.size (fun k_ => (w.heap.size ≤ k_) ∧ some k_ ≠ (s_.1 : Value).ownBlock) s_.2 y372) ∧ (Kd.N (Kd.slice 2 (Kd.int .i64)) 56 w' w.heap.size (fun k_ => (P4_ k_ ∨ w.heap.size ≤ k_) ∧ some k_ ≠ (s_.1 : Value).ownBlock ∧ some k_ ≠ (s_.2 : Value).ownBlock ∧ k_ ≠ gb357) (.slice Ao39 x16_1.length co39) x16_1) ∧ (Kd.V (Kd.int .i64) 2 w' w.heap.size (fun k_ => (P4_ k_ ∨ w.heap.size ≤ k_) ∧ some k_ ≠ (s_.1 : Value).ownBlock ∧ some k_ ≠ (s_.2 : Value).ownBlock ∧ some k_ ≠ (.slice Ao39 x16_1.length co39 : Value).ownBlock ∧ k_ ≠ gb357) (.slice A4 l4.length c4) l4) ∧ (w'.heap[gb357]? = some (.cells #[.int .i64 a0_0, .slice A0_1 l0_1.length c0_1] 36 (0, 0))) ∧ (Below w.heap.size w w')) ?_ ?_
      rotate_left
      ·intro hCont
       refine two_ (i := 6) (j := 8) (Ni := some 74) (Nj := some 76) #[t_,t_,t_,t_,t_,t_,t_,t_,f_,f_,t_,t_,t_,t_,t_,f_,f_,f_] #[t_,t_,t_,t_,t_,t_,f_,t_,t_,f_,t_,t_,t_,t_,t_,f_,f_,f_] rfl rfl rfl rfl (two_of HT_.out (by kernel_rfl)) (by decide) (by decide) (fun K hK => ?_) (fun K hK => ?_)
       ·skip
        refine goes_ Try.func84 (by kernel_rfl) rfl #[.slice A4 l4.length c4] (by rfl) rfl rfl (by (try simp only [q4_, q5_, q6_]); first | done | rfl | (simp only [List.length_drop, List.length_take]; rfl)) ?_
        with_reducible refine (spec_l01Own.calls _ _ l4 t369 _ ?side1 ?side2 A31.out).mono ?_
        (case side1 => repeat (first | exact (Kd.V_reads' HO_4.out).2.2 | (with_reducible refine Kd.C_alloc ?_ _) | (with_reducible refine Kd.C_drewN ?_ _) | (with_reducible refine Kd.C_drew ?_)))
        (case side2 => exact (Kd.V_reads' HO_4.out).2.1)
        rintro e w41 ⟨v370, rfl, ho0, hb⟩
        refine ⟨_, rfl, ?_⟩
        have n0_ := Aside0.mk (Kd.V_elder' (by (with_reducible repeat (first | apply Kd.V_alloc | apply Kd.V_drewN | apply Kd.V_drew)); exact HO_4.out) (Kd.R_base ho0) hb)
        have n1_ := Aside0.mk (Kd.N_elder' (by (with_reducible repeat (first | apply Kd.N_alloc | apply Kd.N_drewN | apply Kd.N_drew)); exact HO_16.out) (Kd.R_base ho0) hb)
        have n2_ := Aside0.mk (Kd.R_lower (Kd.R_newM (M := fun k_ => (w.heap.size ≤ k_)) ho0 (below_size (by repeat (first | (with_reducible first | exact HB.out | apply lA_ | apply lN_ | apply lD_ | refine lS_ ?_ GE357.out) | exact HB.out))) (fun k_ h_ => h_)) (below_size (by repeat (first | (with_reducible first | exact HB.out | apply lA_ | apply lN_ | apply lD_ | refine lS_ ?_ GE357.out) | exact HB.out))))
        have n3_ := Aside0.mk (blk_below (g := gb357) (o := .cells #[.int .i64 a0_0, .slice A0_1 l0_1.length c0_1] 36 (0, 0)) (by (with_reducible repeat (first | apply bN_ | apply bD_ | apply bA_)); exact BK357.out) hb)
        have n4_ := Aside0.mk (below_step (by repeat (first | (with_reducible first | exact HB.out | apply lA_ | apply lN_ | apply lD_ | refine lS_ ?_ GE357.out) | exact HB.out)) hb)
        clear HO_4
        clear HO_16
        clear BK357
        clear HB
        have HO_4 := n0_
        have HO_16 := n1_
        have HO371 := n2_
        have BK357 := n3_
        have HB := n4_
        clear n0_ n1_ n2_ n3_ n4_
        (try clear hb)
        (try clear hb2)
        (try clear hk)
        (try clear hi)
        (try clear ho0)
        refine hK.out _ _ ⟨(blk_cell BK357.out 0).trans rfl, (blk_cell BK357.out 1).trans rfl⟩ (fun hHeld => ?_)
        clear hK K
        refine norm_ (a' := ?_) ?_ ?_
        rotate_left
        ·show Act.put _ (some 74) _ = _
         simp only [Q_]
         rfl
        refine one_ (i := 8) (N := some 76) spec_l03List.z0 rfl rfl (one_of HT_.out (by kernel_rfl)) (by decide) (fun K hK => ?_)
        refine Kd.R_lit_step (Kd.int .i64) _ 2 ?hg (N := 76) ?hd (xs := ([x17_1] : List Int)) (inner := [.int .i64 x17_1]) (ok := fun _ => True) (okp := fun _ => True) ?hr ?hp (fun _ hk => hk) trivial (Below.refl _ _) (Nat.le_refl _) (by simp) ?_; (case hd => rfl); (case hg => rfl); (case hr => first | (go_simp; done) | (go_simp; rfl)); (case hp => exact (Reps.one (show Kd.M (Kd.int .i64) _ _ _ x17_1 [.int .i64 x17_1] from rfl) (Reps.none _ _)))
        intro v373 w42 ho43 hb hg_ hnew_
        clear hg_ hnew_
        (first | rw [← Ny372.out] at ho43 | (simp only [Int.reduceToNat] at ho43; rw [← Ny372.out] at ho43))
        have n0_ := Aside0.mk (Kd.V_elder' (by (with_reducible repeat (first | apply Kd.V_alloc | apply Kd.V_drewN | apply Kd.V_drew)); exact HO_4.out) (Kd.R_base ho43) hb)
        have n1_ := Aside0.mk (Kd.N_elder' (by (with_reducible repeat (first | apply Kd.N_alloc | apply Kd.N_drewN | apply Kd.N_drew)); exact HO_16.out) (Kd.R_base ho43) hb)
        have n2_ := Aside0.mk (Kd.R_elder' (by (with_reducible repeat (first | apply Kd.R_alloc | apply Kd.R_drewN | apply Kd.R_drew)); exact HO371.out) (Kd.R_base ho43) hb)
        have n3_ := Aside0.mk (Kd.R_lower (Kd.R_new' (Kd.R_newM (M := fun k_ => (w.heap.size ≤ k_)) ho43 (below_size (by repeat (first | (with_reducible first | exact HB.out | apply lA_ | apply lN_ | apply lD_ | refine lS_ ?_ GE357.out) | exact HB.out))) (fun k_ h_ => h_)) (Kd.R_lt (by (with_reducible repeat (first | apply Kd.R_alloc | apply Kd.R_drewN | apply Kd.R_drew)); exact HO371.out))) (below_size (by repeat (first | (with_reducible first | exact HB.out | apply lA_ | apply lN_ | apply lD_ | refine lS_ ?_ GE357.out) | exact HB.out))))
        have n4_ := Aside0.mk (blk_below (g := gb357) (o := .cells #[.int .i64 a0_0, .slice A0_1 l0_1.length c0_1] 36 (0, 0)) (by (with_reducible repeat (first | apply bN_ | apply bD_ | apply bA_)); exact BK357.out) hb)
        have n5_ := Aside0.mk (below_step (by repeat (first | (with_reducible first | exact HB.out | apply lA_ | apply lN_ | apply lD_ | refine lS_ ?_ GE357.out) | exact HB.out)) hb)
        clear HO_4
        clear HO_16
        clear HO371
        clear BK357
        clear HB
        have HO_4 := n0_
        have HO_16 := n1_
        have HO371 := n2_
        have HO374 := n3_
        have BK357 := n4_
        have HB := n5_
        clear n0_ n1_ n2_ n3_ n4_ n5_
        clear hb ho43
        refine hK.out _ _ ⟨(blk_cell BK357.out 0).trans rfl, (blk_cell BK357.out 1).trans rfl⟩ (fun hHeld => ?_)
        clear hK K
        refine norm_ (a' := ?_) ?_ ?_
        rotate_left
        ·show Act.put _ (some 76) _ = _
         simp only [Q_]
         rfl
        exact norm_ (by simp only [putAll, Act.put, q1_, q2_, q3_]) (hCont (v370, v373) _ ⟨hHeld, (by (with_reducible repeat (first | apply Kd.R_alloc | apply Kd.R_drewN | apply Kd.R_drew)); exact Kd.R_mono HO371.out (fun _ hk => ⟨hk.1.1, hk.2⟩)), (by (with_reducible repeat (first | apply Kd.R_alloc | apply Kd.R_drewN | apply Kd.R_drew)); exact Kd.R_mono HO374.out (fun _ hk => ⟨hk.1.1, hk.2⟩)), (by (with_reducible repeat (first | apply Kd.N_alloc | apply Kd.N_drewN | apply Kd.N_drew)); exact Kd.N_mono HO_16.out (fun _ hk => ⟨hk.1.1.1, ⟨hk.1.2, ⟨hk.2, hk.1.1.2⟩⟩⟩)), (by (with_reducible repeat (first | apply Kd.V_alloc | apply Kd.V_drewN | apply Kd.V_drew)); exact Kd.V_mono HO_4.out (fun _ hk => ⟨hk.1.1.1, ⟨hk.1.2, ⟨hk.2, ⟨hk.1.1.2.1, hk.1.1.2.2⟩⟩⟩⟩)), (by (with_reducible repeat (first | apply bN_ | apply bD_ | apply bA_)); exact BK357.out), (by repeat (first | (with_reducible first | exact HB.out | apply lA_ | apply lN_ | apply lD_ | refine lS_ ?_ GE357.out) | exact HB.out))⟩)
       ·skip
        refine Kd.R_lit_step (Kd.int .i64) _ 2 ?hg (N := 76) ?hd (xs := ([x17_1] : List Int)) (inner := [.int .i64 x17_1]) (ok := fun _ => True) (okp := fun _ => True) ?hr ?hp (fun _ hk => hk) trivial (Below.refl _ _) (Nat.le_refl _) (by simp) ?_; (case hd => rfl); (case hg => rfl); (case hr => first | (go_simp; done) | (go_simp; rfl)); (case hp => exact (Reps.one (show Kd.M (Kd.int .i64) _ _ _ x17_1 [.int .i64 x17_1] from rfl) (Reps.none _ _)))
        intro v373 w41 ho42 hb hg_ hnew_
        clear hg_ hnew_
        (first | rw [← Ny372.out] at ho42 | (simp only [Int.reduceToNat] at ho42; rw [← Ny372.out] at ho42))
        have n0_ := Aside0.mk (Kd.V_elder' (by (with_reducible repeat (first | apply Kd.V_alloc | apply Kd.V_drewN | apply Kd.V_drew)); exact HO_4.out) (Kd.R_base ho42) hb)
        have n1_ := Aside0.mk (Kd.N_elder' (by (with_reducible repeat (first | apply Kd.N_alloc | apply Kd.N_drewN | apply Kd.N_drew)); exact HO_16.out) (Kd.R_base ho42) hb)
        have n2_ := Aside0.mk (Kd.R_lower (Kd.R_newM (M := fun k_ => (w.heap.size ≤ k_)) ho42 (below_size (by repeat (first | (with_reducible first | exact HB.out | apply lA_ | apply lN_ | apply lD_ | refine lS_ ?_ GE357.out) | exact HB.out))) (fun k_ h_ => h_)) (below_size (by repeat (first | (with_reducible first | exact HB.out | apply lA_ | apply lN_ | apply lD_ | refine lS_ ?_ GE357.out) | exact HB.out))))
        have n3_ := Aside0.mk (blk_below (g := gb357) (o := .cells #[.int .i64 a0_0, .slice A0_1 l0_1.length c0_1] 36 (0, 0)) (by (with_reducible repeat (first | apply bN_ | apply bD_ | apply bA_)); exact BK357.out) hb)
        have n4_ := Aside0.mk (below_step (by repeat (first | (with_reducible first | exact HB.out | apply lA_ | apply lN_ | apply lD_ | refine lS_ ?_ GE357.out) | exact HB.out)) hb)
        clear HO_4
        clear HO_16
        clear BK357
        clear HB
        have HO_4 := n0_
        have HO_16 := n1_
        have HO374 := n2_
        have BK357 := n3_
        have HB := n4_
        clear n0_ n1_ n2_ n3_ n4_
        clear hb ho42
        refine hK.out _ _ ⟨(blk_cell BK357.out 0).trans rfl, (blk_cell BK357.out 1).trans rfl⟩ (fun hHeld => ?_)
        clear hK K
        refine norm_ (a' := ?_) ?_ ?_
        rotate_left
        ·show Act.put _ (some 76) _ = _
         simp only [Q_]
         rfl
        refine one_ (i := 6) (N := some 74) spec_l03List.z0 rfl rfl (one_of HT_.out (by kernel_rfl)) (by decide) (fun K hK => ?_)
        refine goes_ Try.func84 (by kernel_rfl) rfl #[.slice A4 l4.length c4] (by rfl) rfl rfl (by (try simp only [q4_, q5_, q6_]); first | done | rfl | (simp only [List.length_drop, List.length_take]; rfl)) ?_
        with_reducible refine (spec_l01Own.calls _ _ l4 t369 _ ?side1 ?side2 A31.out).mono ?_
        (case side1 => repeat (first | exact (Kd.V_reads' HO_4.out).2.2 | (with_reducible refine Kd.C_alloc ?_ _) | (with_reducible refine Kd.C_drewN ?_ _) | (with_reducible refine Kd.C_drew ?_)))
        (case side2 => exact (Kd.V_reads' HO_4.out).2.1)
        rintro e w43 ⟨v370, rfl, ho0, hb⟩
        refine ⟨_, rfl, ?_⟩
        have n0_ := Aside0.mk (Kd.V_elder' (by (with_reducible repeat (first | apply Kd.V_alloc | apply Kd.V_drewN | apply Kd.V_drew)); exact HO_4.out) (Kd.R_base ho0) hb)
        have n1_ := Aside0.mk (Kd.N_elder' (by (with_reducible repeat (first | apply Kd.N_alloc | apply Kd.N_drewN | apply Kd.N_drew)); exact HO_16.out) (Kd.R_base ho0) hb)
        have n2_ := Aside0.mk (Kd.R_elder' (by (with_reducible repeat (first | apply Kd.R_alloc | apply Kd.R_drewN | apply Kd.R_drew)); exact HO374.out) (Kd.R_base ho0) hb)
        have n3_ := Aside0.mk (Kd.R_lower (Kd.R_new' (Kd.R_newM (M := fun k_ => (w.heap.size ≤ k_)) ho0 (below_size (by repeat (first | (with_reducible first | exact HB.out | apply lA_ | apply lN_ | apply lD_ | refine lS_ ?_ GE357.out) | exact HB.out))) (fun k_ h_ => h_)) (Kd.R_lt (by (with_reducible repeat (first | apply Kd.R_alloc | apply Kd.R_drewN | apply Kd.R_drew)); exact HO374.out))) (below_size (by repeat (first | (with_reducible first | exact HB.out | apply lA_ | apply lN_ | apply lD_ | refine lS_ ?_ GE357.out) | exact HB.out))))
        have n4_ := Aside0.mk (blk_below (g := gb357) (o := .cells #[.int .i64 a0_0, .slice A0_1 l0_1.length c0_1] 36 (0, 0)) (by (with_reducible repeat (first | apply bN_ | apply bD_ | apply bA_)); exact BK357.out) hb)
        have n5_ := Aside0.mk (below_step (by repeat (first | (with_reducible first | exact HB.out | apply lA_ | apply lN_ | apply lD_ | refine lS_ ?_ GE357.out) | exact HB.out)) hb)
        clear HO_4
        clear HO_16
        clear HO374
        clear BK357
        clear HB
        have HO_4 := n0_
        have HO_16 := n1_
        have HO374 := n2_
        have HO371 := n3_
        have BK357 := n4_
        have HB := n5_
        clear n0_ n1_ n2_ n3_ n4_ n5_
        (try clear hb)
        (try clear hb2)
        (try clear hk)
        (try clear hi)
        (try clear ho0)
        refine hK.out _ _ ⟨(blk_cell BK357.out 0).trans rfl, (blk_cell BK357.out 1).trans rfl⟩ (fun hHeld => ?_)
        clear hK K
        refine norm_ (a' := ?_) ?_ ?_
        rotate_left
        ·show Act.put _ (some 74) _ = _
         simp only [Q_]
         rfl
        exact norm_ (by simp only [putAll, Act.put, q1_, q2_, q3_]) (hCont (v370, v373) _ ⟨hHeld, (by (with_reducible repeat (first | apply Kd.R_alloc | apply Kd.R_drewN | apply Kd.R_drew)); exact Kd.R_mono HO371.out (fun _ hk => ⟨hk.1.1, hk.2⟩)), (by (with_reducible repeat (first | apply Kd.R_alloc | apply Kd.R_drewN | apply Kd.R_drew)); exact Kd.R_mono HO374.out (fun _ hk => ⟨hk.1.1, hk.2⟩)), (by (with_reducible repeat (first | apply Kd.N_alloc | apply Kd.N_drewN | apply Kd.N_drew)); exact Kd.N_mono HO_16.out (fun _ hk => ⟨hk.1.1.1, ⟨hk.2, ⟨hk.1.2, hk.1.1.2⟩⟩⟩)), (by (with_reducible repeat (first | apply Kd.V_alloc | apply Kd.V_drewN | apply Kd.V_drew)); exact Kd.V_mono HO_4.out (fun _ hk => ⟨hk.1.1.1, ⟨hk.2, ⟨hk.1.2, ⟨hk.1.1.2.1, hk.1.1.2.2⟩⟩⟩⟩)), (by (with_reducible repeat (first | apply bN_ | apply bD_ | apply bA_)); exact BK357.out), (by repeat (first | (with_reducible first | exact HB.out | apply lA_ | apply lN_ | apply lD_ | refine lS_ ?_ GE357.out) | exact HB.out))⟩)
      rintro ⟨v370, v373⟩ w44 ⟨hS_, h0_, h1_, h2_, h3_, h4_, h5_⟩
      have n0_ : Aside0 (Kd.R (Kd.int .i64) 2 w44 w.heap.size (fun k_ => (w.heap.size ≤ k_) ∧ some k_ ≠ (v373 : Value).ownBlock) v370 t369) := ⟨h0_⟩
      have n1_ : Aside0 (Kd.R (Kd.int .i64) 2 w44 w.heap.size (fun k_ => (w.heap.size ≤ k_) ∧ some k_ ≠ (v370 : Value).ownBlock) v373 y372) := ⟨h1_⟩
      have n2_ : Aside0 (Kd.N (Kd.slice 2 (Kd.int .i64)) 56 w44 w.heap.size (fun k_ => (P4_ k_ ∨ w.heap.size ≤ k_) ∧ some k_ ≠ (v370 : Value).ownBlock ∧ some k_ ≠ (v373 : Value).ownBlock ∧ k_ ≠ gb357) (.slice Ao39 x16_1.length co39) x16_1) := ⟨h2_⟩
      have n3_ : Aside0 (Kd.V (Kd.int .i64) 2 w44 w.heap.size (fun k_ => (P4_ k_ ∨ w.heap.size ≤ k_) ∧ some k_ ≠ (v370 : Value).ownBlock ∧ some k_ ≠ (v373 : Value).ownBlock ∧ some k_ ≠ (.slice Ao39 x16_1.length co39 : Value).ownBlock ∧ k_ ≠ gb357) (.slice A4 l4.length c4) l4) := ⟨h3_⟩
      have n4_ : Aside0 (w44.heap[gb357]? = some (.cells #[.int .i64 a0_0, .slice A0_1 l0_1.length c0_1] 36 (0, 0))) := ⟨h4_⟩
      have n5_ : Aside0 (Below w.heap.size w w44) := ⟨h5_⟩
      clear HO_4
      clear HO_16
      clear BK357
      clear HB
      clear h0_ h1_ h2_ h3_ h4_ h5_
      have HO371 := n0_
      have HO374 := n1_
      have HO_16 := n2_
      have HO_4 := n3_
      have BK357 := n4_
      have HB := n5_
      clear n0_ n1_ n2_ n3_ n4_ n5_
      have hHeld : w44.cell? ⟨gb357, 0, none⟩ = some (.int .i64 a0_0) ∧ w44.cell? ⟨gb357, 1, none⟩ = some (.slice A0_1 l0_1.length c0_1) := hS_
      obtain ⟨Ao46, co46, eo46⟩ := Kd.R_slice HO374.out
      (first | subst eo46 | (injection eo46 with f1_ f2_ f3_; have f4_ := f1_.symm; have f5_ := f3_.symm; clear f1_ f2_ f3_; subst f4_; subst f5_))
      refine norm_ (a' := ?_) ?_ ?_
      rotate_left
      ·simp only [putAll, Act.put, q1_, q2_, q3_]
       rfl
      refine one_ (i := 9) (N := some 77) #[t_,t_,t_,t_,t_,t_,t_,t_,t_,t_,t_,t_,t_,t_,t_,f_,f_,f_] rfl rfl (one_of HT_.out (by kernel_rfl)) (by decide) (fun K hK => ?_)
      refine Kd.R_append_rows_step (Kd.int .i64) (w0 := w) w.heap.size (by rfl) (.tmp 74) (.tmp 76) 56 2 (.int .i64 0) 8 rfl Try.underlying56 info2 rfl (by decide) (by omega) v370 t369 y372 _ _ _ (fun k_ => (w.heap.size ≤ k_) ∧ some k_ ≠ (.slice Ao46 y372.length co46 : Value).ownBlock) (fun _ => False) rfl rfl ?aO ?aR (fun _ _ h => h) (fun _ h => h.elim) ?aF ?aB ?aS ?aL ?_
      (case aR => repeat (first | exact (Kd.R_reads' HO374.out).2.2 | (with_reducible refine Kd.C_alloc ?_ _) | (with_reducible refine Kd.C_drewN ?_ _) | (with_reducible refine Kd.C_drew ?_)))
      (case aB => exact (by repeat (first | (with_reducible first | exact HB.out | apply lA_ | apply lN_ | apply lD_ | refine lS_ ?_ GE357.out) | exact HB.out)))
      (case aF => exact (fun k_ hk => ⟨(Nat.le_trans (below_size (by repeat (first | (with_reducible first | exact HB.out | apply lA_ | apply lN_ | apply lD_ | refine lS_ ?_ GE357.out) | exact HB.out))) hk), Kd.fresh' (Kd.R_lt (by (with_reducible repeat (first | apply Kd.R_alloc | apply Kd.R_drewN | apply Kd.R_drew)); exact HO374.out)) k_ hk⟩))
      (case aO => exact (by (with_reducible repeat (first | apply Kd.R_alloc | apply Kd.R_drewN | apply Kd.R_drew)); exact HO371.out))
      (case aS => exact (below_size (by repeat (first | (with_reducible first | exact HB.out | apply lA_ | apply lN_ | apply lD_ | refine lS_ ?_ GE357.out) | exact HB.out))))
      (case aL => have := LMc32.out; omega)
      intro v376 w45 ho hb hg hat
      rw [← Ny375.out] at ho
      have n0_ := Aside0.mk (Kd.V_afterv (ok := (fun k_ => (P4_ k_ ∨ w.heap.size ≤ k_) ∧ some k_ ≠ (.slice Ao39 x16_1.length co39 : Value).ownBlock ∧ some k_ ≠ (.slice Ao46 y372.length co46 : Value).ownBlock ∧ k_ ≠ gb357)) (by (with_reducible repeat (first | apply Kd.V_alloc | apply Kd.V_drewN | apply Kd.V_drew)); exact Kd.V_mono HO_4.out (fun _ hk => ⟨⟨hk.1, ⟨hk.2.2.2.1, ⟨hk.2.2.1, hk.2.2.2.2⟩⟩⟩, hk.2.1⟩)) hg hat)
      have n1_ := Aside0.mk (Kd.N_afterv (ok := (fun k_ => (P4_ k_ ∨ w.heap.size ≤ k_) ∧ some k_ ≠ (.slice Ao46 y372.length co46 : Value).ownBlock ∧ k_ ≠ gb357)) (by (with_reducible repeat (first | apply Kd.N_alloc | apply Kd.N_drewN | apply Kd.N_drew)); exact Kd.N_mono HO_16.out (fun _ hk => ⟨⟨hk.1, ⟨hk.2.2.1, hk.2.2.2⟩⟩, hk.2.1⟩)) hg hat)
      have n2_ := Aside0.mk (blk_grown (g := gb357) (o := .cells #[.int .i64 a0_0, .slice A0_1 l0_1.length c0_1] 36 (0, 0)) (by (with_reducible repeat (first | apply bN_ | apply bD_ | apply bA_)); exact BK357.out) hg (Kd.R_ne HO371.out BK357.out (by decide)))
      have n3_ := Aside0.mk (Kd.R_after (ok := (fun k_ => (w.heap.size ≤ k_))) (by (with_reducible repeat (first | apply Kd.R_alloc | apply Kd.R_drewN | apply Kd.R_drew)); exact HO374.out) hg hat)
      have n4_ := Aside0.mk (hb)
      have n5_ := Aside0.mk (ho)
      clear HO_4
      clear HO_16
      clear BK357
      clear HO374
      clear HB
      clear HO371
      have HO_4 := n0_
      have HO_16 := n1_
      have BK357 := n2_
      have HO374 := n3_
      have HB := n4_
      have HO377 := n5_
      clear n0_ n1_ n2_ n3_ n4_ n5_
      clear ho hb hg hat
      obtain ⟨Ao47, co47, eo47⟩ := Kd.R_slice HO377.out
      (first | subst eo47 | (injection eo47 with f1_ f2_ f3_; have f4_ := f1_.symm; have f5_ := f3_.symm; clear f1_ f2_ f3_; subst f4_; subst f5_))
      refine hK.out _ _ ⟨(blk_cell BK357.out 0).trans rfl, (blk_cell BK357.out 1).trans rfl⟩ (fun hHeld => ?_)
      clear hK K
      refine norm_ (a' := ?_) ?_ ?_
      rotate_left
      ·show Act.put _ (some 77) _ = _
       simp only [Q_]
       rfl
      refine one_ (i := 15) (N := some 83) #[t_,t_,t_,t_,t_,t_,t_,t_,t_,t_,t_,t_,t_,t_,t_,t_,f_,f_] rfl rfl (one_of HT_.out (by kernel_rfl)) (by decide) (fun K hK => ?_)
      refine goes_ Try.func61 (by kernel_rfl) rfl #[.agg #[.int .i64 a0_0, .slice A0_1 l0_1.length c0_1], .slice (some ad365) l1.length c1, .slice A2 l2.length c2, .slice (some ad367) l3.length c3, .slice Ao47 y375.length co47, .int .i64 t366, .int .i64 (wrap64 (a6 - (x16_1.length : Int)))] (by rfl) rfl rfl (by (try simp only [q4_, q5_, q6_]); first | done | rfl | (simp only [List.length_drop, List.length_take]; rfl)) ?_
      with_reducible refine (ih kj14 (by have := HK1.out; have := HJ14.out; omega) a0_0 _ _ l0_1 _ _ l1 _ _ l2 _ _ l3 (fun k_ => some k_ = (.slice Ao47 y375.length co47 : Value).ownBlock) _ _ y375 t366 (wrap64 (a6 - (x16_1.length : Int))) t378 _ ?side1 ?side2 ?side3 ?side4 ?side5 ?side6 ?side7 ?side8 ?side9 A33.out).mono ?_
      (case side1 => repeat (first | exact (Kd.C_below HR0_1.out HB.out) | (with_reducible refine Kd.C_alloc ?_ _) | (with_reducible refine Kd.C_drewN ?_ _) | (with_reducible refine Kd.C_drew ?_)))
      (case side2 => exact HC0_1.out)
      (case side3 => repeat (first | exact (Kd.C_below HR1.out HB.out) | (with_reducible refine Kd.C_alloc ?_ _) | (with_reducible refine Kd.C_drewN ?_ _) | (with_reducible refine Kd.C_drew ?_)))
      (case side4 => exact HC1.out)
      (case side5 => repeat (first | exact (Kd.C_below HR2.out HB.out) | (with_reducible refine Kd.C_alloc ?_ _) | (with_reducible refine Kd.C_drewN ?_ _) | (with_reducible refine Kd.C_drew ?_)))
      (case side6 => exact HC2.out)
      (case side7 => repeat (first | exact (Kd.C_below HR3.out HB.out) | (with_reducible refine Kd.C_alloc ?_ _) | (with_reducible refine Kd.C_drewN ?_ _) | (with_reducible refine Kd.C_drew ?_)))
      (case side8 => exact HC3.out)
      (case side9 => exact Kd.R_V (Kd.R_tight rfl (Kd.R_types (Kd.R_apart' (HO377.out) (Kd.N_typed HO_16.out) (by decide)) BK357.out (by decide))))
      rintro e w48 ⟨v379, rfl, ho0, hb⟩
      refine ⟨_, rfl, ?_⟩
      have n0_ := Aside0.mk (Kd.V_elder' (by (with_reducible repeat (first | apply Kd.V_alloc | apply Kd.V_drewN | apply Kd.V_drew)); exact HO_4.out) (Kd.N_base ho0) hb)
      have n1_ := Aside0.mk (Kd.N_elder' (by (with_reducible repeat (first | apply Kd.N_alloc | apply Kd.N_drewN | apply Kd.N_drew)); exact HO_16.out) (Kd.N_base ho0) hb)
      have n2_ := Aside0.mk (Kd.R_below (by (with_reducible repeat (first | apply Kd.R_alloc | apply Kd.R_drewN | apply Kd.R_drew)); exact HO374.out) hb)
      have n3_ := Aside0.mk (Kd.R_below (by (with_reducible repeat (first | apply Kd.R_alloc | apply Kd.R_drewN | apply Kd.R_drew)); exact HO377.out) hb)
      have n4_ := Aside0.mk (Kd.N_lower (Kd.N_mono (ok' := fun k_ => (P4_ k_ ∨ w.heap.size ≤ k_) ∧ some k_ ≠ (.slice Ao39 x16_1.length co39 : Value).ownBlock ∧ some k_ ≠ (.slice Ao46 y372.length co46 : Value).ownBlock ∧ k_ ≠ gb357) ho0 (fun k_ hk_ => ⟨Or.elim hk_ (fun hs_ => (.inr (((Kd.R_types (Kd.R_apart' (HO377.out) (Kd.N_typed HO_16.out) (by decide)) BK357.out (by decide)).1 k_ hs_.symm).1.1.1))) (fun hn_ => (.inr (Nat.le_trans (below_size (by repeat (first | (with_reducible first | exact HB.out | apply lA_ | apply lN_ | apply lD_ | refine lS_ ?_ GE357.out) | exact HB.out))) hn_))), Or.elim hk_ (fun hs_ => ((Kd.R_types (Kd.R_apart' (HO377.out) (Kd.N_typed HO_16.out) (by decide)) BK357.out (by decide)).1 k_ hs_.symm).1.2) (fun hn_ => (Kd.fresh' (Kd.N_lt (by (with_reducible repeat (first | apply Kd.N_alloc | apply Kd.N_drewN | apply Kd.N_drew)); exact HO_16.out)) k_ hn_)), Or.elim hk_ (fun hs_ => ((Kd.R_types (Kd.R_apart' (HO377.out) (Kd.N_typed HO_16.out) (by decide)) BK357.out (by decide)).1 k_ hs_.symm).1.1.2) (fun hn_ => (Kd.fresh' (Kd.R_lt (by (with_reducible repeat (first | apply Kd.R_alloc | apply Kd.R_drewN | apply Kd.R_drew)); exact HO374.out)) k_ hn_)), Or.elim hk_ (fun hs_ => ((Kd.R_types (Kd.R_apart' (HO377.out) (Kd.N_typed HO_16.out) (by decide)) BK357.out (by decide)).1 k_ hs_.symm).2) (fun hn_ => (Kd.freshB (g := gb357) (o := .cells #[.int .i64 a0_0, .slice A0_1 l0_1.length c0_1] 36 (0, 0)) (by (with_reducible repeat (first | apply bN_ | apply bD_ | apply bA_)); exact BK357.out) k_ hn_))⟩)) (below_size (by repeat (first | (with_reducible first | exact HB.out | apply lA_ | apply lN_ | apply lD_ | refine lS_ ?_ GE357.out) | exact HB.out))))
      have n5_ := Aside0.mk (blk_below (g := gb357) (o := .cells #[.int .i64 a0_0, .slice A0_1 l0_1.length c0_1] 36 (0, 0)) (by (with_reducible repeat (first | apply bN_ | apply bD_ | apply bA_)); exact BK357.out) hb)
      have n6_ := Aside0.mk (below_step (by repeat (first | (with_reducible first | exact HB.out | apply lA_ | apply lN_ | apply lD_ | refine lS_ ?_ GE357.out) | exact HB.out)) hb)
      clear HO_4
      clear HO_16
      clear HO374
      clear HO377
      clear BK357
      clear HB
      have HO_4 := n0_
      have HO_16 := n1_
      have HO374 := n2_
      have HO377 := n3_
      have HO380 := n4_
      have BK357 := n5_
      have HB := n6_
      clear n0_ n1_ n2_ n3_ n4_ n5_ n6_
      (try clear hb)
      (try clear hb2)
      (try clear hk)
      (try clear hi)
      (try clear ho0)
      obtain ⟨Ao50, co50, eo50⟩ := Kd.N_slice HO380.out
      (first | subst eo50 | (injection eo50 with f1_ f2_ f3_; have f4_ := f1_.symm; have f5_ := f3_.symm; clear f1_ f2_ f3_; subst f4_; subst f5_))
      refine hK.out _ _ ⟨(blk_cell BK357.out 0).trans rfl, (blk_cell BK357.out 1).trans rfl⟩ (fun hHeld => ?_)
      clear hK K
      refine norm_ (a' := ?_) ?_ ?_
      rotate_left
      ·show Act.put _ (some 83) _ = _
       simp only [Q_]
       rfl
      refine one_ (i := 16) (N := some 84) #[t_,t_,t_,t_,t_,t_,t_,t_,t_,t_,t_,t_,t_,t_,t_,t_,t_,f_] rfl rfl (one_of HT_.out (by kernel_rfl)) (by decide) (fun K hK => ?_)
      refine Kd.N_append_rows_step (Kd.slice 2 (Kd.int .i64)) (w0 := w) w.heap.size (by rfl) (.tmp 68) (.tmp 83) 22 56 (.slice none 0 0) 24 rfl Try.underlying22 info56 rfl (by decide) (by omega) (.slice Ao39 x16_1.length co39) x16_1 t378 _ _ _ (fun k_ => (P4_ k_ ∨ w.heap.size ≤ k_) ∧ some k_ ≠ (.slice Ao46 y372.length co46 : Value).ownBlock ∧ k_ ≠ gb357) (fun k_ => ((fun k_ => (P4_ k_ ∨ w.heap.size ≤ k_) ∧ some k_ ≠ (.slice Ao46 y372.length co46 : Value).ownBlock ∧ k_ ≠ gb357)) k_ ∧ some k_ ≠ (.slice Ao39 x16_1.length co39 : Value).ownBlock) rfl rfl ?aO ?aR (fun _ hk => hk) ?aF ?aB ?aS ?aL ?_
      (case aR => exact (by skip; exact Kd.N_F (Kd.N_mono (ok' := (fun k_ => ((fun k_ => (P4_ k_ ∨ w.heap.size ≤ k_) ∧ some k_ ≠ (.slice Ao46 y372.length co46 : Value).ownBlock ∧ k_ ≠ gb357)) k_ ∧ some k_ ≠ (.slice Ao39 x16_1.length co39 : Value).ownBlock)) (HO380.out) (fun k_ hk => ⟨⟨hk.1, ⟨hk.2.2.1, hk.2.2.2⟩⟩, hk.2.1⟩))))
      (case aB => exact (by repeat (first | (with_reducible first | exact HB.out | apply lA_ | apply lN_ | apply lD_ | refine lS_ ?_ GE357.out) | exact HB.out)))
      (case aF => exact (fun k_ hk => ⟨(.inr (Nat.le_trans (below_size (by repeat (first | (with_reducible first | exact HB.out | apply lA_ | apply lN_ | apply lD_ | refine lS_ ?_ GE357.out) | exact HB.out))) hk)), Kd.fresh' (Kd.R_lt (by (with_reducible repeat (first | apply Kd.R_alloc | apply Kd.R_drewN | apply Kd.R_drew)); exact HO374.out)) k_ hk, Kd.freshB (g := gb357) (o := .cells #[.int .i64 a0_0, .slice A0_1 l0_1.length c0_1] 36 (0, 0)) (by (with_reducible repeat (first | apply bN_ | apply bD_ | apply bA_)); exact BK357.out) k_ hk⟩))
      (case aO => exact (by (with_reducible repeat (first | apply Kd.N_alloc | apply Kd.N_drewN | apply Kd.N_drew)); exact Kd.N_mono HO_16.out (fun _ hk => ⟨hk.1.1.1, ⟨hk.1.1.2.1, hk.1.1.2.2⟩⟩)))
      (case aS => exact (below_size (by repeat (first | (with_reducible first | exact HB.out | apply lA_ | apply lN_ | apply lD_ | refine lS_ ?_ GE357.out) | exact HB.out))))
      (case aL => have := LMc34.out; omega)
      intro v382 w49 ho hb hg hat
      rw [← Ny381.out] at ho
      have n0_ := Aside0.mk (Kd.V_afterv (ok := (fun k_ => (P4_ k_ ∨ w.heap.size ≤ k_) ∧ some k_ ≠ (.slice Ao46 y372.length co46 : Value).ownBlock ∧ some k_ ≠ (.slice Ao47 y375.length co47 : Value).ownBlock ∧ some k_ ≠ (.slice Ao50 t378.length co50 : Value).ownBlock ∧ k_ ≠ gb357)) (by (with_reducible repeat (first | apply Kd.V_alloc | apply Kd.V_drewN | apply Kd.V_drew)); exact Kd.V_mono HO_4.out (fun _ hk => ⟨⟨hk.1.1.1, ⟨hk.1.1.2.2.1, ⟨hk.1.2, ⟨hk.2, hk.1.1.2.2.2⟩⟩⟩⟩, hk.1.1.2.1⟩)) hg hat)
      have n1_ := Aside0.mk (blk_grown (g := gb357) (o := .cells #[.int .i64 a0_0, .slice A0_1 l0_1.length c0_1] 36 (0, 0)) (by (with_reducible repeat (first | apply bN_ | apply bD_ | apply bA_)); exact BK357.out) hg (Kd.N_ne HO_16.out BK357.out (by decide)))
      have n2_ := Aside0.mk (Kd.R_over' (by (with_reducible repeat (first | apply Kd.R_alloc | apply Kd.R_drewN | apply Kd.R_drew)); exact HO374.out) (Kd.N_typed (by (with_reducible repeat (first | apply Kd.N_alloc | apply Kd.N_drewN | apply Kd.N_drew)); exact HO_16.out)) (by decide) hg)
      have n3_ := Aside0.mk (Kd.R_over' (by (with_reducible repeat (first | apply Kd.R_alloc | apply Kd.R_drewN | apply Kd.R_drew)); exact HO377.out) (Kd.N_typed (by (with_reducible repeat (first | apply Kd.N_alloc | apply Kd.N_drewN | apply Kd.N_drew)); exact HO_16.out)) (by decide) hg)
      have n4_ := Aside0.mk (Kd.N_afterv (ok := (fun k_ => (P4_ k_ ∨ w.heap.size ≤ k_) ∧ some k_ ≠ (.slice Ao46 y372.length co46 : Value).ownBlock ∧ k_ ≠ gb357)) (by (with_reducible repeat (first | apply Kd.N_alloc | apply Kd.N_drewN | apply Kd.N_drew)); exact Kd.N_mono HO380.out (fun _ hk => ⟨⟨hk.1, ⟨hk.2.2.1, hk.2.2.2⟩⟩, hk.2.1⟩)) hg hat)
      have n5_ := Aside0.mk (hb)
      have n6_ := Aside0.mk (ho)
      clear HO_4
      clear BK357
      clear HO374
      clear HO377
      clear HO380
      clear HB
      clear HO_16
      have HO_4 := n0_
      have BK357 := n1_
      have HO374 := n2_
      have HO377 := n3_
      have HO380 := n4_
      have HB := n5_
      have HO383 := n6_
      clear n0_ n1_ n2_ n3_ n4_ n5_ n6_
      clear ho hb hg hat
      refine hK.out _ _ ⟨(blk_cell BK357.out 0).trans rfl, (blk_cell BK357.out 1).trans rfl⟩ (fun hHeld => ?_)
      clear hK K
      refine norm_ (a' := ?_) ?_ ?_
      rotate_left
      ·show Act.put _ (some 84) _ = _
       simp only [Q_]
       rfl
      refine p_ 17 16 ?_ #[t_,t_,t_,t_,t_,t_,t_,t_,t_,t_,t_,t_,t_,t_,t_,t_,t_,t_] rfl rfl HT_.out (by kernel_rfl) (fun _ _ _ h => h) (.inl ⟨by rfl, ?_⟩) ?_ ?_ ?_
      rotate_left
      ·intro w'
       go_simp
       with_reducible rfl
      rotate_left
      ·simp only [Q_]
       rfl
      refine done_ (done_of HT_.out (by kernel_rfl)) ?_
      try go_wp2
      go_roundg kj14
      case measure => have := HK1.out; have := HJ14.out; omega
      case rel => exact ⟨(y381), (wrap64 (x17_1 + 1)), (by first | rfl | (simp; done) | (simp [*]; done) | (simp; decide +kernel)), H', ⟨by have := HK1.out; have := HJ14.out; omega⟩, ⟨by (with_reducible repeat (first | apply Kd.V_alloc | apply Kd.V_drewN | apply Kd.V_drew)); exact Kd.V_mono HO_4.out (fun _ hk => ⟨hk.1.1, ⟨hk.2, hk.1.2.2.2.2⟩⟩)⟩, ⟨by (with_reducible repeat (first | apply Kd.N_alloc | apply Kd.N_drewN | apply Kd.N_drew)); exact Kd.N_mono HO383.out (fun _ hk => ⟨hk.1, hk.2.2⟩)⟩, ⟨by (with_reducible repeat (first | apply bN_ | apply bD_ | apply bA_)); exact BK357.out⟩, ⟨by repeat (first | (with_reducible first | exact HB.out | apply lA_ | apply lN_ | apply lD_ | refine lS_ ?_ GE357.out) | exact HB.out)⟩⟩
 rw [if_pos c8] at H
 have c8b0 : ((l4.length : Int) == (wrap64 ((l3.length : Int) - 1))) = true := beq_iff_eq.mpr c8
 have c8b1 : ((l4.length : Int) != (wrap64 ((l3.length : Int) - 1))) = false := bne_eq_false_iff_eq.mpr c8
 clear c8
 obtain ⟨y358, hy358⟩ : ∃ y_ : List (List Int), y_ = (([l4] : List (List Int))) := ⟨_, rfl⟩
 replace H : (some y358) = some r := by first | (rw [hy358]; with_reducible exact H) | (have H2_ := (Option.bind_some _ _).symm.trans H; rw [hy358]; with_reducible exact H2_) | (have H2_ := (Option.bind_some _ _).symm.trans H; with_reducible exact H2_) | with_reducible exact H | (rw [hy358]; exact H) | exact H
 have Ny358 := Aside0.mk hy358
 clear hy358
 obtain rfl := Option.some.inj H
 go_enter Try.func61, Try.ntmps61
 go_wp2_with (first | ((with_reducible refine gate_dst (N := 7) rfl ?_); (try (refine gate_guard (by rfl) ?_; dsimp only)); refine box_event ?hg (N := 7) ?hd (cs := #[.int .i64 a0_0, .slice A0_1 l0_1.length c0_1]) (t := 36) ?hr ?_; (case hd => rfl); (case hg => rfl); (case hr => first | (go_simp; done) | (go_simp; rfl)); intro gb357 hg w9 hbox hb; have n0_ := Aside0.mk (Kd.V_below (Kd.V_elderB (by (with_reducible repeat (first | apply Kd.V_alloc | apply Kd.V_drewN | apply Kd.V_drew)); exact HO4.out) gb357 (Nat.le_of_eq hg.symm)) hb); have n1_ := Aside0.mk (below_step (by repeat (first | (with_reducible first | exact HB.out | apply lA_ | apply lN_ | apply lD_) | exact HB.out)) hb); have n2_ := Aside0.mk (hbox); have n3_ := Aside0.mk ((by rw [hg]; exact (below_size (by repeat (first | (with_reducible first | exact HB.out | apply lA_ | apply lN_ | apply lD_) | exact HB.out))) : w.heap.size ≤ gb357)); have n4_ := Aside0.mk ((by rw [hg]; exact (below_size (by repeat (first | (with_reducible first | exact HB.out | apply lA_ | apply lN_ | apply lD_) | exact HB.out))) : w.heap.size ≤ gb357)); clear HO4; clear HB; have HO4 := n0_; have HB := n1_; have BK357 := n2_; have GW357 := n3_; have GE357 := n4_; clear n0_ n1_ n2_ n3_ n4_; clear hb hbox hg) | ((with_reducible refine gate_dst (N := 27) rfl ?_); (try (refine gate_guard (by rfl) ?_; dsimp only)); refine Kd.N_lit (Kd.slice 2 (Kd.int .i64)) _ 56 ?hg (N' := 27) ?hd (xs := ([l4] : List (List Int))) (inner := [.slice A4 l4.length c4]) (ok := (fun k_ => (P4_ k_ ∨ w.heap.size ≤ k_) ∧ k_ ≠ gb357)) (okp := (fun k_ => (P4_ k_ ∨ w.heap.size ≤ k_) ∧ k_ ≠ gb357)) ?hr ?hp (fun _ hk => hk) ((show ∀ k_, w9.heap.size ≤ k_ → (fun k_ => (P4_ k_ ∨ w.heap.size ≤ k_) ∧ k_ ≠ gb357) k_ from fun k_ hk => ⟨(.inr (Nat.le_trans (below_size (by repeat (first | (with_reducible first | exact HB.out | apply lA_ | apply lN_ | apply lD_ | refine lS_ ?_ GE357.out) | exact HB.out))) hk)), Kd.freshB (g := gb357) (o := .cells #[.int .i64 a0_0, .slice A0_1 l0_1.length c0_1] 36 (0, 0)) (by (with_reducible repeat (first | apply bN_ | apply bD_ | apply bA_)); exact BK357.out) k_ hk⟩) _ (Nat.le_refl _)) (Below.refl _ _) (Nat.le_refl _) (by simp) ?_; (case hd => rfl); (case hg => rfl); (case hr => first | (go_simp; done) | (go_simp; rfl)); (case hp => exact (Reps.one (show Kd.FK (Kd.slice 2 (Kd.int .i64)) _ _ l4 [.slice A4 l4.length c4] from (Kd.FK_slice_mk (Kd.V_reads' (Kd.V_mono (ok' := (fun k_ => (P4_ k_ ∨ w.heap.size ≤ k_) ∧ k_ ≠ gb357)) (HO4.out) (fun k_ hk => ⟨hk.1, hk.2⟩))).2.1 (Kd.V_F (Kd.V_mono (ok' := (fun k_ => (P4_ k_ ∨ w.heap.size ≤ k_) ∧ k_ ≠ gb357)) (HO4.out) (fun k_ hk => ⟨hk.1, hk.2⟩))))) (Reps.none _ _))); intro v359 w10 ho11 hb hg_ hnew_; clear hg_ hnew_; (first | rw [← Ny358.out] at ho11 | (simp only [Int.reduceToNat] at ho11; rw [← Ny358.out] at ho11)); have n0_ := Aside0.mk (Kd.V_elder' (by (with_reducible repeat (first | apply Kd.V_alloc | apply Kd.V_drewN | apply Kd.V_drew)); exact HO4.out) (Kd.N_base ho11) hb); have n1_ := Aside0.mk (Kd.N_lower ho11 (below_size (by repeat (first | (with_reducible first | exact HB.out | apply lA_ | apply lN_ | apply lD_ | refine lS_ ?_ GE357.out) | exact HB.out)))); have n2_ := Aside0.mk (blk_below (g := gb357) (o := .cells #[.int .i64 a0_0, .slice A0_1 l0_1.length c0_1] 36 (0, 0)) (by (with_reducible repeat (first | apply bN_ | apply bD_ | apply bA_)); exact BK357.out) hb); have n3_ := Aside0.mk (below_step (by repeat (first | (with_reducible first | exact HB.out | apply lA_ | apply lN_ | apply lD_ | refine lS_ ?_ GE357.out) | exact HB.out)) hb); clear HO4; clear BK357; clear HB; have HO4 := n0_; have HO360 := n1_; have BK357 := n2_; have HB := n3_; clear n0_ n1_ n2_ n3_; clear hb ho11))
 go_ret
 exact ⟨_, by first | rfl | (simp [errW_none, errW_some] <;> rfl) | (simp [*, errW_none, errW_some] <;> rfl), by (with_reducible repeat (first | apply Kd.N_alloc | apply Kd.N_drewN | apply Kd.N_drew)); exact Kd.N_mono HO360.out (fun _ hk => hk.1), by repeat (first | (with_reducible first | exact HB.out | apply lA_ | apply lN_ | apply lD_ | refine lS_ ?_ GE357.out) | exact HB.out)⟩
end Go.Proofs.Ytcaikaflpmaocaa.Q
namespace Go.Proofs.Ytcaikaflpmaocaa
open Go Go.RowKit Go.Proofs Go.Proofs.YtcaikaflpmaocaaW.PrintWords Go.Proofs.YtcaikaflpmaocaaW.PrintMore Go.Proofs.Ytcaikaflpmaocaa.Q
set_option linter.unusedVariables false
set_option linter.unusedSimpArgs false
theorem dig_high {c w s : Nat} (hc : 0 < c) (hs : s < c ^ (w + 1)) : dig c s w = s / c ^ w := by
 unfold dig
 exact Nat.mod_eq_of_lt ((Nat.div_lt_iff_lt_mul (Nat.pow_pos hc)).2 (by rw [Nat.mul_comm, ← Nat.pow_succ]; exact hs))
theorem can_step {c : Nat} {plan bs : List (List Int)} {l : List STile} {p s i : Nat} (hc : 0 < c) (hsh : Shape plan bs) (hs : s < size c plan) (hi : i < l.length) : canB c plan bs (l.map toT) p s i = (stepS c plan bs l p s i).isSome := by
 have htk : tk (l.map toT) i = toT l[i] := by simp [tk, List.getD_eq_getElem?_getD, List.getElem?_eq_getElem hi]
 have htl : tlAt l i = l[i] := by simp [tlAt, List.getD_eq_getElem?_getD, List.getElem?_eq_getElem hi]
 have hy : (p / rowLen plan 0 = 0) ↔ p < rowLen plan 0 := by rw [Nat.div_eq_zero_iff]; have := hsh.w1; omega
 have e1 : (toT l[i]).get 1 = l[i].f1 := rfl
 have e0 : (toT l[i]).get 0 = l[i].f0 := rfl
 unfold canB stepS nx fitP
 rw [htk, htl, e1, e0, dig_high hc hs, decide_eq_decide.2 hy]
 cases (fitB (l.map toT) plan bs (p / rowLen plan 0) (p % rowLen plan 0) i) <;> cases (decide (p < rowLen plan 0) || decide (((dig c s (p % rowLen plan 0) : Nat) : Int) = l[i].f1)) <;> cases (decide (p % rowLen plan 0 = 0) || decide (((s / c ^ rowLen plan 0 : Nat) : Int) = l[i].f0)) <;> rfl
theorem can_f (C : Int) (c : Nat) (l : List STile) (plan bs : List (List Int)) (p s i : Nat) (hC : C = (c : Int)) (hc : 0 < c) (c6 : c ≤ 6) (hsh : Shape plan bs) (hl : l.length ≤ 1000) (hp : p < places plan) (hs : s < size c plan) (hi : i < l.length) :
 spec_l03Can.f C l plan bs (s : Int) (p : Int) (i : Int) = some (stepS c plan bs l p s i).isSome := by
 have hsz : size c plan ≤ 46656 := pow_le c (rowLen plan 0 + 1) c6 (by have := hsh.w5; omega)
 unfold spec_l03Can.f
 rw [if_pos]
 ·subst hC
  rw [Int.toNat_natCast, Int.toNat_natCast, Int.toNat_natCast, Int.toNat_natCast, can_step hc hsh hs hi]
 ·simp only [Bool.and_eq_true, decide_eq_true_eq]
  exact ⟨⟨⟨⟨⟨by omega, shapeB_of hsh⟩, by omega, by omega⟩, by omega, by omega⟩, Int.natCast_nonneg p, Int.ofNat_lt.2 hp⟩, Int.natCast_nonneg i, Int.ofNat_lt.2 hi⟩
theorem step_ev (C : Int) (c : Nat) (l : List STile) (plan bs : List (List Int)) (p s i b : Nat) (hC : C = (c : Int)) (hc : 0 < c) (c6 : c ≤ 6) (hsh : Shape plan bs) (hcol : ∀ t ∈ l, Col c t) (hs : s < size c plan) (hi : i < l.length) (hl9 : l.length ≤ 1000) (hp9 : p ≤ 1000) (hb : stepS c plan bs l p s i = some b) :
 Ev (fun k => spec_l03Step.f k C l ((rowLen plan 0 : Nat) : Int) (s : Int) (p : Int) (i : Int)) (b : Int) := by
 have hw := hsh.w1
 have w5 := hsh.w5
 have hx : p % rowLen plan 0 < rowLen plan 0 := Nat.mod_lt _ hw
 have hsz : size c plan ≤ 46656 := pow_le c (rowLen plan 0 + 1) c6 (by omega)
 have ht : Col c l[i] := hcol _ (List.getElem_mem hi)
 have htl : tlAt l i = l[i] := by simp [tlAt, List.getD_eq_getElem?_getD, List.getElem?_eq_getElem hi]
 have hbz : (b : Int) = ((nextZ true c (rowLen plan 0) l[i] p s).toNat : Int) := by
  simp only [stepS, nx] at hb
  split at hb
  ·injection hb with hb; rw [← hb, htl]
  ·cases hb
 refine Ev.congr (fun k => ?_) (Ev.now _)
 have hp25 : p ≤ 1000 := hp9
 unfold spec_l03Step.f
 rw [if_pos, hC, Int.toNat_natCast, Int.toNat_natCast, Int.toNat_natCast, Int.toNat_natCast, Int.toNat_natCast, htl, hbz]
 subst hC
 simp only [spec_l03Step.ok, Bool.and_eq_true, decide_eq_true_eq, List.all_eq_true, colB9, Int.toNat_natCast]
 exact ⟨⟨⟨by omega, hl9⟩, by omega, hcol⟩, ⟨by omega, hs⟩, by omega, by omega⟩
theorem own_f (xs : List Int) (h : xs.length < 1000000) : spec_l01Own.f xs = some xs := by
 unfold spec_l01Own.f
 simp only [Option.bind_some, List.nil_append, List.length_nil, Nat.zero_add]
 rw [if_pos (by omega)]
theorem list_ev (C : Int) (c : Nat) (l : List STile) (plan bs : List (List Int)) (hC : C = (c : Int)) (hc : 0 < c) (c6 : c ≤ 6) (hsh : Shape plan bs) (hcol : ∀ t ∈ l, Col c t) (hl : l.length ≤ 1000) (d : Nat) :
 ∀ (p s : Nat) (list : List Int) (most : Nat), p + d = places plan → list.length = p → s < size c plan → 1 ≤ most → most ≤ 1000 →
  Ev (fun k => spec_l03List.f k C l plan bs (layersT c plan bs l) list (s : Int) (most : Int)) (((waysF (stepS c plan bs l) l.length d p s).map (list ++ ·)).take most) := by
 have hpl : places plan ≤ 25 := by unfold places; exact Nat.mul_le_mul hsh.h5 hsh.w5
 have hLlen : (layersT c plan bs l).length = places plan + 1 := by simp [layersT]
 have hwr : wrap64 (((layersT c plan bs l).length : Int) - 1) = ((places plan : Nat) : Int) := by rw [hLlen]; exact (congrArg wrap64 (by omega)).trans (wrap_id (x := ((places plan : Nat) : Int)) (by omega) (by omega))
 induction d with
 | zero =>
  intro p s list most hp hlist hs hm hm9
  have b1 : (list.length : Int) = ((places plan : Nat) : Int) := by omega
  have e : ((waysF (stepS c plan bs l) l.length 0 p s).map (list ++ ·)).take most = [list] := by
   rw [waysF, List.map_cons, List.map_nil, List.append_nil, List.take_of_length_le (by simpa using hm)]
  rw [e]
  refine Ev.step (fun k => ?_) (Ev.now _)
  rw [spec_l03List.f, hwr, if_pos b1]
 | succ d ih =>
  intro p s list most hp hlist hs hm hm9
  have b1 : ¬ (list.length : Int) = ((places plan : Nat) : Int) := by omega
  have hstay : Stay (stepS c plan bs l) l.length (size c plan) p := nx_stay true c (rowLen plan 0) l (fitP plan bs l) hc hsh.w1 hcol p
  have b4 : (0 : Int) < (plan.length : Int) := by have := hsh.h1; omega
  have e0 : ((rd_L1 plan 0).length : Int) = ((rowLen plan 0 : Nat) : Int) := by
   rw [show rd_L1 plan 0 = plan.getD 0 [] from rdL_nat plan 0]; rfl
  have hp1 : wrap64 ((p : Int) + 1) = ((p + 1 : Nat) : Int) := succ_wrap p (by omega)
  have a3 : (0 : Int) ≤ ((p + 1 : Nat) : Int) := Int.natCast_nonneg _
  have a4 : ((p + 1 : Nat) : Int) < ((layersT c plan bs l).length : Int) := by rw [hLlen]; omega
  have hlay : rd_L1 (layersT c plan bs l) ((p + 1 : Nat) : Int) = layS c plan bs l (p + 1) := by
   rw [rdL_nat]; simp [layersT, List.getD_eq_getElem?_getD, List.getElem?_range (show p + 1 < places plan + 1 by omega)]
  have hl25 : list.length ≤ 25 := by rw [hlist]; exact Nat.le_trans (Nat.le.intro hp) hpl
  have hp1000 : p ≤ 1000 := Nat.le_trans (Nat.le_trans (Nat.le.intro hp) hpl) (by decide)
  have hown : spec_l01Own.f list = some list := own_f list (Nat.lt_of_le_of_lt hl25 (by decide))
  have hsmall1 : ∀ x : Int, list.length + [x].length < 17592186044416 := fun x => Nat.lt_of_le_of_lt (Nat.add_le_add_right hl25 1) (by decide)
  have go : ∀ e i (out : List (List Int)), i + e = l.length → out.length ≤ most →
   Ev (fun k => spec_l03List.l0 k plan bs (layersT c plan bs l) list (s : Int) (most : Int) (list.length : Int) out (i : Int) C l) (out ++ ((tailF (stepS c plan bs l) l.length d p s e i).map (list ++ ·)).take (most - out.length)) := by
   intro e
   induction e with
   | zero =>
    intro i out hi ho
    have c1 : ¬ (i : Int) < (l.length : Int) := by omega
    rw [tailF, List.map_nil, List.take_nil, List.append_nil]
    refine Ev.step (f := fun k => spec_l03List.j1 k plan bs (layersT c plan bs l) list (s : Int) (most : Int) (list.length : Int) out (i : Int) false C l) (fun k => by rw [spec_l03List.l0, if_neg c1]) ?_
    refine Ev.step (fun k => ?_) (Ev.now _)
    rw [spec_l03List.j1]; rfl
   | succ e ih2 =>
    intro i out hi ho
    have c1 : (i : Int) < (l.length : Int) := by omega
    by_cases hfull : out.length < most
    ·have c2 : decide ((out.length : Int) < (most : Int)) = true := decide_eq_true (by omega)
     refine Ev.step (f := fun k => spec_l03List.j1 k plan bs (layersT c plan bs l) list (s : Int) (most : Int) (list.length : Int) out (i : Int) true C l) (fun k => by rw [spec_l03List.l0, if_pos c1, c2]) ?_
     have hcan := can_f C c l plan bs p s i hC hc c6 hsh hl (by omega) hs (by omega)
     rw [← hlist] at hcan
     have hsmall := hsmall1 (i : Int)
     have hi1 : wrap64 ((i : Int) + 1) = ((i + 1 : Nat) : Int) := succ_wrap i (by omega)
     have hnext := ih2 (i + 1) out (by omega) ho
     cases hT : stepS c plan bs l p s i with
     | none =>
      have e9 : tailF (stepS c plan bs l) l.length d p s (e + 1) i = tailF (stepS c plan bs l) l.length d p s e (i + 1) := by rw [tailF, branch, hT]; rfl
      rw [e9]
      refine Ev.step (fun k => ?_) hnext
      rw [← hlist] at hT
      rw [spec_l03List.j1, if_pos rfl, hcan, hT, hi1]; rfl
     | some b =>
      have hbs : b < size c plan := hstay s i b hs (by omega) hT
      have hst := step_ev C c l plan bs p s i b hC hc c6 hsh hcol hs (Nat.lt_of_lt_of_le (Nat.lt_succ_self i) (hi ▸ Nat.add_le_add_left (Nat.succ_le_succ (Nat.zero_le e)) i)) hl hp1000 hT
      have g1 : (0 : Int) ≤ (b : Int) := Int.natCast_nonneg b
      have g2 : (b : Int) < ((layS c plan bs l (p + 1)).length : Int) := by rw [layS, capRow_len]; omega
      have g3 : rd (layS c plan bs l (p + 1)) (b : Int) = cap (onS c plan bs l (p + 1) b) := capRow_at hbs
      have hlen := ways_len (stepS c plan bs l) l.length d (p + 1) b
      have hon : onS c plan bs l (p + 1) b = onw (stepS c plan bs l) l.length d (p + 1) b := by rw [onS, show places plan - (p + 1) = d by omega]
      have ebr : branch (stepS c plan bs l) l.length d p s i = (waysF (stepS c plan bs l) l.length d (p + 1) b).map fun r => (i : Int) :: r := by rw [branch, hT]
      have hT2 := hT
      rw [← hlist] at hT2
      by_cases hpos : 0 < onw (stepS c plan bs l) l.length d (p + 1) b
      ·have g4 : cap (onS c plan bs l (p + 1) b) > 0 := by rw [hon]; exact cap_pos'.2 hpos
       have hrec := ih (p + 1) b (list ++ [(i : Int)]) (most - out.length) (by omega) (by simp; omega) hbs (by omega) (by omega)
       obtain ⟨R, hR⟩ : ∃ R, R = ((waysF (stepS c plan bs l) l.length d (p + 1) b).map ((list ++ [(i : Int)]) ++ ·)).take (most - out.length) := ⟨_, rfl⟩
       rw [← hR] at hrec
       have hRl : R.length ≤ most - out.length := by rw [hR]; exact List.length_take_le _ _
       have hms : wrap64 ((most : Int) - (out.length : Int)) = ((most - out.length : Nat) : Int) := by
        rw [show (most : Int) - (out.length : Int) = ((most - out.length : Nat) : Int) by omega]
        exact wrap_id (by omega) (by omega)
       have hsum : out.length + R.length < 5864062014805 := by omega
       have hg := ih2 (i + 1) (out ++ R) (by omega) (by rw [List.length_append]; omega)
       have hfin : (out ++ R) ++ ((tailF (stepS c plan bs l) l.length d p s e (i + 1)).map (list ++ ·)).take (most - (out ++ R).length) = out ++ ((tailF (stepS c plan bs l) l.length d p s (e + 1) i).map (list ++ ·)).take (most - out.length) := by
        rw [tailF, List.map_append, List.take_append, ebr, List.map_map, List.append_assoc]
        have e2 : (waysF (stepS c plan bs l) l.length d (p + 1) b).map ((list ++ ·) ∘ fun r => (i : Int) :: r) = (waysF (stepS c plan bs l) l.length d (p + 1) b).map ((list ++ [(i : Int)]) ++ ·) := by
         apply List.map_congr_left; intro r _; simp
        rw [e2, ← hR]
        congr 2
        have e3 : (out ++ R).length = out.length + R.length := List.length_append
        have e4 : R.length = min (most - out.length) ((waysF (stepS c plan bs l) l.length d (p + 1) b).map ((list ++ [(i : Int)]) ++ ·)).length := by rw [hR, List.length_take]
        rw [e3]
        congr 1
        omega
       rw [hfin] at hg
       refine Ev.step (f := fun k => (spec_l03Step.f k C l ((rowLen plan 0 : Nat) : Int) (s : Int) (list.length : Int) (i : Int)).bind fun t366 => (if 0 ≤ ((p + 1 : Nat) : Int) then (if ((p + 1 : Nat) : Int) < ((layersT c plan bs l).length : Int) then (if 0 ≤ t366 then (if t366 < ((rd_L1 (layersT c plan bs l) ((p + 1 : Nat) : Int)).length : Int) then (if (rd (rd_L1 (layersT c plan bs l) ((p + 1 : Nat) : Int)) t366) > 0 then ((spec_l01Own.f list).bind fun t369 => ((some (([(i : Int)] : List Int) : List Int)).bind fun y372 => (if t369.length + y372.length < 17592186044416 then ((spec_l03List.f k C l plan bs (layersT c plan bs l) (t369 ++ y372) t366 (wrap64 ((most : Int) - (out.length : Int)))).bind fun t378 => (if out.length + t378.length < 5864062014805 then (spec_l03List.l0 k plan bs (layersT c plan bs l) list (s : Int) (most : Int) (list.length : Int) (out ++ t378) (wrap64 ((i : Int) + 1)) C l) else (none))) else (none)))) else (spec_l03List.l0 k plan bs (layersT c plan bs l) list (s : Int) (most : Int) (list.length : Int) out (wrap64 ((i : Int) + 1)) C l)) else (none)) else (none)) else (none)) else (none))) (fun k => ?_) ?_
       ·rw [spec_l03List.j1, if_pos rfl, hcan, hT2, Option.bind_some, if_pos (by rfl), if_pos b4, e0, hlist, hp1]
       ·rw [hlist]
        refine Ev.bind hst ?_
        refine Ev.congr (f := fun k => (spec_l03List.f k C l plan bs (layersT c plan bs l) (list ++ [(i : Int)]) (b : Int) ((most - out.length : Nat) : Int)).bind fun t378 => (if out.length + t378.length < 5864062014805 then (spec_l03List.l0 k plan bs (layersT c plan bs l) list (s : Int) (most : Int) (p : Int) (out ++ t378) ((i + 1 : Nat) : Int) C l) else (none))) (fun k => ?_) (Ev.bind hrec ?_)
        ·rw [if_pos a3, if_pos a4, if_pos g1, hlay, if_pos g2, g3, if_pos g4, hown, Option.bind_some, Option.bind_some, if_pos hsmall, hms, hi1]
        ·rw [hlist] at hg
         exact Ev.congr (fun k => if_pos hsum) hg
      ·have g4 : ¬ cap (onS c plan bs l (p + 1) b) > 0 := by rw [hon]; exact fun h => hpos (cap_pos'.1 h)
       have hnil : waysF (stepS c plan bs l) l.length d (p + 1) b = [] := List.length_eq_zero_iff.1 (by omega)
       have e9 : tailF (stepS c plan bs l) l.length d p s (e + 1) i = tailF (stepS c plan bs l) l.length d p s e (i + 1) := by rw [tailF, ebr, hnil]; rfl
       rw [e9]
       refine Ev.step (f := fun k => (spec_l03Step.f k C l ((rowLen plan 0 : Nat) : Int) (s : Int) (list.length : Int) (i : Int)).bind fun t366 => (if 0 ≤ ((p + 1 : Nat) : Int) then (if ((p + 1 : Nat) : Int) < ((layersT c plan bs l).length : Int) then (if 0 ≤ t366 then (if t366 < ((rd_L1 (layersT c plan bs l) ((p + 1 : Nat) : Int)).length : Int) then (if (rd (rd_L1 (layersT c plan bs l) ((p + 1 : Nat) : Int)) t366) > 0 then ((spec_l01Own.f list).bind fun t369 => ((some (([(i : Int)] : List Int) : List Int)).bind fun y372 => (if t369.length + y372.length < 17592186044416 then ((spec_l03List.f k C l plan bs (layersT c plan bs l) (t369 ++ y372) t366 (wrap64 ((most : Int) - (out.length : Int)))).bind fun t378 => (if out.length + t378.length < 5864062014805 then (spec_l03List.l0 k plan bs (layersT c plan bs l) list (s : Int) (most : Int) (list.length : Int) (out ++ t378) (wrap64 ((i : Int) + 1)) C l) else (none))) else (none)))) else (spec_l03List.l0 k plan bs (layersT c plan bs l) list (s : Int) (most : Int) (list.length : Int) out (wrap64 ((i : Int) + 1)) C l)) else (none)) else (none)) else (none)) else (none))) (fun k => ?_) ?_
       ·rw [spec_l03List.j1, if_pos rfl, hcan, hT2, Option.bind_some, if_pos (by rfl), if_pos b4, e0, hlist, hp1]
       ·rw [hlist] at hnext ⊢
        refine Ev.bind hst ?_
        refine Ev.congr (fun k => ?_) hnext
        rw [if_pos a3, if_pos a4, if_pos g1, hlay, if_pos g2, g3, if_neg g4, hi1]
    ·have hfl : out.length = most := by omega
     have c2 : decide ((out.length : Int) < (most : Int)) = false := decide_eq_false (by omega)
     rw [hfl, Nat.sub_self, List.take_zero, List.append_nil]
     refine Ev.step (f := fun k => spec_l03List.j1 k plan bs (layersT c plan bs l) list (s : Int) (most : Int) (list.length : Int) out (i : Int) false C l) (fun k => by rw [spec_l03List.l0, if_pos c1, c2]) ?_
     refine Ev.step (fun k => ?_) (Ev.now _)
     rw [spec_l03List.j1]; rfl
  have h0 := go l.length 0 [] (by omega) (by simp)
  rw [List.nil_append, List.length_nil, Nat.sub_zero, ← ways_tail] at h0
  refine Ev.step (fun k => ?_) h0
  rw [spec_l03List.f, hwr, if_neg b1]; rfl
theorem drop_rd (xs : List Int) (i : Nat) (h : i < xs.length) : xs.drop i = rd xs (i : Int) :: xs.drop (i + 1) := by
 rw [rd_nat, List.drop_eq_getElem_cons h, List.getD_eq_getElem?_getD, List.getElem?_eq_getElem h]; rfl
theorem nxt_wrap (m : Nat) (h : m < 100000000000000) : wrap64 ((m : Int) + 1) = ((m + 1 : Nat) : Int) := by unfold wrap64; omega
def wordB (C : Int) (word : List Int) : Bool := word.all fun x => inB x 0 (C - 1)
theorem specIn_f (n lo hi : Int) : spec_l01In.f n lo hi = some (inB n lo hi) := by
 unfold spec_l01In.f inB
 by_cases h : n ≥ lo
 ·rw [if_pos h]; simp [h]
 ·rw [if_neg h]; simp at h ⊢; omega
theorem within_f (n lo hi : Int) : impl_within.f n lo hi = some (inB n lo hi) := by
 unfold impl_within.f inB
 by_cases h : n ≥ lo
 ·rw [if_pos h]; simp [h]
 ·rw [if_neg h]; simp at h ⊢; omega
theorem specWord_ev (C : Int) (l : List STile) (word : List Int) (hC : -9000000000000000000 ≤ C ∧ C ≤ 9000000000000000000) (hw : word.length ≤ 35184372088832) : Ev (fun k => spec_l01Word.f k C l word) (wordB C word) := by
 have hc1 : wrap64 (C - 1) = C - 1 := wrap_id (by omega) (by omega)
 have go : ∀ d i, i + d = word.length → Ev (fun k => spec_l01Word.l0 k word (i : Int) C l) (wordB C (word.drop i)) := by
  intro d
  induction d with
  | zero =>
   intro i hi
   have b1 : ¬ (i : Int) < (word.length : Int) := by omega
   refine Ev.step (fun k => ?_) (Ev.now _)
   rw [spec_l01Word.l0, if_neg b1, List.drop_of_length_le (by omega)]; rfl
  | succ d ih =>
   intro i hi
   have b1 : (i : Int) < (word.length : Int) := by omega
   have b2 : (0 : Int) ≤ (i : Int) := Int.natCast_nonneg i
   have hi9 : i < 100000000000000 := by omega
   have hd := drop_rd word i (by omega)
   cases hq : inB (rd word (i : Int)) 0 (C - 1)
   ·have e : wordB C (word.drop i) = false := by rw [hd]; simp [wordB, hq]
    refine Ev.step (fun k => ?_) (Ev.now _)
    rw [spec_l01Word.l0, if_pos b1, if_pos b2, specIn_f, hc1, hq, e]; rfl
   ·have e : wordB C (word.drop i) = wordB C (word.drop (i + 1)) := by rw [hd]; simp [wordB, hq]
    rw [e]
    refine Ev.step (fun k => ?_) (ih (i + 1) (by omega))
    rw [spec_l01Word.l0, if_pos b1, if_pos b2, specIn_f, hc1, hq, nxt_wrap i hi9]; rfl
 exact go word.length 0 (by omega)
theorem implIdx_ev (C : Int) (l : List STile) (word : List Int) (hC : -9000000000000000000 ≤ C ∧ C ≤ 9000000000000000000) (hw : word.length ≤ 35184372088832) :
 ∃ j : Int, Ev (fun k => slices_IndexFunc_int64_int64_at_impl_Set_isWord_1.f k word C l) j ∧ (decide (j ≥ 0) = !wordB C word) := by
 have hc1 : wrap64 (C - 1) = C - 1 := wrap_id (by omega) (by omega)
 have go : ∀ d i, i + d = word.length → ∃ j : Int, Ev (fun k => slices_IndexFunc_int64_int64_at_impl_Set_isWord_1.l0 k word (word.length : Int) (i : Int) C l) j ∧ (decide (j ≥ 0) = !wordB C (word.drop i)) := by
  intro d
  induction d with
  | zero =>
   intro i hi
   have b1 : ¬ (i : Int) < (word.length : Int) := by omega
   refine ⟨-1, Ev.step (fun k => ?_) (Ev.now _), ?_⟩
   ·rw [slices_IndexFunc_int64_int64_at_impl_Set_isWord_1.l0, if_neg b1]
   ·rw [List.drop_of_length_le (by omega)]; simp [wordB]
  | succ d ih =>
   intro i hi
   have b1 : (i : Int) < (word.length : Int) := by omega
   have b2 : (0 : Int) ≤ (i : Int) := Int.natCast_nonneg i
   have hi9 : i < 100000000000000 := by omega
   have hd := drop_rd word i (by omega)
   cases hq : inB (rd word (i : Int)) 0 (C - 1)
   ·refine ⟨(i : Int), Ev.step (fun k => ?_) (Ev.now _), ?_⟩
    ·rw [slices_IndexFunc_int64_int64_at_impl_Set_isWord_1.l0, if_pos b1, if_pos b2, if_pos b1, impl_Set_isWord_1.f, within_f, hc1, hq]; rfl
    ·rw [hd]; simp [wordB, hq]
   ·obtain ⟨j, hj, h2⟩ := ih (i + 1) (by omega)
    refine ⟨j, Ev.step (fun k => ?_) hj, ?_⟩
    ·rw [slices_IndexFunc_int64_int64_at_impl_Set_isWord_1.l0, if_pos b1, if_pos b2, if_pos b1, impl_Set_isWord_1.f, within_f, hc1, hq, nxt_wrap i hi9]; rfl
    ·rw [h2, hd]; simp [wordB, hq]
 exact go word.length 0 (by omega)
def isWordB (C : Int) (word : List Int) : Bool := inB (word.length : Int) 1 20 && wordB C word
theorem implWord_ev (C : Int) (l : List STile) (word : List Int) (hC : -9000000000000000000 ≤ C ∧ C ≤ 9000000000000000000) (hw : word.length ≤ 35184372088832) : Ev (fun k => impl_Set_isWord.f k C l word) (isWordB C word) := by
 cases hq : inB (word.length : Int) 1 20
 ·refine Ev.congr (fun k => ?_) (Ev.now _)
  rw [impl_Set_isWord.f, within_f, hq]
  simp [isWordB, hq]
 ·obtain ⟨j, hj, h2⟩ := implIdx_ev C l word hC hw
  refine Ev.congr (f := fun k => (slices_IndexFunc_int64_int64_at_impl_Set_isWord_1.f k word C l).bind fun t => some (!(decide (t ≥ 0)))) (fun k => ?_) (Ev.bind hj ?_)
  ·rw [impl_Set_isWord.f, within_f, hq, slices_ContainsFunc_int64_int64_at_impl_Set_isWord_1.f]
   cases slices_IndexFunc_int64_int64_at_impl_Set_isWord_1.f k word C l <;> simp
  ·rw [h2]
   simp only [Bool.not_not]
   rw [show isWordB C word = wordB C word by simp [isWordB, hq]]
   exact Ev.now _
def entB (m : Int) (r : List Int) : Bool := r.all fun x => inB x (-1) (m - 1)
def rowB (m : Int) (plan : List (List Int)) (y : Nat) : Bool := decide (rowLen plan y = rowLen plan 0) && entB m (rowAt plan y)
def rowsB (m : Int) (plan : List (List Int)) : Nat → Nat → Bool
 | 0, _ => true
 | d + 1, y => rowB m plan y && rowsB m plan d (y + 1)
def longP (plan : List (List Int)) (k : Nat) : Nat := if k % 2 = 1 then rowLen plan 0 else plan.length
def borB (C : Int) (plan bs : List (List Int)) (k : Nat) : Bool := (decide (rowLen bs k = 0) || decide (rowLen bs k = longP plan k)) && wordB C (rowAt bs k)
def borsB (C : Int) (plan bs : List (List Int)) : Nat → Nat → Bool
 | 0, _ => true
 | d + 1, k => borB C plan bs k && borsB C plan bs d (k + 1)
def sizeB (plan : List (List Int)) : Bool := decide (1 ≤ plan.length) && (decide (plan.length ≤ 5) && (decide (1 ≤ rowLen plan 0) && decide (rowLen plan 0 ≤ 5)))
def planB (C : Int) (m : Int) (plan bs : List (List Int)) : Bool := sizeB plan && (decide (bs.length = 4) && (rowsB m plan plan.length 0 && borsB C plan bs 4 0))
def planR (C : Int) (ts : List T4) (plan bs : List (List Int)) : Int := if isS C ts = true then if planB C ts.length plan bs = true then 0 else 2 else 1
theorem rdRow (x : List (List Int)) (i : Nat) : rd_L1 x (i : Int) = rowAt x i := by simp [rd_L1, rowAt]
theorem rdRow0 (x : List (List Int)) : rd_L1 x 0 = rowAt x 0 := rdRow x 0
def entsB (m : Int) (plan : List (List Int)) : Nat → Nat → Bool
 | 0, _ => true
 | d + 1, y => entB m (rowAt plan y) && entsB m plan d (y + 1)
def tabY (plan : List (List Int)) (y : Nat) : Bool := decide (rowLen plan y = rowLen plan 0) && (decide (1 ≤ rowLen plan y) && decide (rowLen plan y ≤ 5))
def tabsB (plan : List (List Int)) : Nat → Nat → Bool
 | 0, _ => true
 | d + 1, y => tabY plan y && tabsB plan d (y + 1)
def tab5 (plan : List (List Int)) : Bool := decide (1 ≤ plan.length) && (decide (plan.length ≤ 5) && tabsB plan plan.length 0)
theorem isTable_ev (plan : List (List Int)) (hp : plan.length ≤ 10000000) : Ev (fun n => impl_isTable.f n plan 5) (tab5 plan) := by
 have go : ∀ d y, y + d = plan.length → Ev (fun n => impl_isTable.l0 n plan 5 plan (plan.length : Int) (y : Int)) (tabsB plan d y) := by
  intro d
  induction d with
  | zero =>
   intro y hy
   have b1 : ¬ (y : Int) < (plan.length : Int) := by omega
   refine Ev.step (fun n => ?_) (Ev.now _)
   rw [impl_isTable.l0, if_neg b1]; rfl
  | succ d ih =>
   intro y hy
   have b1 : (y : Int) < (plan.length : Int) := by omega
   have b2 : (0 : Int) ≤ (y : Int) := Int.natCast_nonneg y
   have b4 : (0 : Int) < (plan.length : Int) := by omega
   have hE : tabsB plan (d + 1) y = (tabY plan y && tabsB plan d (y + 1)) := rfl
   have ey : ((rowAt plan y).length : Int) = ((rowLen plan y : Nat) : Int) := rfl
   have e0 : ((rowAt plan 0).length : Int) = ((rowLen plan 0 : Nat) : Int) := rfl
   have hn := ih (y + 1) (by omega)
   by_cases q1 : rowLen plan y = rowLen plan 0
   ·have q1' : ((rowLen plan y : Nat) : Int) = ((rowLen plan 0 : Nat) : Int) := by rw [q1]
    by_cases q2 : 1 ≤ rowLen plan y
    ·have q2' : ¬ ((rowLen plan y : Nat) : Int) < 1 := by omega
     by_cases q3 : rowLen plan y ≤ 5
     ·have q3' : ¬ ((rowLen plan y : Nat) : Int) > 5 := by omega
      rw [hE, tabY, decide_eq_true q1, decide_eq_true q2, decide_eq_true q3, Bool.true_and, Bool.true_and, Bool.true_and]
      refine Ev.step (fun n => ?_) hn
      rw [impl_isTable.l0, if_pos b1, if_pos b2, if_pos b1, if_pos b4, rdRow, rdRow0, ey, e0, if_pos q1', if_neg q2', if_neg q3', nxt_wrap y (by omega)]
     ·have q3' : ((rowLen plan y : Nat) : Int) > 5 := by omega
      rw [hE, tabY, decide_eq_false q3, Bool.and_false, Bool.and_false, Bool.false_and]
      refine Ev.step (fun n => ?_) (Ev.now _)
      rw [impl_isTable.l0, if_pos b1, if_pos b2, if_pos b1, if_pos b4, rdRow, rdRow0, ey, e0, if_pos q1', if_neg q2', if_pos q3']
    ·have q2' : ((rowLen plan y : Nat) : Int) < 1 := by omega
     rw [hE, tabY, decide_eq_false q2, Bool.false_and, Bool.and_false, Bool.false_and]
     refine Ev.step (fun n => ?_) (Ev.now _)
     rw [impl_isTable.l0, if_pos b1, if_pos b2, if_pos b1, if_pos b4, rdRow, rdRow0, ey, e0, if_pos q1', if_pos q2']
   ·have q1' : ¬ ((rowLen plan y : Nat) : Int) = ((rowLen plan 0 : Nat) : Int) := by omega
    rw [hE, tabY, decide_eq_false q1, Bool.false_and, Bool.false_and]
    refine Ev.step (fun n => ?_) (Ev.now _)
    rw [impl_isTable.l0, if_pos b1, if_pos b2, if_pos b1, if_pos b4, rdRow, rdRow0, ey, e0, if_neg q1']
 by_cases z1 : 1 ≤ plan.length
 ·have y1 : ¬ (plan.length : Int) < 1 := by omega
  refine Ev.congr (fun n => by rw [impl_isTable.f, if_neg y1]) ?_
  by_cases z5 : plan.length ≤ 5
  ·have y5 : decide ((plan.length : Int) > 5) = false := decide_eq_false (by omega)
   rw [tab5, decide_eq_true z1, decide_eq_true z5, Bool.true_and, Bool.true_and]
   refine Ev.step (fun n => ?_) (go plan.length 0 (by omega))
   rw [y5, impl_isTable.j0]; rfl
  ·have y5 : decide ((plan.length : Int) > 5) = true := decide_eq_true (by omega)
   rw [tab5, decide_eq_false z5, Bool.false_and, Bool.and_false]
   refine Ev.step (fun n => ?_) (Ev.now _)
   rw [y5, impl_isTable.j0]; rfl
 ·have y1 : (plan.length : Int) < 1 := by omega
  rw [tab5, decide_eq_false z1, Bool.false_and]
  refine Ev.congr (fun n => by rw [impl_isTable.f, if_pos y1]) ?_
  refine Ev.step (fun n => ?_) (Ev.now _)
  rw [impl_isTable.j0]; rfl
theorem entOne (m x : Int) (hm : 0 ≤ m) : inB x (-1) (m - 1) = (decide (x = -1) || inB x 0 (m - 1)) := by
 rw [Bool.eq_iff_iff, Bool.or_eq_true, decide_eq_true_eq]
 simp only [inB, Bool.and_eq_true, decide_eq_true_eq]
 omega
theorem isPlan_ev (C : Int) (l : List STile) (plan : List (List Int)) (hl : l.length ≤ 1000000) (hp : plan.length ≤ 10000000) (hr : ∀ r ∈ plan, r.length ≤ 10000000) : Ev (fun n => impl_Set_isPlan.f n C l plan) (entsB l.length plan plan.length 0 && tab5 plan) := by
 have hm1 : wrap64 ((l.length : Int) - 1) = (l.length : Int) - 1 := wrap_id (by omega) (by omega)
 have go : ∀ d y, y + d = plan.length → Ev (fun n => impl_Set_isPlan.l0 n plan plan (plan.length : Int) (y : Int) C l) (entsB l.length plan d y && tab5 plan) := by
  intro d
  induction d with
  | zero =>
   intro y hy
   have b1 : ¬ (y : Int) < (plan.length : Int) := by omega
   refine Ev.step (f := fun n => (impl_isTable.f n plan 5).bind fun t => some t) (fun n => ?_) (Ev.bind (isTable_ev plan hp) (Ev.now _))
   rw [impl_Set_isPlan.l0, if_neg b1]
  | succ d ih =>
   intro y hy
   have b1 : (y : Int) < (plan.length : Int) := by omega
   have b2 : (0 : Int) ≤ (y : Int) := Int.natCast_nonneg y
   have hn := ih (y + 1) (by omega)
   have hrow : (rowAt plan y).length ≤ 10000000 := by rw [rowAt_at (by omega)]; exact hr _ (List.getElem_mem (by omega))
   have cells : ∀ e x, x + e = (rowAt plan y).length → Ev (fun n => impl_Set_isPlan.l1 n plan plan (plan.length : Int) (y : Int) (rowAt plan y) ((rowAt plan y).length : Int) (x : Int) C l) (entB l.length ((rowAt plan y).drop x) && (entsB l.length plan d (y + 1) && tab5 plan)) := by
    intro e
    induction e with
    | zero =>
     intro x hx
     have c1 : ¬ (x : Int) < ((rowAt plan y).length : Int) := by omega
     rw [List.drop_of_length_le (by omega)]
     refine Ev.step (fun n => ?_) hn
     rw [impl_Set_isPlan.l1, if_neg c1, nxt_wrap y (by omega)]
    | succ e ih2 =>
     intro x hx
     have c1 : (x : Int) < ((rowAt plan y).length : Int) := by omega
     have c2 : (0 : Int) ≤ (x : Int) := Int.natCast_nonneg x
     have hd := drop_rd (rowAt plan y) x (by omega)
     have hn2 := ih2 (x + 1) (by omega)
     have hE : entB l.length ((rowAt plan y).drop x) = (inB (rd (rowAt plan y) (x : Int)) (-1) ((l.length : Int) - 1) && entB l.length ((rowAt plan y).drop (x + 1))) := by rw [hd]; rfl
     rw [hE, entOne _ _ (Int.natCast_nonneg _)]
     by_cases q : rd (rowAt plan y) (x : Int) = -1
     ·rw [decide_eq_true q, Bool.true_or, Bool.true_and]
      refine Ev.step (fun n => ?_) hn2
      rw [impl_Set_isPlan.l1, if_pos c1, if_pos c2, if_pos c1, if_pos q, nxt_wrap x (by omega)]
     ·rw [decide_eq_false q, Bool.false_or]
      cases hq : inB (rd (rowAt plan y) (x : Int)) 0 ((l.length : Int) - 1)
      ·refine Ev.step (fun n => ?_) (Ev.now _)
       rw [impl_Set_isPlan.l1, if_pos c1, if_pos c2, if_pos c1, if_neg q, impl_Set_isNumber.f, within_f, hm1, hq]; rfl
      ·rw [Bool.true_and]
       refine Ev.step (fun n => ?_) hn2
       rw [impl_Set_isPlan.l1, if_pos c1, if_pos c2, if_pos c1, if_neg q, impl_Set_isNumber.f, within_f, hm1, hq, nxt_wrap x (by omega)]; rfl
   have h0 := cells (rowAt plan y).length 0 (by omega)
   rw [List.drop_zero] at h0
   have hE : entsB l.length plan (d + 1) y = (entB l.length (rowAt plan y) && entsB l.length plan d (y + 1)) := rfl
   rw [hE, Bool.and_assoc]
   refine Ev.step (fun n => ?_) h0
   rw [impl_Set_isPlan.l0, if_pos b1, if_pos b2, if_pos b1, rdRow]; rfl
 refine Ev.congr (fun n => by rw [impl_Set_isPlan.f]; rfl) (go plan.length 0 (by omega))
theorem row_nil {xs : List (List Int)} {k : Nat} (h : rowLen xs k = 0) : rowAt xs k = [] := List.length_eq_zero_iff.1 h
theorem borB_nil {C : Int} {plan bs : List (List Int)} {k : Nat} (h : rowLen bs k = 0) : borB C plan bs k = true := by
 rw [borB, decide_eq_true h, row_nil h]; rfl
theorem implBors_ev (C : Int) (l : List STile) (plan bs : List (List Int)) (hC : -9000000000000000000 ≤ C ∧ C ≤ 9000000000000000000) (h1 : 1 ≤ plan.length) (h5 : plan.length ≤ 5) (w5 : rowLen plan 0 ≤ 5) (h4 : bs.length = 4) (d : Nat) :
 ∀ k, k + d = 4 → Ev (fun n => impl_Set_areBorders.l0 n plan bs (bs.length : Int) (k : Int) C l) (borsB C plan bs d k) := by
 induction d with
 | zero =>
  intro k hk
  have b1 : ¬ (k : Int) < (bs.length : Int) := by omega
  refine Ev.step (fun n => ?_) (Ev.now _)
  rw [impl_Set_areBorders.l0, if_neg b1]; rfl
 | succ d ih =>
  intro k hk
  have b1 : (k : Int) < (bs.length : Int) := by omega
  have b2 : (0 : Int) ≤ (k : Int) := Int.natCast_nonneg k
  have b4 : (0 : Int) < (plan.length : Int) := by omega
  have hk9 : k < 100000000000000 := by omega
  have hnext := ih (k + 1) (by omega)
  have hE : borsB C plan bs (d + 1) k = (borB C plan bs k && borsB C plan bs d (k + 1)) := rfl
  have e0 : ((rowAt bs k).length : Int) = ((rowLen bs k : Nat) : Int) := rfl
  have key : ∀ L : Nat, L ≤ 5 → longP plan k = L → Ev (fun n => if ((rowAt bs k).length : Int) > 0 then (if ((rowAt bs k).length : Int) = (L : Int) then ((impl_Set_isWord.f n C l (rowAt bs k)).bind fun t => if t = true then impl_Set_areBorders.l0 n plan bs (bs.length : Int) (wrap64 ((k : Int) + 1)) C l else some false) else some false) else impl_Set_areBorders.l0 n plan bs (bs.length : Int) (wrap64 ((k : Int) + 1)) C l) (borsB C plan bs (d + 1) k) := by
   intro L hL5 hL
   rw [hE, e0, nxt_wrap k hk9]
   by_cases z0 : rowLen bs k = 0
   ·have z0' : ¬ ((rowLen bs k : Nat) : Int) > 0 := by omega
    rw [borB_nil z0, Bool.true_and]
    exact Ev.congr (fun n => if_neg z0') hnext
   ·have z0' : ((rowLen bs k : Nat) : Int) > 0 := by omega
    by_cases z1 : rowLen bs k = L
    ·have z1' : ((rowLen bs k : Nat) : Int) = (L : Int) := by omega
     have hw := implWord_ev C l (rowAt bs k) hC (by have : (rowAt bs k).length = rowLen bs k := rfl; omega)
     have hb : isWordB C (rowAt bs k) = wordB C (rowAt bs k) := by
      rw [isWordB, inB_iff.2 ⟨by rw [e0]; omega, by rw [e0]; omega⟩, Bool.true_and]
     have e2 : borB C plan bs k = wordB C (rowAt bs k) := by rw [borB, hL, decide_eq_true z1, Bool.or_true, Bool.true_and]
     refine Ev.congr (fun n => by rw [if_pos z0', if_pos z1']) (Ev.bind hw ?_)
     rw [hb, e2]
     cases wordB C (rowAt bs k)
     ·exact Ev.congr (fun n => rfl) (Ev.now _)
     ·rw [Bool.true_and]; exact Ev.congr (fun n => if_pos rfl) hnext
    ·have z1' : ¬ ((rowLen bs k : Nat) : Int) = (L : Int) := by omega
     have e2 : borB C plan bs k = false := by rw [borB, hL, decide_eq_false z0, decide_eq_false z1]; rfl
     rw [e2, Bool.false_and]
     exact Ev.congr (fun n => by rw [if_pos z0', if_neg z1']) (Ev.now _)
  have jt : k % 2 = 1 → Ev (fun n => impl_Set_areBorders.j1 n plan (rowAt bs k) (plan.length : Int) bs (bs.length : Int) (k : Int) true C l) (borsB C plan bs (d + 1) k) := by
   intro p
   refine Ev.step (fun n => ?_) (key (rowLen plan 0) w5 (by rw [longP, if_pos p]))
   rw [impl_Set_areBorders.j1, if_pos rfl, if_pos b4, rdRow0]; rfl
  have jf : ¬ k % 2 = 1 → Ev (fun n => impl_Set_areBorders.j1 n plan (rowAt bs k) (plan.length : Int) bs (bs.length : Int) (k : Int) false C l) (borsB C plan bs (d + 1) k) := by
   intro p
   refine Ev.step (fun n => ?_) (key plan.length h5 (by rw [longP, if_neg p]))
   rw [impl_Set_areBorders.j1]; rfl
  by_cases k1 : (k : Int) = 1
  ·refine Ev.step (fun n => ?_) (jt (by omega))
   rw [impl_Set_areBorders.l0, if_pos b1, if_pos b2, if_pos b1, if_pos k1, rdRow]
  ·by_cases k3 : (k : Int) = 3
   ·refine Ev.step (fun n => ?_) (jt (by omega))
    have e3 : ((k : Int) == 3) = true := by simp [k3]
    rw [impl_Set_areBorders.l0, if_pos b1, if_pos b2, if_pos b1, if_neg k1, rdRow, e3]
   ·refine Ev.step (fun n => ?_) (jf (by omega))
    have e3 : ((k : Int) == 3) = false := by simp [k3]
    rw [impl_Set_areBorders.l0, if_pos b1, if_pos b2, if_pos b1, if_neg k1, rdRow, e3]
theorem rowsB_iff (m : Int) (plan : List (List Int)) (d : Nat) : ∀ y, rowsB m plan d y = true ↔ ∀ i, y ≤ i → i < y + d → rowLen plan i = rowLen plan 0 ∧ entB m (rowAt plan i) = true := by
 induction d with
 | zero => intro y; simp [rowsB]; intro i h1 h2; omega
 | succ d ih =>
  intro y
  rw [rowsB, rowB, Bool.and_eq_true, Bool.and_eq_true, decide_eq_true_eq, ih]
  constructor
  ·rintro ⟨h1, h2⟩ i hi hi2
   by_cases e : i = y
   ·subst e; exact h1
   ·exact h2 i (by omega) (by omega)
  ·intro h
   exact ⟨h y (Nat.le_refl _) (by omega), fun i hi hi2 => h i (by omega) (by omega)⟩
theorem entsB_iff (m : Int) (plan : List (List Int)) (d : Nat) : ∀ y, entsB m plan d y = true ↔ ∀ i, y ≤ i → i < y + d → entB m (rowAt plan i) = true := by
 induction d with
 | zero => intro y; simp [entsB]; intro i h1 h2; omega
 | succ d ih =>
  intro y
  rw [entsB, Bool.and_eq_true, ih]
  constructor
  ·rintro ⟨h1, h2⟩ i hi hi2
   by_cases e : i = y
   ·subst e; exact h1
   ·exact h2 i (by omega) (by omega)
  ·intro h
   exact ⟨h y (Nat.le_refl _) (by omega), fun i hi hi2 => h i (by omega) (by omega)⟩
theorem tabsB_iff (plan : List (List Int)) (d : Nat) : ∀ y, tabsB plan d y = true ↔ ∀ i, y ≤ i → i < y + d → rowLen plan i = rowLen plan 0 ∧ 1 ≤ rowLen plan i ∧ rowLen plan i ≤ 5 := by
 induction d with
 | zero => intro y; simp [tabsB]; intro i h1 h2; omega
 | succ d ih =>
  intro y
  rw [tabsB, tabY, Bool.and_eq_true, Bool.and_eq_true, Bool.and_eq_true, decide_eq_true_eq, decide_eq_true_eq, decide_eq_true_eq, ih]
  constructor
  ·rintro ⟨h1, h2⟩ i hi hi2
   by_cases e : i = y
   ·subst e; exact h1
   ·exact h2 i (by omega) (by omega)
  ·intro h
   exact ⟨h y (Nat.le_refl _) (by omega), fun i hi hi2 => h i (by omega) (by omega)⟩
theorem borsB_iff (C : Int) (plan bs : List (List Int)) (d : Nat) : ∀ y, borsB C plan bs d y = true ↔ ∀ i, y ≤ i → i < y + d → borB C plan bs i = true := by
 induction d with
 | zero => intro y; simp [borsB]; intro i h1 h2; omega
 | succ d ih =>
  intro y
  rw [borsB, Bool.and_eq_true, ih]
  constructor
  ·rintro ⟨h1, h2⟩ i hi hi2
   by_cases e : i = y
   ·subst e; exact h1
   ·exact h2 i (by omega) (by omega)
  ·intro h
   exact ⟨h y (Nat.le_refl _) (by omega), fun i hi hi2 => h i (by omega) (by omega)⟩
theorem plan_same (m : Int) (plan : List (List Int)) : (entsB m plan plan.length 0 && tab5 plan) = (sizeB plan && rowsB m plan plan.length 0) := by
 rw [Bool.eq_iff_iff]
 simp only [Bool.and_eq_true, tab5, sizeB, decide_eq_true_eq, entsB_iff, tabsB_iff, rowsB_iff]
 constructor
 ·rintro ⟨h1, h2, h3, h4⟩
  have h0 := h4 0 (Nat.le_refl _) (by omega)
  exact ⟨⟨h2, h3, h0.2.1, h0.2.2⟩, fun i hi hi2 => ⟨(h4 i hi hi2).1, h1 i hi hi2⟩⟩
 ·rintro ⟨⟨h2, h3, h5, h6⟩, h4⟩
  exact ⟨fun i hi hi2 => (h4 i hi hi2).2, h2, h3, fun i hi hi2 => ⟨(h4 i hi hi2).1, by rw [(h4 i hi hi2).1]; exact h5, by rw [(h4 i hi hi2).1]; exact h6⟩⟩
theorem implPlan_ev (C : Int) (l : List STile) (plan bs : List (List Int)) (hl : l.length ≤ 35184372088832) (hp : plan.length ≤ 10000000) (hr : ∀ r ∈ plan, r.length ≤ 10000000) (hb : bs.length ≤ 10000000) : Ev (fun n => impl_planCode.f n C l plan bs) (planR C (l.map toT) plan bs) := by
 have hin : inLim l.length = true := by simpa [inLim] using hl
 unfold planR
 rw [List.length_map]
 cases hs : isS C (l.map toT)
 ·refine Ev.congr (fun n => ?_) (Ev.now _)
  rw [impl_planCode.f, impl_setCode_at_impl_planCode_1.f, impl_IsSet.f, if_pos hin, hs]; rfl
 ·obtain ⟨⟨c1, c6⟩, hl16, -⟩ := isS_iff.1 hs
  rw [List.length_map] at hl16
  rw [if_pos rfl]
  have hcl : Ev (fun n => impl_planCode_1.f n C l plan bs) (planB C l.length plan bs) := by
   have hP := isPlan_ev C l plan (by omega) hp hr
   rw [plan_same] at hP
   refine Ev.congr (f := fun n => (impl_Set_isPlan.f n C l plan).bind fun t => if t = true then ((impl_Set_areBorders.f n C l plan bs).bind fun u => some u) else some false) (fun n => by rw [impl_planCode_1.f]) (Ev.bind hP ?_)
   cases hq : (sizeB plan && rowsB l.length plan plan.length 0)
   ·have e : planB C l.length plan bs = false := by
     rw [planB]
     rw [Bool.and_eq_false_iff] at hq
     rcases hq with hq | hq
     ·rw [hq]; rfl
     ·rw [hq, Bool.false_and, Bool.and_false, Bool.and_false]
    rw [e]
    exact Ev.congr (fun n => rfl) (Ev.now _)
   ·obtain ⟨q1, q2⟩ := Bool.and_eq_true_iff.1 hq
    have e : planB C l.length plan bs = (decide (bs.length = 4) && borsB C plan bs 4 0) := by rw [planB, q1, q2, Bool.true_and, Bool.true_and]
    rw [e]
    have q3 := q1
    simp only [sizeB, Bool.and_eq_true, decide_eq_true_eq] at q3
    by_cases z4 : bs.length = 4
    ·have z4' : (bs.length : Int) = 4 := by omega
     rw [decide_eq_true z4, Bool.true_and]
     refine Ev.congr (f := fun n => (impl_Set_areBorders.l0 n plan bs (bs.length : Int) 0 C l).bind fun u => some u) (fun n => by rw [if_pos rfl, impl_Set_areBorders.f, if_pos z4']) (Ev.bind (implBors_ev C l plan bs ⟨by omega, by omega⟩ q3.1 q3.2.1 q3.2.2.2 z4 4 0 (by omega)) (Ev.now _))
    ·have z4' : ¬ (bs.length : Int) = 4 := by omega
     rw [decide_eq_false z4, Bool.false_and]
     refine Ev.congr (fun n => by rw [if_pos rfl, impl_Set_areBorders.f, if_neg z4']; rfl) (Ev.now _)
  refine Ev.congr (f := fun n => (impl_planCode_1.f n C l plan bs).bind fun b => if b = true then some 0 else some 2) (fun n => ?_) (Ev.bind hcl ?_)
  ·rw [impl_planCode.f, impl_setCode_at_impl_planCode_1.f, impl_IsSet.f, if_pos hin, hs]
   simp only [Option.bind_some, if_true]
   cases impl_planCode_1.f n C l plan bs with
   | none => rfl
   | some b => cases b <;> rfl
  ·cases planB C l.length plan bs
   ·exact Ev.congr (fun n => rfl) (Ev.now _)
   ·exact Ev.congr (fun n => rfl) (Ev.now _)
theorem plan_shape {C m : Int} {plan bs : List (List Int)} (h : planB C m plan bs = true) : Shape plan bs := by
 simp only [planB, sizeB, Bool.and_eq_true, decide_eq_true_eq, rowsB_iff, borsB_iff] at h
 obtain ⟨⟨h1, h5, w1, w5⟩, h4, hr, hb⟩ := h
 refine ⟨h1, h5, w1, w5, fun y hy => (hr y (Nat.zero_le _) (by omega)).1, h4, fun k hk => ?_⟩
 have := hb k (Nat.zero_le _) (by omega)
 simp only [borB, Bool.and_eq_true, Bool.or_eq_true, decide_eq_true_eq] at this
 exact this.1
def fillsF (c : Nat) (plan bs : List (List Int)) (l : List STile) : List (List Int) := waysF (stepS c plan bs l) l.length (places plan) 0 0
def listF (C : Int) (ts : List T4) (plan bs : List (List Int)) : List (List (List Int)) × Int :=
 if planR C ts plan bs = 0 then if numS C.toNat plan bs (ts.map toS) > 60 then ([], 3) else ((fillsF C.toNat plan bs (ts.map toS)).map (cutR (rowLen plan 0) plan.length), 0)
 else ([], planR C ts plan bs)
theorem planR_zero' {C : Int} {ts : List T4} {plan bs : List (List Int)} (h : planR C ts plan bs = 0) : isS C ts = true ∧ Shape plan bs := by
 unfold planR at h
 by_cases h1 : isS C ts = true
 ·rw [if_pos h1] at h
  by_cases h2 : planB C ts.length plan bs = true
  ·exact ⟨h1, plan_shape h2⟩
  ·rw [if_neg h2] at h; omega
 ·rw [if_neg h1] at h; omega
end Go.Proofs.Ytcaikaflpmaocaa
namespace Go.Proofs.Ytcaikaflpmaocaa
open Go Go.RowKit Go.Proofs Go.Proofs.YtcaikaflpmaocaaW.PrintWords Go.Proofs.YtcaikaflpmaocaaW.PrintLast Go.Proofs.YtcaikaflpmaocaaW.PrintMore Go.Proofs.Ytcaikaflpmaocaa.Q
set_option linter.unusedVariables false
set_option linter.unusedSimpArgs false
theorem lword_any (C : Int) (A : Option Addr) (ts : List T4) (n c : Nat) (Aw : Option Addr) (xs : List Int) (m cw : Nat) (w : World) (hn : n = ts.length) (hA : RT w A ts) (hnc : n ≤ c) (hl : n ≤ 35184372088832) (hC : -9000000000000000000 ≤ C ∧ C ≤ 9000000000000000000) (hm : m = xs.length) (hAw : RI w Aw xs) (hmc : m ≤ cw) (hlw : m ≤ 35184372088832) :
 Calls Try.prog 75 #[.agg #[.int .i64 C, .slice A n c], .slice Aw m cw] w fun e w' => e = .returned (.bool (wordB C xs)) ∧ Below w.heap.size w w' := by
 subst hn hm
 obtain ⟨k, hk⟩ := (specWord_ev C (ts.map toS) xs hC hlw).rounds
 have h := spec_l01Word.calls k C A c (ts.map toS) Aw cw xs _ w (C_of_rt hA (by omega)) (by simpa using hnc) (C_of_ri hAw (by omega)) hmc hk
 rw [List.length_map] at h
 exact h.mono fun e w' ⟨he, hw⟩ => ⟨he, by first | exact hw | (obtain ⟨nd, rfl⟩ := hw; exact pw_below_drewN (Below.refl _ _) nd)⟩
theorem rowsB_of {m : Int} {plan : List (List Int)} (h : ∀ j, j < plan.length → rowB m plan j = true) : rowsB m plan plan.length 0 = true := by
 rw [rowsB_iff]
 intro i _ hi
 have h1 := h i (by omega)
 unfold rowB at h1
 rw [Bool.and_eq_true, decide_eq_true_eq] at h1
 exact h1
theorem rowsB_not {m : Int} {plan : List (List Int)} {j : Nat} (hj : j < plan.length) (h : rowB m plan j = false) : rowsB m plan plan.length 0 = false := by
 rw [← Bool.not_eq_true, rowsB_iff]
 intro h2
 have h3 := h2 j (Nat.zero_le _) (by omega)
 unfold rowB at h
 rw [h3.2, decide_eq_true h3.1] at h
 cases h
theorem borsB_of {C : Int} {plan bs : List (List Int)} (h : ∀ j, j < 4 → borB C plan bs j = true) : borsB C plan bs 4 0 = true := by
 rw [borsB_iff]; exact fun i _ hi => h i (by omega)
theorem borsB_not {C : Int} {plan bs : List (List Int)} {j : Nat} (hj : j < 4) (h : borB C plan bs j = false) : borsB C plan bs 4 0 = false := by
 rw [← Bool.not_eq_true, borsB_iff]
 intro h2
 rw [h2 j (Nat.zero_le _) (by omega)] at h
 cases h
theorem entB_of {m : Int} {r : List Int} (h : ∀ k, k < r.length → inB (ik r k) (-1) (m - 1) = true) : entB m r = true := by
 unfold entB
 rw [List.all_eq_true]
 intro x hx
 obtain ⟨k, hk, rfl⟩ := List.getElem_of_mem hx
 have h1 := h k hk
 rw [ik, List.getD_eq_getElem?_getD, List.getElem?_eq_getElem hk] at h1
 exact h1
theorem entB_not {m : Int} {r : List Int} {k : Nat} (hk : k < r.length) (h : inB (ik r k) (-1) (m - 1) = false) : entB m r = false := by
 rw [← Bool.not_eq_true]
 unfold entB
 rw [List.all_eq_true]
 intro h2
 have h3 := h2 r[k] (List.getElem_mem hk)
 rw [ik, List.getD_eq_getElem?_getD, List.getElem?_eq_getElem hk] at h
 rw [show (some r[k]).getD 0 = r[k] from rfl, h3] at h
 cases h
theorem planR_two {C : Int} {ts : List T4} {plan bs : List (List Int)} (hs : isS C ts = true) (h : sizeB plan = false ∨ bs.length ≠ 4 ∨ rowsB ts.length plan plan.length 0 = false ∨ borsB C plan bs 4 0 = false) : planR C ts plan bs = 2 := by
 unfold planR
 rw [if_pos hs, if_neg]
 unfold planB
 rcases h with h | h | h | h
 ·rw [h]; simp
 ·rw [decide_eq_false h]; simp
 ·rw [h]; simp
 ·rw [h]; simp
set_option maxHeartbeats 8000000 in
set_option maxRecDepth 100000 in
theorem lPlan_any (C : Int) (A : Option Addr) (ts : List T4) (n c : Nat) (A1 : Option Addr) (plan : List (List Int)) (m1 c1 : Nat) (A2 : Option Addr) (bs : List (List Int)) (m2 c2 : Nat) (w : World)
 (hn : n = ts.length) (hA : RT w A ts) (hnc : n ≤ c) (hl : n ≤ 35184372088832) (hm1 : m1 = plan.length) (hA1 : RR w A1 plan) (hl1 : m1 ≤ 10000000) (hm2 : m2 = bs.length) (hA2 : RR w A2 bs) (hw : ∀ k, k < bs.length → rowLen bs k ≤ 35184372088832) :
 Calls Try.prog 56 #[.agg #[.int .i64 C, .slice A n c], .slice A1 m1 c1, .slice A2 m2 c2] w fun e w' => e = .returned (.int .i64 (planR C ts plan bs)) ∧ Below w.heap.size w w' := by
 have HN := Lib.hid hn; have HA := Lib.hid hA; have HM1 := Lib.hid hm1; have HA1 := Lib.hid hA1; have HM2 := Lib.hid hm2; have HA2 := Lib.hid hA2; have HW := Lib.hid hw
 clear hn hA hm1 hA1 hm2 hA2 hw
 generalize hpr : planR C ts plan bs = code
 have HPR := Lib.hid hpr; clear hpr
 go_enter Try.func56, Try.ntmps56
 go_upto_region 1 with fail
 refine name1 ?_
 intro W1 b1 hz hb0
 have z0 : W1.cell? ⟨w.heap.size, 0, none⟩ = some (.int .i64 C) := b1.cell rfl
 have z1 : W1.cell? ⟨w.heap.size, 1, none⟩ = some (.slice A n c) := b1.cell rfl
 have l1 := b1.lt
 have HB1 := Lib.hid b1; have HB0 := Lib.hid hb0
 clear b1 hb0 hz
 go_wp2_with fail
 refine (l01Is_any C A ts n c W1 HN.out (HA.out.below HB0.out) hl).mono ?_
 rintro e W2 ⟨rfl, hb2⟩
 have hbk2 := (hb2.block _ l1).trans HB1.out
 have HB2 := Lib.hid (below_to HB0.out hb2); have HBK := Lib.hid hbk2
 clear hb2 hbk2 z0 z1 l1
 cases hs : isS C ts with
 | false =>
  have HS := Lib.hid hs; clear hs
  go_wp2_with fail
  go_ret
  exact ⟨congrArg (fun z => Ending.returned (.int .i64 z)) (by rw [← HPR.out, planR, HS.out]; rfl), HB2.out⟩
 | true =>
  have HS := Lib.hid hs
  obtain ⟨hC, hl16, -⟩ := isS_iff.1 hs
  have hl9 : n ≤ 1000 := by rw [HN.out]; omega
  have HC := Lib.hid hC
  clear hs hC hl16
  by_cases h1 : m1 < 1
  ·have i1 : (m1 : Int) < 1 := by omega
   have HI := Lib.hid h1; clear h1
   go_wp2_with fail
   go_ret
   exact ⟨congrArg (fun z => Ending.returned (.int .i64 z)) (by rw [← HPR.out, planR_two HS.out (.inl (by unfold sizeB; rw [← HM1.out, decide_eq_false (by have := HI.out; omega)]; rfl))]), HB2.out⟩
  ·obtain ⟨pb, po, PA, pc, hPA, hpb, p0, -, -, -⟩ := HA1.out 0 (by rw [← HM1.out]; omega)
   subst hPA
   rw [Nat.add_zero] at p0
   have q0 := cell_to HB2.out p0
   have lq0 := World.block_lt_of_cell? _ _ q0
   simp only at lq0
   have HP0 := Lib.hid p0
   have j1 : ¬ (m1 : Int) < 1 := by omega
   have j2 : 0 < m1 := by omega
   have j3 : (0 : Int) < m1 := by omega
   clear p0
   by_cases h2 : m1 ≤ 5
   rotate_left
   ·have i1 : (m1 : Int) > 5 := by omega
    have HI := Lib.hid h2; clear h2
    go_wp2_with fail
    go_ret
    exact ⟨congrArg (fun z => Ending.returned (.int .i64 z)) (by rw [← HPR.out, planR_two HS.out (.inl (by unfold sizeB; rw [← HM1.out, decide_eq_false (show ¬ m1 ≤ 5 by have := HI.out; omega)]; simp))]), HB2.out⟩
   have j4 : ¬ (m1 : Int) > 5 := by omega
   by_cases h3 : 1 ≤ rowLen plan 0
   rotate_left
   ·have i1 : ((rowLen plan 0 : Nat) : Int) < 1 := by omega
    have HI := Lib.hid h3; clear h3
    go_wp2_with fail
    go_ret
    exact ⟨congrArg (fun z => Ending.returned (.int .i64 z)) (by rw [← HPR.out, planR_two HS.out (.inl (by unfold sizeB; rw [decide_eq_false (show ¬ 1 ≤ rowLen plan 0 by have := HI.out; omega)]; simp))]), HB2.out⟩
   have j5 : ¬ ((rowLen plan 0 : Nat) : Int) < 1 := by omega
   by_cases h4 : rowLen plan 0 ≤ 5
   rotate_left
   ·have i1 : ((rowLen plan 0 : Nat) : Int) > 5 := by omega
    have HI := Lib.hid h4; clear h4
    go_wp2_with fail
    go_ret
    exact ⟨congrArg (fun z => Ending.returned (.int .i64 z)) (by rw [← HPR.out, planR_two HS.out (.inl (by unfold sizeB; rw [decide_eq_false (show ¬ rowLen plan 0 ≤ 5 by have := HI.out; omega)]; simp))]), HB2.out⟩
   have j6 : ¬ ((rowLen plan 0 : Nat) : Int) > 5 := by omega
   by_cases h5 : m2 = 4
   rotate_left
   ·have i1 : ((m2 : Int) != 4) = true := by simp; omega
    have i2 : ¬ (m2 : Int) = 4 := by omega
    have HI := Lib.hid h5; clear h5
    go_wp2_with fail
    go_ret
    exact ⟨congrArg (fun z => Ending.returned (.int .i64 z)) (by rw [← HPR.out, planR_two HS.out (.inr (.inl (by rw [← HM2.out]; exact HI.out)))]), HB2.out⟩
   subst h5
   have HSZ := Lib.hid (show sizeB plan = true by unfold sizeB; rw [← HM1.out, decide_eq_true (show 1 ≤ m1 by omega), decide_eq_true h2, decide_eq_true h3, decide_eq_true h4]; rfl)
   go_wp2_with fail
   clear h1
   go_loopw [7] (fun v wr => ∃ y : Nat, y ≤ m1 ∧ v = .int .i64 y ∧ Below W2.heap.size W2 wr ∧ ∀ j, j < y → rowB ts.length plan j = true) (fun v _ => m1 - (intOf v).toNat)
   case atStart => exact ⟨0, by omega, rfl, Below.refl _ _, fun j hj => by omega⟩
   case round =>
    obtain ⟨y, hy, rfl, hB, hR⟩ := hrel
    have HR := Lib.hid hR; have HB := Lib.hid hB; have HE := Lib.hid (below_to HB2.out hB)
    have q0 := cell_to hB q0
    have lq0 := World.block_lt_of_cell? _ _ q0
    simp only at lq0
    clear hR hB
    by_cases hlt : y < m1
    ·have hyp : y < plan.length := by rw [← HM1.out]; exact hlt
     obtain ⟨pb', po', PY, pcy, hPY, -, py, hpr, -, -⟩ := HA1.out y hyp
     injection hPY with hPY; injection hPY with e1 e2
     subst e1; subst e2
     have qy := cell_to HE.out py
     have i1 : (y : Int) < m1 := by omega
     have HYP := Lib.hid hyp; have HPR2 := Lib.hid hpr
     clear hyp hpr py
     by_cases hrl : rowLen plan y = rowLen plan 0
     rotate_left
     ·have v1 : (((rowLen plan y : Nat) : Int) != ((rowLen plan 0 : Nat) : Int)) = true := by simp; omega
      have v2 : ¬ ((rowLen plan y : Nat) : Int) = ((rowLen plan 0 : Nat) : Int) := by omega
      have v3 : (rowLen plan y != rowLen plan 0) = true := by simp; exact hrl
      have HI := Lib.hid hrl; clear hrl v2
      go_upto_region 8 with fail
      refine wp_region_gro (by kernel_rfl) (by kernel_rfl) ?_
      repeat (first | go_big_quiet_step (fail) | quiet_step (fail))
      refine wpQuiet_nil ?_
      intro W5 hB5
      have HB5 := Lib.hid (below_to HE.out hB5); clear hB5
      go_wp2_with fail
      go_ret
      exact ⟨congrArg (fun z => Ending.returned (.int .i64 z)) (by rw [← HPR.out, planR_two HS.out (.inr (.inr (.inl (rowsB_not HYP.out (by unfold rowB; rw [decide_eq_false HI.out]; rfl)))))]), HB5.out⟩
     ·rw [hrl] at qy
      have v1 : (((rowLen plan 0 : Nat) : Int) != ((rowLen plan 0 : Nat) : Int)) = false := by simp
      have v3 : (rowLen plan 0 != rowLen plan 0) = false := by simp
      have HI := Lib.hid hrl; clear hrl
      go_upto_region 8 with fail
      refine wp_region_gro (by kernel_rfl) (by kernel_rfl) ?_
      repeat (first | go_big_quiet_step (fail) | quiet_step (fail))
      refine wpQuiet_nil ?_
      intro W5 hB5
      have q0 := cell_to hB5 q0
      have qy := cell_to hB5 qy
      have HB5 := Lib.hid (below_to HB.out hB5); have HE5 := Lib.hid (below_to HE.out hB5); clear hB5
      go_wp2_with fail
      go_loopw [8] (fun v wx => ∃ x : Nat, x ≤ rowLen plan 0 ∧ v = .int .i64 x ∧ Below W5.heap.size W5 wx ∧ ∀ k, k < x → inB (ik (rowAt plan y) k) (-1) ((ts.length : Int) - 1) = true) (fun v _ => rowLen plan 0 - (intOf v).toNat)
      case atStart => exact ⟨0, by omega, rfl, Below.refl _ _, fun j hj => by omega⟩
      case round =>
       obtain ⟨x, hx, rfl, hBx, hRx⟩ := hrel
       have HRX := Lib.hid hRx; have HEX := Lib.hid (below_to HE5.out hBx); have HBX5 := Lib.hid hBx
       have qy := cell_to hBx qy
       have hbk := (HEX.out : Below w.heap.size w _)
       have HBX := Lib.hid (below_to HB5.out hBx)
       have b1 : BK wr w.heap.size #[.int .i64 C, .slice A n c] 36 := (HBX.out.block _ (BK.lt HBK.out)).trans HBK.out
       have z1 : wr.cell? ⟨w.heap.size, 1, none⟩ = some (.slice A n c) := b1.cell rfl
       have lz := b1.lt
       have lqy := World.block_lt_of_cell? _ _ qy
       simp only at lqy
       clear hRx hBx hbk b1
       by_cases hlx : x < rowLen plan 0
       ·have i3 : (x : Int) < ((rowLen plan 0 : Nat) : Int) := by omega
        obtain ⟨rb, ro, hPY, hrb, hrx⟩ := HPR2.out x (by have h := HI.out; unfold rowLen at h hlx; omega)
        subst hPY
        have qx := cell_to HEX.out hrx
        have lqx := World.block_lt_of_cell? _ _ qx
        simp only at lqx
        have HXL := Lib.hid (show x < (rowAt plan y).length by have h := HI.out; unfold rowLen at h hlx; omega)
        clear hrx
        obtain ⟨q, hq⟩ : ∃ q, q = ik (rowAt plan y) x := ⟨_, rfl⟩
        rw [← hq] at qx
        have HQ := Lib.hid hq; clear hq
        cases hin : inB q (-1) ((n : Int) - 1) with
        | false =>
         have HIN := Lib.hid hin; clear hin
         go_upto_region 13 with fail
         refine wp_region_gro (by kernel_rfl) (by kernel_rfl) ?_
         repeat (first | go_big_quiet_step ((go_at_call 36; exact quiet_call0 (by have h := l01In_any q (-1) ((n : Int) - 1) (gro wr ‹GP›); rw [HIN.out] at h; exact h))) | quiet_step ((go_at_call 36; exact quiet_call0 (by have h := l01In_any q (-1) ((n : Int) - 1) (gro wr ‹GP›); rw [HIN.out] at h; exact h))))
         refine wpQuiet_nil ?_
         intro W6 hB6
         have HB6 := Lib.hid (below_to HEX.out hB6); clear hB6
         go_wp2_with fail
         go_ret
         exact ⟨congrArg (fun z => Ending.returned (.int .i64 z)) (by rw [← HPR.out, planR_two HS.out (.inr (.inr (.inl (rowsB_not HYP.out (by unfold rowB; rw [entB_not HXL.out (by rw [← HQ.out, ← HN.out]; exact HIN.out)]; simp)))))]), HB6.out⟩
        | true =>
         have HIN := Lib.hid hin; clear hin
         go_upto_region 13 with fail
         refine wp_region_gro (by kernel_rfl) (by kernel_rfl) ?_
         repeat (first | go_big_quiet_step ((go_at_call 36; exact quiet_call0 (by have h := l01In_any q (-1) ((n : Int) - 1) (gro wr ‹GP›); rw [HIN.out] at h; exact h))) | quiet_step ((go_at_call 36; exact quiet_call0 (by have h := l01In_any q (-1) ((n : Int) - 1) (gro wr ‹GP›); rw [HIN.out] at h; exact h))))
         refine wpQuiet_nil ?_
         intro W6 hB6
         have HB6' := Lib.hid hB6; clear hB6
         have HB7 := Lib.hid (show Below W5.heap.size W5 W6 from HBX5.out.trans (HB6'.out.mono HBX5.out.size))
         go_wp2_with fail
         go_roundw
         case rel => exact ⟨x + 1, hlx, by go_num, HB7.out, fun k hk => by
          by_cases e : k = x
          ·subst e; rw [← HQ.out, ← HN.out]; exact HIN.out
          ·exact HRX.out k (by omega)⟩
         case measure => simp [intOf]; omega
       ·have i3 : ¬ (x : Int) < ((rowLen plan 0 : Nat) : Int) := by omega
        have ex : x = rowLen plan 0 := by omega
        have HXE := Lib.hid ex; clear ex
        go_wp2_with fail
        go_roundw
        case rel => exact ⟨y + 1, hlt, by go_num, HBX.out, fun j hj => by
         by_cases e : j = y
         ·subst e
          unfold rowB
          rw [decide_eq_true HI.out, entB_of (fun k hk => HRX.out k (by rw [HXE.out, ← HI.out]; exact hk))]; rfl
         ·exact HR.out j (by omega)⟩
        case measure => simp [intOf]; omega
    ·have i1 : ¬ (y : Int) < m1 := by omega
     have ey : y = m1 := by omega
     have HROWS := Lib.hid (rowsB_of (m := ts.length) (plan := plan) (fun j hj => HR.out j (by rw [ey, HM1.out]; exact hj)))
     clear ey HR
     obtain ⟨wz, rfl⟩ : ∃ wz : World, wz = wr := ⟨_, rfl⟩
     have HBZ := HB; have HEZ := HE
     go_wp2_with fail
     go_loopw [9] (fun v wx => ∃ k : Nat, k ≤ 4 ∧ v = .int .i64 k ∧ Below W2.heap.size W2 wx ∧ ∀ j, j < k → borB C plan bs j = true) (fun v _ => 4 - (intOf v).toNat)
     case atStart => exact ⟨0, by omega, rfl, HBZ.out, fun j hj => by omega⟩
     case round =>
      obtain ⟨k, hk, rfl, hBx, hRx⟩ := hrel
      have HRX := Lib.hid hRx; have HBX := Lib.hid hBx; have HEX := Lib.hid (below_to HB2.out hBx)
      have b1 : BK wr w.heap.size #[.int .i64 C, .slice A n c] 36 := (hBx.block _ (BK.lt HBK.out)).trans HBK.out
      have z0 : wr.cell? ⟨w.heap.size, 0, none⟩ = some (.int .i64 C) := b1.cell rfl
      have z1 : wr.cell? ⟨w.heap.size, 1, none⟩ = some (.slice A n c) := b1.cell rfl
      have lz := b1.lt
      have q0 := cell_to HEX.out HP0.out
      have lq0 := World.block_lt_of_cell? _ _ q0
      simp only at lq0
      clear hRx hBx b1
      by_cases hlk : k < 4
      ·have i3 : (k : Int) < 4 := by omega
       obtain ⟨bb, bo_, BA, bc, hBA, -, bcell, bri, bcap, -⟩ := HA2.out k (by rw [← HM2.out]; exact hlk)
       have HA2' := HA2
       subst hBA
       have qk := cell_to HEX.out bcell
       have lqk := World.block_lt_of_cell? _ _ qk
       simp only at lqk
       have HBRI := Lib.hid bri; have HBL := Lib.hid (HW.out k (by rw [← HM2.out]; exact hlk)); have HBC := Lib.hid bcap
       clear bcell bri bcap
       have hlong : ∃ lg : Nat, lg = longP plan k := ⟨_, rfl⟩
       obtain ⟨lg, hlg⟩ := hlong
       have HLG := Lib.hid hlg
       by_cases hk2 : k % 2 = 1
       ·have v1 : (((k : Int) % 2) == 1) = true := by simp; omega
        have v2 : ((k % 2) == 1) = true := by simp; omega
        have v3 : (k : Int) % 2 = 1 := by omega
        have i4 : (0 : Int) ≤ k := by omega
        have HLL := Lib.hid (show lg = rowLen plan 0 by rw [HLG.out, longP, if_pos hk2])
        clear hlg hk2
        by_cases hb0 : rowLen bs k = 0
        ·have HB0' := Lib.hid hb0
         have HBM := Lib.hid (show 0 = (rowAt bs k).length by unfold rowLen at hb0; omega); have HBM2 := Lib.hid hb0
         rw [hb0] at qk
         clear hb0
         cases hwB : wordB C (rowAt bs k) with
         | false =>
          have HWB := Lib.hid hwB; clear hwB
          go_upto_region 21 with fail
          refine wp_region_gro (by kernel_rfl) (by kernel_rfl) ?_
          repeat (first | go_big_quiet_step ((go_at_call 75; exact quiet_call (by have h := lword_any C A ts n c BA (rowAt bs k) (0) bc (gro wr ‹GP›) HN.out (HA.out.below (below_to HEX.out (gro_below wr _))) hnc hl (by have := HC.out; omega) HBM.out (HBRI.out.below (below_to HEX.out (gro_below wr _))) (by rw [← HBM2.out]; exact HBC.out) (by rw [← HBM2.out]; exact HBL.out); rw [HWB.out] at h; exact h))) | quiet_step ((go_at_call 75; exact quiet_call (by have h := lword_any C A ts n c BA (rowAt bs k) (0) bc (gro wr ‹GP›) HN.out (HA.out.below (below_to HEX.out (gro_below wr _))) hnc hl (by have := HC.out; omega) HBM.out (HBRI.out.below (below_to HEX.out (gro_below wr _))) (by rw [← HBM2.out]; exact HBC.out) (by rw [← HBM2.out]; exact HBL.out); rw [HWB.out] at h; exact h))))
          refine wpQuiet_nil ?_
          intro W6 hB6
          have HB6 := Lib.hid (below_to HEX.out hB6); clear hB6
          go_wp2_with fail
          go_ret
          exact ⟨congrArg (fun z => Ending.returned (.int .i64 z)) (by rw [← HPR.out, planR_two HS.out (.inr (.inr (.inr (borsB_not hlk (by unfold borB; rw [HWB.out, Bool.and_false])))))]), HB6.out⟩
         | true =>
          have HWB := Lib.hid hwB; clear hwB
          go_upto_region 21 with fail
          refine wp_region_gro (by kernel_rfl) (by kernel_rfl) ?_
          repeat (first | go_big_quiet_step ((go_at_call 75; exact quiet_call (by have h := lword_any C A ts n c BA (rowAt bs k) (0) bc (gro wr ‹GP›) HN.out (HA.out.below (below_to HEX.out (gro_below wr _))) hnc hl (by have := HC.out; omega) HBM.out (HBRI.out.below (below_to HEX.out (gro_below wr _))) (by rw [← HBM2.out]; exact HBC.out) (by rw [← HBM2.out]; exact HBL.out); rw [HWB.out] at h; exact h))) | quiet_step ((go_at_call 75; exact quiet_call (by have h := lword_any C A ts n c BA (rowAt bs k) (0) bc (gro wr ‹GP›) HN.out (HA.out.below (below_to HEX.out (gro_below wr _))) hnc hl (by have := HC.out; omega) HBM.out (HBRI.out.below (below_to HEX.out (gro_below wr _))) (by rw [← HBM2.out]; exact HBC.out) (by rw [← HBM2.out]; exact HBL.out); rw [HWB.out] at h; exact h))))
          refine wpQuiet_nil ?_
          intro W6 hB6
          have HB6 := Lib.hid (show Below W2.heap.size W2 W6 from below_to HBX.out hB6); clear hB6
          go_wp2_with fail
          go_roundw
          case rel => exact ⟨k + 1, hlk, by go_num, HB6.out, fun j hj => by
           by_cases e : j = k
           ·subst e
            unfold borB
            rw [HWB.out, decide_eq_true HB0'.out, Bool.true_or, Bool.true_and]
           ·exact HRX.out j (by omega)⟩
          case measure => simp [intOf]; omega
        ·have z1 : (((rowLen bs k : Nat) : Int) != 0) = true := by simp; omega
         have z3 : (rowLen bs k != 0) = true := by simp; exact hb0
         have z5 : ¬ ((rowLen bs k : Nat) : Int) = 0 := by omega
         by_cases hbl : rowLen bs k = rowLen plan 0
         ·have HBE := Lib.hid (show rowLen bs k = longP plan k by rw [hbl, ← HLG.out, HLL.out])
          have HBM := Lib.hid (show (rowLen plan 0) = (rowAt bs k).length from hbl.symm); have HBM2 := Lib.hid hbl
          rw [hbl] at qk z1 z3 z5
          have z2 : (((rowLen plan 0 : Nat) : Int) != ((rowLen plan 0 : Nat) : Int)) = false := by simp
          have z4 : (rowLen plan 0 != rowLen plan 0) = false := by simp
          clear hb0 hbl z5
          cases hwB : wordB C (rowAt bs k) with
          | false =>
           have HWB := Lib.hid hwB; clear hwB
           go_upto_region 21 with fail
           refine wp_region_gro (by kernel_rfl) (by kernel_rfl) ?_
           repeat (first | go_big_quiet_step ((go_at_call 75; exact quiet_call (by have h := lword_any C A ts n c BA (rowAt bs k) (rowLen plan 0) bc (gro wr ‹GP›) HN.out (HA.out.below (below_to HEX.out (gro_below wr _))) hnc hl (by have := HC.out; omega) HBM.out (HBRI.out.below (below_to HEX.out (gro_below wr _))) (by rw [← HBM2.out]; exact HBC.out) (by rw [← HBM2.out]; exact HBL.out); rw [HWB.out] at h; exact h))) | quiet_step ((go_at_call 75; exact quiet_call (by have h := lword_any C A ts n c BA (rowAt bs k) (rowLen plan 0) bc (gro wr ‹GP›) HN.out (HA.out.below (below_to HEX.out (gro_below wr _))) hnc hl (by have := HC.out; omega) HBM.out (HBRI.out.below (below_to HEX.out (gro_below wr _))) (by rw [← HBM2.out]; exact HBC.out) (by rw [← HBM2.out]; exact HBL.out); rw [HWB.out] at h; exact h))))
           refine wpQuiet_nil ?_
           intro W6 hB6
           have HB6 := Lib.hid (below_to HEX.out hB6); clear hB6
           go_wp2_with fail
           go_ret
           exact ⟨congrArg (fun z => Ending.returned (.int .i64 z)) (by rw [← HPR.out, planR_two HS.out (.inr (.inr (.inr (borsB_not hlk (by unfold borB; rw [HWB.out, Bool.and_false])))))]), HB6.out⟩
          | true =>
           have HWB := Lib.hid hwB; clear hwB
           go_upto_region 21 with fail
           refine wp_region_gro (by kernel_rfl) (by kernel_rfl) ?_
           repeat (first | go_big_quiet_step ((go_at_call 75; exact quiet_call (by have h := lword_any C A ts n c BA (rowAt bs k) (rowLen plan 0) bc (gro wr ‹GP›) HN.out (HA.out.below (below_to HEX.out (gro_below wr _))) hnc hl (by have := HC.out; omega) HBM.out (HBRI.out.below (below_to HEX.out (gro_below wr _))) (by rw [← HBM2.out]; exact HBC.out) (by rw [← HBM2.out]; exact HBL.out); rw [HWB.out] at h; exact h))) | quiet_step ((go_at_call 75; exact quiet_call (by have h := lword_any C A ts n c BA (rowAt bs k) (rowLen plan 0) bc (gro wr ‹GP›) HN.out (HA.out.below (below_to HEX.out (gro_below wr _))) hnc hl (by have := HC.out; omega) HBM.out (HBRI.out.below (below_to HEX.out (gro_below wr _))) (by rw [← HBM2.out]; exact HBC.out) (by rw [← HBM2.out]; exact HBL.out); rw [HWB.out] at h; exact h))))
           refine wpQuiet_nil ?_
           intro W6 hB6
           have HB6 := Lib.hid (show Below W2.heap.size W2 W6 from below_to HBX.out hB6); clear hB6
           go_wp2_with fail
           go_roundw
           case rel => exact ⟨k + 1, hlk, by go_num, HB6.out, fun j hj => by
            by_cases e : j = k
            ·subst e
             unfold borB
             rw [HWB.out, decide_eq_true HBE.out, Bool.or_true, Bool.true_and]
            ·exact HRX.out j (by omega)⟩
           case measure => simp [intOf]; omega
         ·have HBE := Lib.hid (show ¬ rowLen bs k = longP plan k by rw [← HLG.out, HLL.out]; exact hbl)
          have HB0' := Lib.hid hb0
          have z2 : (((rowLen bs k : Nat) : Int) != ((rowLen plan 0 : Nat) : Int)) = true := by simp; omega
          have z4 : (rowLen bs k != rowLen plan 0) = true := by simp; exact hbl
          have z6 : ¬ ((rowLen bs k : Nat) : Int) = ((rowLen plan 0 : Nat) : Int) := by omega
          clear hb0 hbl
          go_upto_region 21 with fail
          refine wp_region_gro (by kernel_rfl) (by kernel_rfl) ?_
          repeat (first | go_big_quiet_step (fail) | quiet_step (fail))
          refine wpQuiet_nil ?_
          intro W6 hB6
          have HB6 := Lib.hid (below_to HEX.out hB6); clear hB6
          go_wp2_with fail
          go_ret
          exact ⟨congrArg (fun z => Ending.returned (.int .i64 z)) (by rw [← HPR.out, planR_two HS.out (.inr (.inr (.inr (borsB_not hlk (by unfold borB; rw [decide_eq_false HB0'.out, decide_eq_false HBE.out]; rfl)))))]), HB6.out⟩
       ·have v1 : (((k : Int) % 2) == 1) = false := by simp; omega
        have v2 : ((k % 2) == 1) = false := by simp; omega
        have v3 : ¬ (k : Int) % 2 = 1 := by omega
        have i4 : (0 : Int) ≤ k := by omega
        have HLL := Lib.hid (show lg = m1 by rw [HLG.out, longP, if_neg hk2, HM1.out])
        clear hlg hk2
        by_cases hb0 : rowLen bs k = 0
        ·have HB0' := Lib.hid hb0
         have HBM := Lib.hid (show 0 = (rowAt bs k).length by unfold rowLen at hb0; omega); have HBM2 := Lib.hid hb0
         rw [hb0] at qk
         clear hb0
         cases hwB : wordB C (rowAt bs k) with
         | false =>
          have HWB := Lib.hid hwB; clear hwB
          go_upto_region 21 with fail
          refine wp_region_gro (by kernel_rfl) (by kernel_rfl) ?_
          repeat (first | go_big_quiet_step ((go_at_call 75; exact quiet_call (by have h := lword_any C A ts n c BA (rowAt bs k) (0) bc (gro wr ‹GP›) HN.out (HA.out.below (below_to HEX.out (gro_below wr _))) hnc hl (by have := HC.out; omega) HBM.out (HBRI.out.below (below_to HEX.out (gro_below wr _))) (by rw [← HBM2.out]; exact HBC.out) (by rw [← HBM2.out]; exact HBL.out); rw [HWB.out] at h; exact h))) | quiet_step ((go_at_call 75; exact quiet_call (by have h := lword_any C A ts n c BA (rowAt bs k) (0) bc (gro wr ‹GP›) HN.out (HA.out.below (below_to HEX.out (gro_below wr _))) hnc hl (by have := HC.out; omega) HBM.out (HBRI.out.below (below_to HEX.out (gro_below wr _))) (by rw [← HBM2.out]; exact HBC.out) (by rw [← HBM2.out]; exact HBL.out); rw [HWB.out] at h; exact h))))
          refine wpQuiet_nil ?_
          intro W6 hB6
          have HB6 := Lib.hid (below_to HEX.out hB6); clear hB6
          go_wp2_with fail
          go_ret
          exact ⟨congrArg (fun z => Ending.returned (.int .i64 z)) (by rw [← HPR.out, planR_two HS.out (.inr (.inr (.inr (borsB_not hlk (by unfold borB; rw [HWB.out, Bool.and_false])))))]), HB6.out⟩
         | true =>
          have HWB := Lib.hid hwB; clear hwB
          go_upto_region 21 with fail
          refine wp_region_gro (by kernel_rfl) (by kernel_rfl) ?_
          repeat (first | go_big_quiet_step ((go_at_call 75; exact quiet_call (by have h := lword_any C A ts n c BA (rowAt bs k) (0) bc (gro wr ‹GP›) HN.out (HA.out.below (below_to HEX.out (gro_below wr _))) hnc hl (by have := HC.out; omega) HBM.out (HBRI.out.below (below_to HEX.out (gro_below wr _))) (by rw [← HBM2.out]; exact HBC.out) (by rw [← HBM2.out]; exact HBL.out); rw [HWB.out] at h; exact h))) | quiet_step ((go_at_call 75; exact quiet_call (by have h := lword_any C A ts n c BA (rowAt bs k) (0) bc (gro wr ‹GP›) HN.out (HA.out.below (below_to HEX.out (gro_below wr _))) hnc hl (by have := HC.out; omega) HBM.out (HBRI.out.below (below_to HEX.out (gro_below wr _))) (by rw [← HBM2.out]; exact HBC.out) (by rw [← HBM2.out]; exact HBL.out); rw [HWB.out] at h; exact h))))
          refine wpQuiet_nil ?_
          intro W6 hB6
          have HB6 := Lib.hid (show Below W2.heap.size W2 W6 from below_to HBX.out hB6); clear hB6
          go_wp2_with fail
          go_roundw
          case rel => exact ⟨k + 1, hlk, by go_num, HB6.out, fun j hj => by
           by_cases e : j = k
           ·subst e
            unfold borB
            rw [HWB.out, decide_eq_true HB0'.out, Bool.true_or, Bool.true_and]
           ·exact HRX.out j (by omega)⟩
          case measure => simp [intOf]; omega
        ·have z1 : (((rowLen bs k : Nat) : Int) != 0) = true := by simp; omega
         have z3 : (rowLen bs k != 0) = true := by simp; exact hb0
         have z5 : ¬ ((rowLen bs k : Nat) : Int) = 0 := by omega
         by_cases hbl : rowLen bs k = m1
         ·have HBE := Lib.hid (show rowLen bs k = longP plan k by rw [hbl, ← HLG.out, HLL.out])
          have HBM := Lib.hid (show (m1) = (rowAt bs k).length from hbl.symm); have HBM2 := Lib.hid hbl
          rw [hbl] at qk z1 z3 z5
          have z2 : (((m1 : Nat) : Int) != ((m1 : Nat) : Int)) = false := by simp
          have z4 : (m1 != m1) = false := by simp
          clear hb0 hbl z5
          cases hwB : wordB C (rowAt bs k) with
          | false =>
           have HWB := Lib.hid hwB; clear hwB
           go_upto_region 21 with fail
           refine wp_region_gro (by kernel_rfl) (by kernel_rfl) ?_
           repeat (first | go_big_quiet_step ((go_at_call 75; exact quiet_call (by have h := lword_any C A ts n c BA (rowAt bs k) (m1) bc (gro wr ‹GP›) HN.out (HA.out.below (below_to HEX.out (gro_below wr _))) hnc hl (by have := HC.out; omega) HBM.out (HBRI.out.below (below_to HEX.out (gro_below wr _))) (by rw [← HBM2.out]; exact HBC.out) (by rw [← HBM2.out]; exact HBL.out); rw [HWB.out] at h; exact h))) | quiet_step ((go_at_call 75; exact quiet_call (by have h := lword_any C A ts n c BA (rowAt bs k) (m1) bc (gro wr ‹GP›) HN.out (HA.out.below (below_to HEX.out (gro_below wr _))) hnc hl (by have := HC.out; omega) HBM.out (HBRI.out.below (below_to HEX.out (gro_below wr _))) (by rw [← HBM2.out]; exact HBC.out) (by rw [← HBM2.out]; exact HBL.out); rw [HWB.out] at h; exact h))))
           refine wpQuiet_nil ?_
           intro W6 hB6
           have HB6 := Lib.hid (below_to HEX.out hB6); clear hB6
           go_wp2_with fail
           go_ret
           exact ⟨congrArg (fun z => Ending.returned (.int .i64 z)) (by rw [← HPR.out, planR_two HS.out (.inr (.inr (.inr (borsB_not hlk (by unfold borB; rw [HWB.out, Bool.and_false])))))]), HB6.out⟩
          | true =>
           have HWB := Lib.hid hwB; clear hwB
           go_upto_region 21 with fail
           refine wp_region_gro (by kernel_rfl) (by kernel_rfl) ?_
           repeat (first | go_big_quiet_step ((go_at_call 75; exact quiet_call (by have h := lword_any C A ts n c BA (rowAt bs k) (m1) bc (gro wr ‹GP›) HN.out (HA.out.below (below_to HEX.out (gro_below wr _))) hnc hl (by have := HC.out; omega) HBM.out (HBRI.out.below (below_to HEX.out (gro_below wr _))) (by rw [← HBM2.out]; exact HBC.out) (by rw [← HBM2.out]; exact HBL.out); rw [HWB.out] at h; exact h))) | quiet_step ((go_at_call 75; exact quiet_call (by have h := lword_any C A ts n c BA (rowAt bs k) (m1) bc (gro wr ‹GP›) HN.out (HA.out.below (below_to HEX.out (gro_below wr _))) hnc hl (by have := HC.out; omega) HBM.out (HBRI.out.below (below_to HEX.out (gro_below wr _))) (by rw [← HBM2.out]; exact HBC.out) (by rw [← HBM2.out]; exact HBL.out); rw [HWB.out] at h; exact h))))
           refine wpQuiet_nil ?_
           intro W6 hB6
           have HB6 := Lib.hid (show Below W2.heap.size W2 W6 from below_to HBX.out hB6); clear hB6
           go_wp2_with fail
           go_roundw
           case rel => exact ⟨k + 1, hlk, by go_num, HB6.out, fun j hj => by
            by_cases e : j = k
            ·subst e
             unfold borB
             rw [HWB.out, decide_eq_true HBE.out, Bool.or_true, Bool.true_and]
            ·exact HRX.out j (by omega)⟩
           case measure => simp [intOf]; omega
         ·have HBE := Lib.hid (show ¬ rowLen bs k = longP plan k by rw [← HLG.out, HLL.out]; exact hbl)
          have HB0' := Lib.hid hb0
          have z2 : (((rowLen bs k : Nat) : Int) != ((m1 : Nat) : Int)) = true := by simp; omega
          have z4 : (rowLen bs k != m1) = true := by simp; exact hbl
          have z6 : ¬ ((rowLen bs k : Nat) : Int) = ((m1 : Nat) : Int) := by omega
          clear hb0 hbl
          go_upto_region 21 with fail
          refine wp_region_gro (by kernel_rfl) (by kernel_rfl) ?_
          repeat (first | go_big_quiet_step (fail) | quiet_step (fail))
          refine wpQuiet_nil ?_
          intro W6 hB6
          have HB6 := Lib.hid (below_to HEX.out hB6); clear hB6
          go_wp2_with fail
          go_ret
          exact ⟨congrArg (fun z => Ending.returned (.int .i64 z)) (by rw [← HPR.out, planR_two HS.out (.inr (.inr (.inr (borsB_not hlk (by unfold borB; rw [decide_eq_false HB0'.out, decide_eq_false HBE.out]; rfl)))))]), HB6.out⟩
      ·have i3 : ¬ (k : Int) < 4 := by omega
       have ek : k = 4 := by omega
       have HBORS := Lib.hid (borsB_of (C := C) (plan := plan) (bs := bs) (fun j hj => HRX.out j (by omega)))
       clear ek
       go_wp2_with fail
       go_ret
       exact ⟨congrArg (fun z => Ending.returned (.int .i64 z)) (by rw [← HPR.out, planR, HS.out, if_pos rfl, planB, HSZ.out, HROWS.out, HBORS.out, ← HM2.out]; rfl), HEX.out⟩
end Go.Proofs.Ytcaikaflpmaocaa
namespace Go.Proofs.Ytcaikaflpmaocaa.Q
open Go Go.RowKit Go.Proofs Go.Proofs.YtcaikaflpmaocaaW.PrintWords Go.Proofs.YtcaikaflpmaocaaW.PrintMore Go.Proofs.Ytcaikaflpmaocaa
set_option linter.unusedVariables false
set_option linter.unusedSimpArgs false
def spec_l03Plan.ok (l : List STile) (plan bs : List (List Int)) : Bool := decide (l.length ≤ 35184372088832) && decide (plan.length ≤ 10000000) && (List.range bs.length).all (fun k => decide (rowLen bs k ≤ 35184372088832))
def spec_l03Plan.f (k : Nat) (a0_0 : Int) (l0_1 : List STile) (l1 l2 : List (List Int)) : Option Int :=
 if spec_l03Plan.ok l0_1 l1 l2 = true then some (planR a0_0 (l0_1.map toT) l1 l2) else none
theorem spec_l03Plan.mono : ∀ a0 a1 a2 a3 k, LeO (spec_l03Plan.f k a0 a1 a2 a3) (spec_l03Plan.f (k + 1) a0 a1 a2 a3) := fun _ _ _ _ _ => LeO.refl _
theorem spec_l03Plan.calls (k : Nat) (a0_0 : Int) (A0_1 : Option Addr) (c0_1 : Nat) (l0_1 : List STile) (A1 : Option Addr) (c1 : Nat) (l1 : List (List Int)) (A2 : Option Addr) (c2 : Nat) (l2 : List (List Int)) (r : Int) (w : World) (hr0_1 : Kd.C k85 w A0_1 l0_1.length l0_1) (hc0_1 : l0_1.length ≤ c0_1) (hr1 : Kd.C (Kd.slice 2 (Kd.int .i64)) w A1 l1.length l1) (hc1 : l1.length ≤ c1) (hr2 : Kd.C (Kd.slice 2 (Kd.int .i64)) w A2 l2.length l2) (hc2 : l2.length ≤ c2) (h : spec_l03Plan.f k a0_0 l0_1 l1 l2 = some r) :
 Calls Try.prog 56 #[.agg #[.int .i64 a0_0, .slice A0_1 l0_1.length c0_1], .slice A1 l1.length c1, .slice A2 l2.length c2] w fun e w' => e = .returned (.int .i64 r) ∧ Below w.heap.size w w' := by
 unfold spec_l03Plan.f at h
 split at h
 ·rename_i hl
  simp only [spec_l03Plan.ok, Bool.and_eq_true, decide_eq_true_eq, List.all_eq_true, List.mem_range] at hl
  obtain rfl := Option.some.inj h
  have h3 := lPlan_any a0_0 A0_1 (l0_1.map toT) l0_1.length c0_1 A1 l1 l1.length c1 A2 l2 l2.length c2 w (by simp) (rt_of_C hr0_1) hc0_1 hl.1.1 rfl (rr_of_C hr1) hl.1.2 rfl (rr_of_C hr2) hl.2
  exact h3
 ·cases h
end Go.Proofs.Ytcaikaflpmaocaa.Q
namespace Go.Proofs.Ytcaikaflpmaocaa
open Go Go.RowKit Go.Proofs Go.Proofs.YtcaikaflpmaocaaW.PrintWords Go.Proofs.YtcaikaflpmaocaaW.PrintMore Go.Proofs.Ytcaikaflpmaocaa.Q
end Go.Proofs.Ytcaikaflpmaocaa

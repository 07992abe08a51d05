/-
 Parts of the proof, in their order: FitsC, FitsE, PLayP.
-/
import Derived.Test.YtcaikaflpmaocaaPk9
import Derived.Test.YtcaikaflpmaocaaPk8
import Derived.Test.YtcaikaflpmaocaaPk7
namespace Go.Proofs.Ytcaikaflpmaocaa
open Go Go.RowKit Go.Proofs Go.Proofs.YtcaikaflpmaocaaW.PrintWords Go.Proofs.YtcaikaflpmaocaaW.PrintLast Go.Proofs.YtcaikaflpmaocaaW.PrintMore Go.Proofs.Ytcaikaflpmaocaa.Q
set_option linter.unusedVariables false
set_option linter.unusedSimpArgs false
def bordB (bs : List (List Int)) (k j : Nat) (v : Int) : Bool := decide (rowLen bs k = 0) || decide (ik (rowAt bs k) j = v)
set_option maxHeartbeats 4000000 in
set_option maxRecDepth 100000 in
theorem border_any (A2 : Option Addr) (bs : List (List Int)) (m2 c2 k j : Nat) (fb F tb : Nat) (v : Int) (w : World) (hm2 : m2 = bs.length) (hA2 : RR w A2 bs) (hm : m2 ≤ 1000) (hk : k < bs.length) (hj : rowLen bs k = 0 ∨ j < rowLen bs k)
 (hf : w.cell? ⟨fb, 0, none⟩ = some (.pointer (some ⟨F, 0, none⟩))) (hF : w.cell? ⟨F, 3, none⟩ = some (.slice A2 m2 c2)) (ht : w.cell? ⟨tb, k, none⟩ = some (.int .i64 v)) (h4 : k < 4) :
 Calls Try.prog 94 #[.int .i64 k, .int .i64 j, .pointer (some ⟨fb, 0, none⟩), .pointer (some ⟨tb, 0, none⟩)] w fun e w' => e = .returned (.bool (bordB bs k j v)) ∧ Below w.heap.size w w' := by
 obtain ⟨bb, bo, BA, bc, rfl, hbb, hb, hbr, -, -⟩ := hA2 k hk
 have lf := World.block_lt_of_cell? w _ hf
 have lF := World.block_lt_of_cell? w _ hF
 have lt := World.block_lt_of_cell? w _ ht
 simp only at lf lF lt
 have j1 : (k : Int) < m2 := by omega
 have j2 : (k : Int) < 4 := by omega
 have j3 : k < 4 := h4
 by_cases h0 : rowLen bs k = 0
 ·have H0 := Lib.hid h0
  rw [h0] at hb
  clear h0 hj hbr
  go_enter Try.func94, Try.ntmps94
  go_wp2_with fail
  refine wp_region_gro (by kernel_rfl) (by kernel_rfl) ?_
  repeat (first | go_big_quiet_step (fail) | quiet_step (fail))
  refine wpQuiet_nil ?_
  intro w5 hB5
  go_wp2_with fail
  go_ret
  exact ⟨congrArg (fun b_ => Ending.returned (.bool b_)) (by simp [bordB, H0.out]), hB5⟩
 ·obtain ⟨xb, xo, rfl, hxb, hx⟩ := hbr j (by show j < rowLen bs k; omega)
  have j4 : (j : Int) < rowLen bs k := by omega
  have v0 : (((rowLen bs k : Nat) : Int) == 0) = false := by simp; omega
  have v1 : (rowLen bs k == 0) = false := by simp; omega
  have v2 : decide (rowLen bs k = 0) = false := decide_eq_false h0
  have H0 := Lib.hid h0
  clear h0 hj hbr
  go_enter Try.func94, Try.ntmps94
  go_wp2_with fail
  refine wp_region_gro (by kernel_rfl) (by kernel_rfl) ?_
  repeat (first | go_big_quiet_step (fail) | quiet_step (fail))
  refine wpQuiet_nil ?_
  intro w5 hB5
  go_wp2_with fail
  go_ret
  exact ⟨congrArg (fun b_ => Ending.returned (.bool b_)) (by simp [bordB, H0.out]; try rfl), hB5⟩
theorem border_lit (kz : Int) {k : Nat} (hkz : kz = (k : Int)) (A2 : Option Addr) (bs : List (List Int)) (m2 c2 : Nat) (k' : Nat) (j : Nat) (fb F tb : Nat) (v : Int) (w : World) (hm2 : m2 = bs.length) (hA2 : RR w A2 bs) (hm : m2 ≤ 1000) (hk : k < bs.length) (hj : rowLen bs k = 0 ∨ j < rowLen bs k)
 (hf : w.cell? ⟨fb, 0, none⟩ = some (.pointer (some ⟨F, 0, none⟩))) (hF : w.cell? ⟨F, 3, none⟩ = some (.slice A2 m2 c2)) (ht : w.cell? ⟨tb, k, none⟩ = some (.int .i64 v)) (h4 : k < 4) :
 Calls Try.prog 94 #[.int .i64 kz, .int .i64 j, .pointer (some ⟨fb, 0, none⟩), .pointer (some ⟨tb, 0, none⟩)] w fun e w' => e = .returned (.bool (bordB bs k j v)) ∧ Below w.heap.size w w' := by
 subst hkz; exact border_any A2 bs m2 c2 k j fb F tb v w hm2 hA2 hm hk hj hf hF ht h4
set_option maxHeartbeats 4000000 in
set_option maxRecDepth 100000 in
theorem digit_any (A3 : Option Addr) (pw : List Int) (m3 c3 k : Nat) (sb fb F cb : Nat) (s C p : Int) (w : World) (hm3 : m3 = pw.length) (hA3 : RI w A3 pw) (hm : m3 ≤ 1000) (hk : k < pw.length)
 (hs : w.cell? ⟨sb, 0, none⟩ = some (.int .i64 s)) (hf : w.cell? ⟨fb, 0, none⟩ = some (.pointer (some ⟨F, 0, none⟩))) (hF : w.cell? ⟨F, 4, none⟩ = some (.slice A3 m3 c3)) (hC : w.cell? ⟨cb, 0, none⟩ = some (.int .i64 C))
 (hp : ik pw k = p) (hp0 : p ≠ 0) (hC0 : C ≠ 0) :
 Calls Try.prog 95 #[.int .i64 k, .pointer (some ⟨sb, 0, none⟩), .pointer (some ⟨fb, 0, none⟩), .pointer (some ⟨cb, 0, none⟩)] w fun e w' => e = .returned (.int .i64 (Int.tmod (wrap64 (Int.tdiv s p)) C)) ∧ Below w.heap.size w w' := by
 obtain ⟨bb, bo, rfl, hbb, hb⟩ := hA3 k hk
 have ls := World.block_lt_of_cell? w _ hs
 have lf := World.block_lt_of_cell? w _ hf
 have lF := World.block_lt_of_cell? w _ hF
 have lc := World.block_lt_of_cell? w _ hC
 simp only at ls lf lF lc
 rw [hp] at hb
 have j1 : (k : Int) < m3 := by omega
 have v1 : (p == 0) = false := by simp [hp0]
 have v2 : (C == 0) = false := by simp [hC0]
 clear hp
 go_enter Try.func95, Try.ntmps95
 go_wp2_with fail
 refine wp_region_gro (by kernel_rfl) (by kernel_rfl) ?_
 repeat (first | go_big_quiet_step (fail) | quiet_step (fail))
 refine wpQuiet_nil ?_
 intro w5 hB5
 go_wp2_with fail
 go_ret
 refine ⟨?_, hB5⟩
 rfl
end Go.Proofs.Ytcaikaflpmaocaa
namespace Go.Proofs.Ytcaikaflpmaocaa
open Go Go.RowKit Go.Proofs Go.Proofs.YtcaikaflpmaocaaW.PrintWords Go.Proofs.Ytcaikaflpmaocaa.Q
set_option linter.unusedVariables false
set_option linter.unusedSimpArgs false
def shapeB (plan bs : List (List Int)) : Bool :=
 decide (1 ≤ plan.length) && decide (plan.length ≤ 5) && decide (1 ≤ rowLen plan 0) && decide (rowLen plan 0 ≤ 5) && (List.range plan.length).all (fun y => decide (rowLen plan y = rowLen plan 0)) && decide (bs.length = 4) &&
  (List.range 4).all (fun k => decide (rowLen bs k = 0) || decide (rowLen bs k = if k % 2 = 1 then rowLen plan 0 else plan.length))
theorem shape_of {plan bs : List (List Int)} (h : shapeB plan bs = true) : Shape plan bs := by
 simp only [shapeB, Bool.and_eq_true, decide_eq_true_eq, List.all_eq_true, List.mem_range, Bool.or_eq_true] at h
 obtain ⟨⟨⟨⟨⟨⟨h1, h5⟩, w1⟩, w5⟩, hl⟩, h4⟩, hb⟩ := h
 exact ⟨h1, h5, w1, w5, hl, h4, hb⟩
theorem shapeB_of {plan bs : List (List Int)} (h : Shape plan bs) : shapeB plan bs = true := by
 simp only [shapeB, Bool.and_eq_true, decide_eq_true_eq, List.all_eq_true, List.mem_range, Bool.or_eq_true]
 exact ⟨⟨⟨⟨⟨⟨h.h1, h.h5⟩, h.w1⟩, h.w5⟩, h.len⟩, h.four⟩, h.bl⟩
def placeB (n : Nat) (plan : List (List Int)) (y x i : Int) : Bool := decide (0 ≤ y ∧ y < plan.length) && decide (0 ≤ x ∧ x < rowLen plan 0) && decide (0 ≤ i ∧ i < n)
end Go.Proofs.Ytcaikaflpmaocaa
namespace Go.Proofs.Ytcaikaflpmaocaa.Q
open Go Go.RowKit Go.Proofs Go.Proofs.YtcaikaflpmaocaaW.PrintWords Go.Proofs.Ytcaikaflpmaocaa
set_option linter.unusedVariables false
set_option linter.unusedSimpArgs false
def spec_l03Fits.f (a0_0 : Int) (l0_1 : List STile) (l1 l2 : List (List Int)) (a3 a4 a5 : Int) : Option Bool :=
 if (decide (l0_1.length ≤ 1000000) && shapeB l1 l2 && placeB l0_1.length l1 a3 a4 a5) = true then some (fitB (l0_1.map toT) l1 l2 a3.toNat a4.toNat a5.toNat) else none
theorem spec_l03Fits.calls (a0_0 : Int) (A0_1 : Option Addr) (c0_1 : Nat) (l0_1 : List STile) (A1 : Option Addr) (c1 : Nat) (l1 : List (List Int)) (A2 : Option Addr) (c2 : Nat) (l2 : List (List Int)) (a3 a4 a5 : Int) (r : Bool) (w : World) (hr0_1 : Kd.C k85 w A0_1 l0_1.length l0_1) (hc0_1 : l0_1.length ≤ c0_1) (hr1 : Kd.C (Kd.slice 2 (Kd.int .i64)) w A1 l1.length l1) (hc1 : l1.length ≤ c1) (hr2 : Kd.C (Kd.slice 2 (Kd.int .i64)) w A2 l2.length l2) (hc2 : l2.length ≤ c2) (h : spec_l03Fits.f a0_0 l0_1 l1 l2 a3 a4 a5 = some r) :
 Calls Try.prog 77 #[.agg #[.int .i64 a0_0, .slice A0_1 l0_1.length c0_1], .slice A1 l1.length c1, .slice A2 l2.length c2, .int .i64 a3, .int .i64 a4, .int .i64 a5] w fun e w' => e = .returned (.bool r) ∧ Below w.heap.size w w' := by
 unfold spec_l03Fits.f at h
 split at h
 ·rename_i hl
  simp only [Bool.and_eq_true, decide_eq_true_eq, placeB] at hl
  obtain ⟨⟨h1, h2⟩, ⟨⟨y0, y1⟩, x0, x1⟩, i0, i1⟩ := hl
  obtain rfl := Option.some.inj h
  have h3 := fits_any a0_0 A0_1 (l0_1.map toT) l0_1.length c0_1 A1 l1 l1.length c1 A2 l2 l2.length c2 a3.toNat a4.toNat a5.toNat w (by simp) (rt_of_C hr0_1) h1 rfl (rr_of_C hr1) rfl (rr_of_C hr2) (shape_of h2) (by omega) (by omega) (by simp; omega)
  rw [Int.toNat_of_nonneg y0, Int.toNat_of_nonneg x0, Int.toNat_of_nonneg i0] at h3
  exact h3
 ·cases h
end Go.Proofs.Ytcaikaflpmaocaa.Q
namespace Go.Proofs.Ytcaikaflpmaocaa
open Go Go.RowKit Go.Proofs Go.Proofs.YtcaikaflpmaocaaW.PrintWords Go.Proofs.YtcaikaflpmaocaaW.PrintMore Go.Proofs.Ytcaikaflpmaocaa.Q
set_option linter.unusedVariables false
set_option linter.unusedSimpArgs false
theorem power_all : ∀ c : Fin 7, ∀ n : Fin 7, spec_l03Power.f 60 (c.val : Int) (n.val : Int) = some ((c.val ^ n.val : Nat) : Int) := by decide +kernel
theorem pow_le (c n : Nat) (hc : c ≤ 6) (hn : n ≤ 6) : c ^ n ≤ 46656 := by
 calc c ^ n ≤ 6 ^ n := Nat.pow_le_pow_left hc n
  _ ≤ 6 ^ 6 := Nat.pow_le_pow_right (by decide) hn
theorem mul6 {a b : Nat} (ha : a ≤ 6) (hb : b ≤ 46656) : a * b ≤ 279936 := Nat.mul_le_mul ha hb
theorem tdiv_nat (a b : Nat) (h : a < 1000000000) : wrap64 (Int.tdiv (a : Int) (b : Int)) = ((a / b : Nat) : Int) := by
 have h1 : a / b ≤ a := Nat.div_le_self a b
 rw [← Int.ofNat_tdiv]
 generalize a / b = q at h1
 exact wrap_id (by omega) (by omega)
theorem tmod_nat (a b : Nat) : Int.tmod (a : Int) (b : Int) = ((a % b : Nat) : Int) := (Int.ofNat_tmod a b).symm
theorem dig_int (c s k : Nat) (h : s < 1000000000) : Int.tmod (wrap64 (Int.tdiv (s : Int) ((c ^ k : Nat) : Int))) (c : Int) = ((dig c s k : Nat) : Int) := by
 rw [tdiv_nat _ _ h, tmod_nat]; rfl
theorem next_aux {s X E z f3 d f2 hi B T : Int} (h1 : (f3 - d) * B = X) (h2 : (f2 - hi) * T = E) (b1 : -100 ≤ f3 - d ∧ f3 - d ≤ 100) (b2 : -100 ≤ f2 - hi ∧ f2 - hi ≤ 100) (bX : -1000000 ≤ X ∧ X ≤ 1000000) (bE : -1000000 ≤ E ∧ E ≤ 1000000) (bs : 0 ≤ s ∧ s ≤ 1000000) (hz : z = s + X + E) :
 wrap64 ((wrap64 (s + (wrap64 ((wrap64 (f3 - d)) * B)))) + (wrap64 ((wrap64 (f2 - hi)) * T))) = z := by
 rw [wrap_id (x := f3 - d) (by omega) (by omega), h1, wrap_id (x := X) (by omega) (by omega), wrap_id (x := f2 - hi) (by omega) (by omega), h2, wrap_id (x := E) (by omega) (by omega), wrap_id (x := s + X) (by omega) (by omega), wrap_id (by omega) (by omega), hz]
theorem lin_aux {s m q g lo T X E z : Int} (e1 : lo = m + X) (e2 : s = m + q) (e3 : E = g - q) (l0 : 0 ≤ lo) (l1 : lo < T) (l2 : T ≤ 46656) (m0 : 0 ≤ m) (m1 : m < T) (q0 : 0 ≤ q) (q1 : q ≤ 279936) (g0 : 0 ≤ g) (g1 : g ≤ 279936) (hz : z = s + X - q + g) :
 (-1000000 ≤ X ∧ X ≤ 1000000) ∧ (-1000000 ≤ E ∧ E ≤ 1000000) ∧ (0 ≤ s ∧ s ≤ 1000000) ∧ z = s + X + E := by omega
theorem next_wrap (c w : Nat) (t : STile) (p s : Nat) (hc : 0 < c) (c6 : c ≤ 6) (hw : 0 < w) (w5 : w ≤ 5) (ht : Col c t) (hs : s < c ^ (w + 1)) :
 wrap64 ((wrap64 ((s : Int) + (wrap64 ((wrap64 (t.f3 - ((dig c s (p % w) : Nat) : Int))) * ((c ^ (p % w) : Nat) : Int))))) + (wrap64 ((wrap64 (t.f2 - ((s / c ^ w : Nat) : Int))) * ((c ^ w : Nat) : Int)))) = ((nextZ true c w t p s).toNat : Int) := by
 have hx : p % w < w := Nat.mod_lt _ hw
 obtain ⟨lo, h1, e1, -, h3⟩ := next_parts true c w t p s hc hw ht
 obtain ⟨-, -, g2, g3⟩ := ht
 have hT : c ^ w ≤ 46656 := pow_le c w c6 (by omega)
 have hd : dig c s (p % w) < c := Nat.mod_lt _ hc
 have hhi : s / c ^ w < c := by
  rw [Nat.div_lt_iff_lt_mul (Nat.pow_pos hc)]; rw [Nat.pow_succ, Nat.mul_comm] at hs; exact hs
 have hm : s % c ^ w < c ^ w := Nat.mod_lt _ (Nat.pow_pos hc)
 have hsm : s % c ^ w + s / c ^ w * c ^ w = s := by rw [Nat.mul_comm]; exact Nat.mod_add_div s (c ^ w)
 have b2 : (t.f2 - ((s / c ^ w : Nat) : Int)) * ((c ^ w : Nat) : Int) = t.f2 * ((c ^ w : Nat) : Int) - ((s / c ^ w : Nat) : Int) * ((c ^ w : Nat) : Int) := Int.sub_mul _ _ _
 have m2 : t.f2 * ((c ^ w : Nat) : Int) = ((t.f2.toNat * c ^ w : Nat) : Int) := by rw [Int.natCast_mul, Int.toNat_of_nonneg g2.1]
 have m3 : ((s / c ^ w : Nat) : Int) * ((c ^ w : Nat) : Int) = ((s / c ^ w * c ^ w : Nat) : Int) := by rw [Int.natCast_mul]
 have n2 : t.f2.toNat * c ^ w ≤ 279936 := mul6 (by omega) hT
 have n3 : s / c ^ w * c ^ w ≤ 279936 := mul6 (by omega) hT
 have hz : nextZ true c w t p s = (s : Int) + (t.f3 - (dig c s (p % w) : Int)) * ((c ^ (p % w) : Nat) : Int) - ((s / c ^ w * c ^ w : Nat) : Int) + ((t.f2.toNat * c ^ w : Nat) : Int) := by
  unfold nextZ; rw [m3]; simp only [Bool.true_or, if_true, m2]
 rw [m2, m3] at b2
 generalize hgX : (t.f3 - (dig c s (p % w) : Int)) * ((c ^ (p % w) : Nat) : Int) = X at hz e1
 generalize hgE : (t.f2 - ((s / c ^ w : Nat) : Int)) * ((c ^ w : Nat) : Int) = E at b2
 have hh : ((s / c ^ w : Nat) : Int) < (c : Int) := Int.ofNat_lt.2 hhi
 have hh0 : (0 : Int) ≤ ((s / c ^ w : Nat) : Int) := Int.natCast_nonneg _
 have hd1 : ((dig c s (p % w) : Nat) : Int) < (c : Int) := Int.ofNat_lt.2 hd
 have hd0 : (0 : Int) ≤ ((dig c s (p % w) : Nat) : Int) := Int.natCast_nonneg _
 have hsm' : (s : Int) = ((s % c ^ w : Nat) : Int) + ((s / c ^ w * c ^ w : Nat) : Int) := by rw [← Int.natCast_add, hsm]
 obtain ⟨k1, k2, k3, k4⟩ := lin_aux (T := ((c ^ w : Nat) : Int)) e1 hsm' b2 (Int.natCast_nonneg _) (Int.ofNat_lt.2 h1) (Int.ofNat_le.2 hT) (Int.natCast_nonneg _) (Int.ofNat_lt.2 hm) (Int.natCast_nonneg _) (Int.ofNat_le.2 n3) (Int.natCast_nonneg _) (Int.ofNat_le.2 n2) hz
 rw [Int.toNat_of_nonneg h3]
 refine next_aux hgX hgE ?_ ?_ k1 k2 k3 k4
 ·generalize ((dig c s (p % w) : Nat) : Int) = d at hd1 hd0 ⊢
  clear hgX hgE hz k4 e1 b2 hsm' n2 n3 hsm hm hhi hT h1 h3 hs m2 m3
  omega
 ·generalize ((s / c ^ w : Nat) : Int) = d at hh hh0 ⊢
  clear hgX hgE hz k4 e1 b2 hsm' n2 n3 hsm hm hhi hT h1 h3 hs m2 m3
  omega
def fitP (plan bs : List (List Int)) (l : List STile) : Nat → Nat → Bool := fun p i => fitB (l.map toT) plan bs (p / rowLen plan 0) (p % rowLen plan 0) i
def stepS (c : Nat) (plan bs : List (List Int)) (l : List STile) : Nx := nx true c (rowLen plan 0) l (fitP plan bs l)
def places (plan : List (List Int)) : Nat := plan.length * rowLen plan 0
def size (c : Nat) (plan : List (List Int)) : Nat := c ^ (rowLen plan 0 + 1)
def onS (c : Nat) (plan bs : List (List Int)) (l : List STile) (p : Nat) : Nat → Int := onw (stepS c plan bs l) l.length (places plan - p) p
def layS (c : Nat) (plan bs : List (List Int)) (l : List STile) (p : Nat) : List Int := capRow (size c plan) (onS c plan bs l p)
theorem nat_ne0 {n : Nat} (h : 0 < n) : ¬ (n : Int) = 0 := by omega
theorem rdL_nat (x : List (List Int)) (i : Nat) : rd_L1 x (i : Int) = x.getD i [] := by simp [rd_L1]
theorem getD_setL (v : List (List Int)) (e i : Nat) (x : List Int) (h : e < v.length) : (v.set e x).getD i [] = if i = e then x else v.getD i [] := by
 simp only [List.getD_eq_getElem?_getD, List.getElem?_set]
 by_cases hi : e = i
 ·subst hi; simp [h]
 ·simp [hi, Ne.symm hi]
def mix (Q' Q : Nat → Int) (s : Nat) : Nat → Int := fun a => if a < s then Q' a else Q a
theorem mix_same {sz s : Nat} {Q' Q : Nat → Int} (h : Q' s = Q s) : capRow sz (mix Q' Q s) = capRow sz (mix Q' Q (s + 1)) := by
 apply capRow_congr
 intro a ha
 unfold mix
 by_cases h1 : a < s
 ·rw [if_pos h1, if_pos (by omega)]
 ·rw [if_neg h1]
  by_cases h2 : a < s + 1
  ·rw [if_pos h2]
   have : a = s := by omega
   subst this
   exact h.symm
  ·rw [if_neg h2]
theorem mix_set {sz s : Nat} {Q' Q : Nat → Int} {y : Int} (hs : s < sz) (h : Q' s = Q s + y) : (capRow sz (mix Q' Q s)).set s (cap (Q s + y)) = capRow sz (mix Q' Q (s + 1)) := by
 have q3 : Q s = mix Q' Q s s := by unfold mix; rw [if_neg (by omega)]
 rw [q3, capRow_set hs]
 apply capRow_congr
 intro a ha
 unfold mix
 by_cases h1 : a < s
 ·rw [if_pos h1, if_neg (by omega), if_pos (by omega), Int.add_zero]
 ·rw [if_neg h1]
  by_cases h2 : a = s
  ·subst h2
   rw [if_pos rfl, if_pos (by omega), h]
  ·rw [if_neg h2, if_neg (by omega), Int.add_zero]
theorem mix_all {sz : Nat} {Q' Q : Nat → Int} : capRow sz (mix Q' Q sz) = capRow sz Q' := capRow_congr fun a ha => if_pos ha
theorem mix_none {sz : Nat} {Q' Q : Nat → Int} : capRow sz (mix Q' Q 0) = capRow sz Q := capRow_congr fun a ha => if_neg (by omega)
theorem mix_at {sz s : Nat} {Q' Q : Nat → Int} (hs : s < sz) : rd (capRow sz (mix Q' Q s)) (s : Int) = cap (Q s) := by
 rw [rd_nat, capRow_get hs]; unfold mix; rw [if_neg (by omega)]
theorem capRow_at {c s : Nat} {q : Nat → Int} (h : s < c) : rd (capRow c q) (s : Int) = cap (q s) := by rw [rd_nat, capRow_get h]
section
variable (C : Int) (c : Nat) (l : List STile) (plan bs : List (List Int)) (r : List (List Int))
def part (c : Nat) (l : List STile) (plan bs : List (List Int)) (p i : Nat) (a : Nat) : Int := ((List.range i).map fun j => val (onS c plan bs l (p + 1)) (stepS c plan bs l p a j)).sum
theorem part_succ (p i a : Nat) : part c l plan bs p (i + 1) a = part c l plan bs p i a + val (onS c plan bs l (p + 1)) (stepS c plan bs l p a i) := by
 simp [part, List.range_succ, List.sum_append]
theorem val_nn {q : Nat → Int} (h : ∀ a, 0 ≤ q a) (o : Option Nat) : 0 ≤ val q o := by
 cases o
 ·exact Int.le_refl 0
 ·exact h _
theorem onS_nn (p a : Nat) : 0 ≤ onS c plan bs l p a := onw_nn _ _ _ _ _
theorem part_nn (p i a : Nat) : 0 ≤ part c l plan bs p i a := by
 apply sum_nn
 intro x hx
 obtain ⟨j, -, rfl⟩ := List.mem_map.1 hx
 exact val_nn (onS_nn c l plan bs (p + 1)) _
theorem part_all (p : Nat) (hp : p < places plan) (a : Nat) : part c l plan bs p l.length a = onS c plan bs l p a := by
 rw [onS, show places plan - p = (places plan - (p + 1)) + 1 by omega, onw]; rfl
theorem step_nofit (p s i : Nat) (h : fitP plan bs l p i = false) : stepS c plan bs l p s i = none := by
 simp [stepS, nx, h]
def LayOk (c : Nat) (plan bs : List (List Int)) (l : List STile) (p : Nat) (x : List (List Int)) : Prop := x.length = places plan + 1 ∧ ∀ j, p ≤ j → j ≤ places plan → x.getD j [] = layS c plan bs l j
def layersT (c : Nat) (plan bs : List (List Int)) (l : List STile) : List (List Int) := (List.range (places plan + 1)).map (layS c plan bs l)
theorem layOk_tab {x : List (List Int)} (h : LayOk c plan bs l 0 x) : x = layersT c plan bs l := by
 apply List.ext_getElem
 ·rw [h.1]; simp [layersT]
 ·intro j h1 h2
  have hj : j ≤ places plan := by have := h.1; omega
  have := h.2 j (by omega) hj
  rw [List.getD_eq_getElem?_getD, List.getElem?_eq_getElem h1] at this
  simp only [Option.getD_some] at this
  rw [this]; simp [layersT]
theorem part_zero (p : Nat) : capRow (size c plan) (part c l plan bs p 0) = List.replicate (size c plan) 0 := by
 rw [← capRow_zero]
 exact capRow_congr fun a _ => by simp [part]
end
end Go.Proofs.Ytcaikaflpmaocaa

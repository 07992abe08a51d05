/-
 Parts of the proof, in their order: FitsI.
-/
import Derived.Test.YtcaikaflpmaocaaSq
import Derived.Test.YtcaikaflpmaocaaPk11
import Derived.Test.YtcaikaflpmaocaaPk10
namespace Go.Proofs.Ytcaikaflpmaocaa
open Go Go.RowKit Go.Proofs Go.Proofs.YtcaikaflpmaocaaW.PrintWords Go.Proofs.YtcaikaflpmaocaaW.PrintLast Go.Proofs.YtcaikaflpmaocaaW.PrintMore Go.Proofs.Ytcaikaflpmaocaa.Q
set_option linter.unusedVariables false
set_option linter.unusedSimpArgs false
def ifits_T3 : Bool × List (List Nat × List Nat) := (true, [([], []), ([0], [0]), ([1], [1]), ([2], [2]), ([3], [3]), ([], []), ([4, 5], [4, 5]), ([6], [6]), ([], []), ([8], [8]), ([9], [9]), ([10], [10]), ([11], [11]), ([], []), ([], []), ([13, 7, 0, 1, 2, 3, 4, 5, 6, 7, 13, 14], [7, 13]), ([14, 12, 15, 0, 1, 2, 3, 4, 5, 6, 7, 8, 9, 10, 11, 12, 13, 14, 15], [12, 14])])
def ifits_B3 : List Nat := [0, 1, 3, 7, 15, 0, 63, 127, 0, 256, 768, 1792, 3840, 0, 0, 24831, 65535]
theorem ifits_tab3 : rtab .any (opsOf Try.f81 3) = ifits_T3 := by kernel_rfl
theorem ifits_bits3 : waitsOk ifits_T3.2 ifits_B3 = true := by kernel_rfl
structure TwoB (wd W : World) (a b : Nat) : Prop where
 t : BK W a #[.int .i64 0, .int .i64 0, .int .i64 0, .int .i64 0] 85
 c : BK W b #[.int .i64 0] 2
 ne : b ≠ a
 be : Below wd.heap.size wd W
 gt : wd.heap.size ≤ a
 gc : wd.heap.size ≤ b
theorem two_boxes0 (wd : World) : TwoB wd ((wd.alloc (.cells #[.int .i64 0, .int .i64 0, .int .i64 0, .int .i64 0] 85)).alloc (.cells #[.int .i64 0] 2)) (wd.heap.size + 0) (wd.heap.size + 1) :=
 ⟨(BK.new wd _ _).alloc _, by have := BK.new (wd.alloc (.cells #[.int .i64 0, .int .i64 0, .int .i64 0, .int .i64 0] 85)) #[.int .i64 0] 2; simpa using this, by omega, below_alloc (below_alloc (Below.refl _ _) _) _, by omega, by omega⟩
theorem two_boxes1 (wd : World) : TwoB wd ((wd.alloc (.cells #[.int .i64 0] 2)).alloc (.cells #[.int .i64 0, .int .i64 0, .int .i64 0, .int .i64 0] 85)) (wd.heap.size + 1) (wd.heap.size + 0) :=
 ⟨by have := BK.new (wd.alloc (.cells #[.int .i64 0] 2)) #[.int .i64 0, .int .i64 0, .int .i64 0, .int .i64 0] 85; simpa using this, (BK.new wd _ _).alloc _, by omega, below_alloc (below_alloc (Below.refl _ _) _) _, by omega, by omega⟩
structure FB (w W : World) (fb sb tb cb F : Nat) (s C : Int) (t : T4) : Prop where
 be : Below w.heap.size w W
 f : W.cell? ⟨fb, 0, none⟩ = some (.pointer (some ⟨F, 0, none⟩))
 s : W.cell? ⟨sb, 0, none⟩ = some (.int .i64 s)
 t0 : W.cell? ⟨tb, 0, none⟩ = some (.int .i64 (t.get 0))
 t1 : W.cell? ⟨tb, 1, none⟩ = some (.int .i64 (t.get 1))
 t2 : W.cell? ⟨tb, 2, none⟩ = some (.int .i64 (t.get 2))
 t3 : W.cell? ⟨tb, 3, none⟩ = some (.int .i64 (t.get 3))
 c : W.cell? ⟨cb, 0, none⟩ = some (.int .i64 C)
theorem FB.to {w W W1 : World} {fb sb tb cb F : Nat} {s C : Int} {t : T4} (h : FB w W fb sb tb cb F s C t) (hb : Below W.heap.size W W1) : FB w W1 fb sb tb cb F s C t :=
 ⟨below_to h.be hb, cell_to hb h.f, cell_to hb h.s, cell_to hb h.t0, cell_to hb h.t1, cell_to hb h.t2, cell_to hb h.t3, cell_to hb h.c⟩
def test2 (bs : List (List Int)) (cn s : Nat) (t : T4) (y x : Nat) : Bool := if decide (y = 0) then !bordB bs 1 x (t.get 1) else !decide (((dig cn s x : Nat) : Int) = t.get 1)
def test3 (bs : List (List Int)) (cn s W : Nat) (t : T4) (y x : Nat) : Bool := if decide (x = 0) then !bordB bs 0 y (t.get 0) else !decide (((dig cn s W : Nat) : Int) = t.get 0)
def test4 (plan bs : List (List Int)) (t : T4) (y x : Nat) : Bool := (decide (y + 1 = plan.length) && !bordB bs 3 x (t.get 3)) || (decide (x + 1 = rowLen plan 0) && !bordB bs 2 y (t.get 2))
theorem dig_top {c w s : Nat} (hs : s < c ^ (w + 1)) (hc : 0 < c) : dig c s w = s / c ^ w := by
 unfold dig
 apply Nat.mod_eq_of_lt
 rw [Nat.div_lt_iff_lt_mul (Nat.pow_pos hc)]; rw [Nat.pow_succ, Nat.mul_comm] at hs; exact hs
theorem next_bounds (c w : Nat) (t : STile) (p s x : Nat) (hpx : p % w = x) (hc : 0 < c) (c6 : c ≤ 6) (hw : 0 < w) (w5 : w ≤ 5) (ht : Col c t) (hs : s < c ^ (w + 1)) :
 ∃ X E G : Int, (t.f3 - ((dig c s x : Nat) : Int)) * ((c ^ x : Nat) : Int) = X ∧ ((dig c s w : Nat) : Int) * ((c ^ w : Nat) : Int) = E ∧ t.f2 * ((c ^ w : Nat) : Int) = G ∧
  (-1000000 ≤ X ∧ X ≤ 1000000) ∧ (0 ≤ E ∧ E ≤ 1000000) ∧ (0 ≤ G ∧ G ≤ 1000000) ∧
  (x + 1 < w → ((nextZ false c w t p s).toNat : Int) = (s : Int) + X - E + G) ∧ (¬ x + 1 < w → ((nextZ false c w t p s).toNat : Int) = (s : Int) + X - E) := by
 subst hpx
 obtain ⟨lo, h1, e1, -, h3⟩ := next_parts false c w t p s hc hw ht
 obtain ⟨-, -, g2, g3⟩ := ht
 have hT : c ^ w ≤ 46656 := pow_le c w c6 (by omega)
 have hhi : s / c ^ w < c := by
  rw [Nat.div_lt_iff_lt_mul (Nat.pow_pos hc)]; rw [Nat.pow_succ, Nat.mul_comm] at hs; exact hs
 have hm : s % c ^ w < c ^ w := Nat.mod_lt _ (Nat.pow_pos hc)
 have hsm : s % c ^ w + s / c ^ w * c ^ w = s := by rw [Nat.mul_comm]; exact Nat.mod_add_div s (c ^ w)
 have m2 : t.f2 * ((c ^ w : Nat) : Int) = ((t.f2.toNat * c ^ w : Nat) : Int) := by rw [Int.natCast_mul, Int.toNat_of_nonneg g2.1]
 have m3 : ((s / c ^ w : Nat) : Int) * ((c ^ w : Nat) : Int) = ((s / c ^ w * c ^ w : Nat) : Int) := by rw [Int.natCast_mul]
 have n2 : t.f2.toNat * c ^ w ≤ 279936 := mul6 (by omega) hT
 have n3 : s / c ^ w * c ^ w ≤ 279936 := mul6 (by omega) hT
 have hsm' : (s : Int) = ((s % c ^ w : Nat) : Int) + ((s / c ^ w * c ^ w : Nat) : Int) := by rw [← Int.natCast_add, hsm]
 have hz : nextZ false c w t p s = (s : Int) + (t.f3 - (dig c s (p % w) : Int)) * ((c ^ (p % w) : Nat) : Int) - ((s / c ^ w * c ^ w : Nat) : Int) + (if decide (p % w + 1 < w) then ((t.f2.toNat * c ^ w : Nat) : Int) else 0) := by
  unfold nextZ; rw [m3, m2]; rfl
 refine ⟨_, _, _, rfl, rfl, rfl, ?_⟩
 rw [dig_top hs hc, m2, m3, Int.toNat_of_nonneg h3, hz]
 generalize (t.f3 - (dig c s (p % w) : Int)) * ((c ^ (p % w) : Nat) : Int) = X at e1 hz
 have k0 : ((s % c ^ w : Nat) : Int) < ((c ^ w : Nat) : Int) := Int.ofNat_lt.2 hm
 have k1 : ((lo : Nat) : Int) < ((c ^ w : Nat) : Int) := Int.ofNat_lt.2 h1
 have k2 : ((c ^ w : Nat) : Int) ≤ 46656 := Int.ofNat_le.2 hT
 have k3 : (0 : Int) ≤ ((s % c ^ w : Nat) : Int) := Int.natCast_nonneg _
 have k4 : ((s / c ^ w * c ^ w : Nat) : Int) ≤ 279936 := Int.ofNat_le.2 n3
 have k5 : ((t.f2.toNat * c ^ w : Nat) : Int) ≤ 279936 := Int.ofNat_le.2 n2
 have k6 : (0 : Int) ≤ ((s / c ^ w * c ^ w : Nat) : Int) := Int.natCast_nonneg _
 have k7 : (0 : Int) ≤ ((t.f2.toNat * c ^ w : Nat) : Int) := Int.natCast_nonneg _
 have k8 : (0 : Int) ≤ (lo : Int) := Int.natCast_nonneg _
 generalize ((s % c ^ w : Nat) : Int) = a1 at *
 generalize ((s / c ^ w * c ^ w : Nat) : Int) = a2 at *
 generalize ((t.f2.toNat * c ^ w : Nat) : Int) = a3 at *
 generalize ((c ^ w : Nat) : Int) = a4 at *
 clear m2 m3 n2 n3 hsm hm hhi hT h1 h3 hs hz hsm'
 refine ⟨⟨by omega, by omega⟩, ⟨k6, by omega⟩, ⟨k7, by omega⟩, fun h => ?_, fun h => ?_⟩
 ·rw [decide_eq_true h]; rfl
 ·rw [decide_eq_false h]; simp
def stepI (c : Nat) (plan bs : List (List Int)) (l : List STile) : Nx := nx false c (rowLen plan 0) l (fitP plan bs l)
def outI : Option Nat → Int
 | none => 0
 | some b => (b : Int)
def someB : Option Nat → Bool
 | none => false
 | some _ => true
theorem out_none {o : Option Nat} (h : o = none) : Value.tuple #[.int .i64 0, .bool false] = .tuple #[.int .i64 (outI o), .bool (someB o)] := by subst h; rfl
theorem out_some {o : Option Nat} {b : Nat} {z : Int} (h : o = some b) (hz : z = (b : Int)) : Value.tuple #[.int .i64 z, .bool true] = .tuple #[.int .i64 (outI o), .bool (someB o)] := by subst h hz; rfl
theorem tlAt_map (ts : List T4) (i : Nat) (h : i < ts.length) : tlAt (ts.map toS) i = toS (tk ts i) := by
 simp [tlAt, tk, List.getD_eq_getElem?_getD, List.getElem?_map, List.getElem?_eq_getElem h]
theorem map_tT (ts : List T4) : (ts.map toS).map toT = ts := map_toTS ts
theorem step_bad {c : Nat} {plan bs : List (List Int)} {ts : List T4} {p s i : Nat} (hc0 : 0 < c) (hi : i < ts.length) (hp : p < places plan) (hsh : Shape plan bs) (hs : s < size c plan)
 (h : BadP plan (p / rowLen plan 0) (p % rowLen plan 0) i = true ∨ test2 bs c s (tk ts i) (p / rowLen plan 0) (p % rowLen plan 0) = true ∨ test3 bs c s (rowLen plan 0) (tk ts i) (p / rowLen plan 0) (p % rowLen plan 0) = true ∨ test4 plan bs (tk ts i) (p / rowLen plan 0) (p % rowLen plan 0) = true) :
 stepI c plan bs (ts.map toS) p s i = none := by
 unfold stepI nx
 rw [if_neg]
 intro hc
 rw [tlAt_map ts i hi] at hc
 simp only [Bool.and_eq_true, Bool.or_eq_true, decide_eq_true_eq] at hc
 obtain ⟨⟨hf, hd⟩, hw⟩ := hc
 unfold fitP fitB at hf
 rw [map_tT] at hf
 simp only [Bool.and_eq_true, Bool.not_eq_true', Bool.or_eq_false_iff] at hf
 obtain ⟨f1, ⟨fA, fB⟩, fC, fD⟩ := hf
 have hy : p / rowLen plan 0 = 0 ↔ p < rowLen plan 0 := by rw [Nat.div_eq_zero_iff]; have := hsh.w1; omega
 rcases h with h | h | h | h
 ·rw [f1] at h; cases h
 ·unfold test2 bordB at h
  by_cases h0 : p / rowLen plan 0 = 0
  ·rw [decide_eq_true h0] at h
   simp only [BadB, h0, decide_true, Bool.true_and, if_true] at fB h
   by_cases h1 : rowLen bs 1 = 0
   ·simp [h1] at h
   ·have : 0 < rowLen bs 1 := by omega
    simp [this] at fB
    simp [fB] at h
  ·rw [decide_eq_false h0] at h
   simp only [Bool.false_eq_true, if_false, Bool.not_eq_true', decide_eq_false_iff_not] at h
   rcases hd with hd | hd
   ·exact h0 (hy.2 hd)
   ·exact h hd
 ·unfold test3 bordB at h
  by_cases h0 : p % rowLen plan 0 = 0
  ·rw [decide_eq_true h0] at h
   simp only [BadA, h0, decide_true, Bool.true_and, if_true] at fA h
   by_cases h1 : rowLen bs 0 = 0
   ·simp [h1] at h
   ·have : 0 < rowLen bs 0 := by omega
    simp [this] at fA
    simp [fA] at h
  ·rw [decide_eq_false h0] at h
   simp only [Bool.false_eq_true, if_false, Bool.not_eq_true', decide_eq_false_iff_not] at h
   rcases hw with hw | hw
   ·exact h0 hw
   ·exact h (by rw [dig_top hs hc0]; exact hw)
 ·unfold test4 bordB at h
  rw [Bool.or_eq_true] at h
  rcases h with h | h
  ·rw [Bool.and_eq_true, decide_eq_true_eq] at h
   obtain ⟨h0, h⟩ := h
   simp only [BadD, h0, decide_true, Bool.true_and] at fD
   by_cases h1 : rowLen bs 3 = 0
   ·simp [h1] at h
   ·have : 0 < rowLen bs 3 := by omega
    simp [this] at fD
    simp [fD] at h
  ·rw [Bool.and_eq_true, decide_eq_true_eq] at h
   obtain ⟨h0, h⟩ := h
   simp only [BadC, h0, decide_true, Bool.true_and] at fC
   by_cases h1 : rowLen bs 2 = 0
   ·simp [h1] at h
   ·have : 0 < rowLen bs 2 := by omega
    simp [this] at fC
    simp [fC] at h
theorem bad_of_bord {bs : List (List Int)} {k j : Nat} {v : Int} (h : bordB bs k j v = true) : (decide (0 < rowLen bs k) && !decide (ik (rowAt bs k) j = v)) = false := by
 unfold bordB at h
 rw [Bool.or_eq_true, decide_eq_true_eq, decide_eq_true_eq] at h
 rcases h with h | h
 ·simp [h]
 ·simp [h]
theorem step_good {c : Nat} {plan bs : List (List Int)} {ts : List T4} {p s i : Nat} (hc0 : 0 < c) (hi : i < ts.length) (hp : p < places plan) (hsh : Shape plan bs) (hs : s < size c plan)
 (h1 : BadP plan (p / rowLen plan 0) (p % rowLen plan 0) i = false) (h2 : test2 bs c s (tk ts i) (p / rowLen plan 0) (p % rowLen plan 0) = false) (h3 : test3 bs c s (rowLen plan 0) (tk ts i) (p / rowLen plan 0) (p % rowLen plan 0) = false) (h4 : test4 plan bs (tk ts i) (p / rowLen plan 0) (p % rowLen plan 0) = false) :
 stepI c plan bs (ts.map toS) p s i = some (nextZ false c (rowLen plan 0) (toS (tk ts i)) p s).toNat := by
 unfold stepI nx
 rw [tlAt_map ts i hi, if_pos]
 have hy : p / rowLen plan 0 = 0 ↔ p < rowLen plan 0 := by rw [Nat.div_eq_zero_iff]; have := hsh.w1; omega
 have pos : ∀ k, rowLen bs k = 0 ∨ 0 < rowLen bs k := fun k => by omega
 simp only [Bool.and_eq_true, Bool.or_eq_true, decide_eq_true_eq]
 refine ⟨⟨?_, ?_⟩, ?_⟩
 ·unfold fitP fitB
  rw [map_tT, h1]
  simp only [Bool.not_false, Bool.true_and, Bool.and_eq_true, Bool.not_eq_true', Bool.or_eq_false_iff]
  refine ⟨⟨?_, ?_⟩, ?_, ?_⟩
  ·unfold BadA
   by_cases h0 : p % rowLen plan 0 = 0
   ·rw [test3, decide_eq_true h0, if_pos rfl] at h3
    rw [decide_eq_true h0]
    rw [Bool.true_and]; exact bad_of_bord (by simpa using h3)
   ·rw [decide_eq_false h0]; rfl
  ·unfold BadB
   by_cases h0 : p / rowLen plan 0 = 0
   ·rw [test2, decide_eq_true h0, if_pos rfl] at h2
    rw [decide_eq_true h0]
    rw [Bool.true_and]; exact bad_of_bord (by simpa using h2)
   ·rw [decide_eq_false h0]; rfl
  ·unfold BadC
   unfold test4 at h4
   rw [Bool.or_eq_false_iff] at h4
   by_cases h0 : p % rowLen plan 0 + 1 = rowLen plan 0
   ·have h5 := h4.2
    rw [decide_eq_true h0] at h5 ⊢
    rw [Bool.true_and] at h5 ⊢; exact bad_of_bord (by simpa using h5)
   ·rw [decide_eq_false h0]; rfl
  ·unfold BadD
   unfold test4 at h4
   rw [Bool.or_eq_false_iff] at h4
   by_cases h0 : p / rowLen plan 0 + 1 = plan.length
   ·have h5 := h4.1
    rw [decide_eq_true h0] at h5 ⊢
    rw [Bool.true_and] at h5 ⊢; exact bad_of_bord (by simpa using h5)
   ·rw [decide_eq_false h0]; rfl
 ·by_cases h0 : p / rowLen plan 0 = 0
  ·exact .inl (hy.1 h0)
  ·rw [test2, decide_eq_false h0] at h2
   simp only [Bool.false_eq_true, if_false, Bool.not_eq_false', decide_eq_true_eq] at h2
   exact .inr h2
 ·by_cases h0 : p % rowLen plan 0 = 0
  ·exact .inl h0
  ·rw [test3, decide_eq_false h0] at h3
   simp only [Bool.false_eq_true, if_false, Bool.not_eq_false', decide_eq_true_eq] at h3
   rw [dig_top hs hc0] at h3
   exact .inr h3
set_option maxHeartbeats 16000000 in
set_option maxRecDepth 100000 in
theorem ifits_any (C : Int) (cn : Nat) (A : Option Addr) (ts : List T4) (n c : Nat) (A1 : Option Addr) (plan : List (List Int)) (m1 c1 : Nat) (A2 : Option Addr) (bs : List (List Int)) (m2 c2 : Nat) (A3 : Option Addr) (pw : List Int) (m3 c3 : Nat) (F p s i : Nat) (w : World)
 (hC : C = (cn : Int)) (hcn : 0 < cn) (c6 : cn ≤ 6) (hn : n = ts.length) (hA : RT w A ts) (hl : n ≤ 1000000) (hm1 : m1 = plan.length) (hA1 : RR w A1 plan) (hm2 : m2 = bs.length) (hA2 : RR w A2 bs) (hm3 : m3 = pw.length) (hA3 : RI w A3 pw) (hsh : Shape plan bs)
 (hpw : pw.length = rowLen plan 0 + 1) (hpk : ∀ k, k ≤ rowLen plan 0 → ik pw k = ((cn ^ k : Nat) : Int))
 (hcol : ∀ t ∈ ts.map toS, Col cn t) (hF0 : w.cell? ⟨F, 0, none⟩ = some (.int .i64 C)) (hF1 : w.cell? ⟨F, 1, none⟩ = some (.slice A n c)) (hF2 : w.cell? ⟨F, 2, none⟩ = some (.slice A1 m1 c1)) (hF3 : w.cell? ⟨F, 3, none⟩ = some (.slice A2 m2 c2)) (hF4 : w.cell? ⟨F, 4, none⟩ = some (.slice A3 m3 c3))
 (hp : p < places plan) (hs : s < size cn plan) (hi : i < ts.length) :
 Calls Try.prog 81 #[.pointer (some ⟨F, 0, none⟩), .int .i64 p, .int .i64 s, .int .i64 i] w fun e w' =>
  e = .returned (.tuple #[.int .i64 (outI (stepI cn plan bs (ts.map toS) p s i)), (.bool (someB (stepI cn plan bs (ts.map toS) p s i)))]) ∧ Below w.heap.size w w' := by
 have HN := Lib.hid hn; have HM1 := Lib.hid hm1; have HM3 := Lib.hid hm3
 have HBAD := Lib.hid (fun h => step_bad (c := cn) (s := s) hcn hi hp hsh hs h)
 have HGOOD := Lib.hid (fun h1 h2 h3 h4 => step_good (c := cn) (s := s) hcn hi hp hsh hs h1 h2 h3 h4)
 have hcolI : Col cn (toS (tk ts i)) := hcol _ (List.mem_map.2 ⟨tk ts i, by simp [tk, List.getD_eq_getElem?_getD, List.getElem?_eq_getElem hi], rfl⟩)
 have HNB := Lib.hid (next_bounds cn (rowLen plan 0) (toS (tk ts i)) p s _ rfl hcn c6 hsh.w1 hsh.w5 hcolI hs)
 obtain ⟨h1, h5, w1, w5, hlen, h4, hbl⟩ := hsh
 have HBL := Lib.hid hbl; have HPK := Lib.hid hpk; have HCN := Lib.hid hcn; have HC0 := Lib.hid (show C ≠ 0 by omega)
 have HA2 := Lib.hid hA2; have HA3 := Lib.hid hA3
 have hy : p / rowLen plan 0 < plan.length := (Nat.div_lt_iff_lt_mul w1).2 hp
 have hx : p % rowLen plan 0 < rowLen plan 0 := Nat.mod_lt _ w1
 have s9 : s < 1000000000 := by have : size cn plan ≤ 46656 := pow_le cn (rowLen plan 0 + 1) c6 (by omega); omega
 have p9 : p < 1000000000 := by have : places plan ≤ 25 := (by (unfold places; exact Nat.mul_le_mul h5 w5)); omega
 have hdig : ∀ k, Int.tmod (wrap64 (Int.tdiv (s : Int) ((cn ^ k : Nat) : Int))) C = ((dig cn s k : Nat) : Int) := fun k => by rw [hC]; exact dig_int cn s k s9
 have HD := Lib.hid hdig
 have ey : IntKind.i64.wrap (Int.tdiv (p : Int) ((rowLen plan 0 : Nat) : Int)) = ((p / rowLen plan 0 : Nat) : Int) := by rw [i64_w]; exact tdiv_nat _ _ p9
 have ex : Int.tmod (p : Int) ((rowLen plan 0 : Nat) : Int) = ((p % rowLen plan 0 : Nat) : Int) := tmod_nat _ _
 have HEY := Lib.hid ey; have HEX := Lib.hid ex
 have HEY3 := Lib.hid (show wrap64 ((p : Int) / ((rowLen plan 0 : Nat) : Int)) = ((p / rowLen plan 0 : Nat) : Int) by have h := tdiv_nat p (rowLen plan 0) p9; rwa [Int.tdiv_eq_ediv_of_nonneg (Int.natCast_nonneg p)] at h)
 have HEX3 := Lib.hid (show (p : Int) % ((rowLen plan 0 : Nat) : Int) = ((p % rowLen plan 0 : Nat) : Int) from (Int.natCast_emod p _).symm)
 generalize hgy : p / rowLen plan 0 = y at *
 generalize hgx : p % rowLen plan 0 = x at *
 have hr := hlen y hy
 obtain ⟨pb, po, PA, pc, hPA, hpb, hp_, hpr, hpc, -⟩ := hA1 y hy
 obtain ⟨pb0, po0, PA0, pc0, hPA0, -, p0, -, -, -⟩ := hA1 0 (by omega)
 obtain ⟨rfl, rfl⟩ : pb = pb0 ∧ po = po0 := by rw [hPA] at hPA0; injection hPA0 with e; injection e with e1 e2; exact ⟨e1, e2⟩
 subst hPA
 obtain ⟨rb, ro, hRA, hrb, hrx⟩ := hpr x (by show x < rowLen plan y; omega)
 subst hRA
 obtain ⟨bb, bo, BA0, bc0, hBA, hbb, -, -, -, -⟩ := hA2 0 (by omega)
 subst hBA
 obtain ⟨wb, wo, hWA, hwb, -⟩ := hA3 0 (by omega)
 subst hWA
 obtain ⟨tb, tq, hTA, htb, c0, c1_, c2_, c3_⟩ := hA i hi
 subst hTA
 rw [hr] at hp_
 rw [Nat.add_zero] at p0
 have j1 : (y : Int) < m1 := by omega
 have j2 : (x : Int) < rowLen plan 0 := by omega
 have j3 : (0 : Int) < m1 := by omega
 have j4 : (i : Int) < n := by omega
 have j5 : 0 < m1 := by omega
 have h24 : m2 = 4 := by omega
 subst h24
 have HM2 := Lib.hid hm2
 have HQ1 := Lib.hid hF0; have HQ2 := Lib.hid hF1; have HQ3 := Lib.hid hF3; have HQ4 := Lib.hid hF4; have HQ5 := Lib.hid hF2
 have HEY2 := Lib.hid (show wrap64 (Int.tdiv (p : Int) ((rowLen plan 0 : Nat) : Int)) = (y : Int) by rw [← i64_w]; exact HEY.out)
 have vr : (((rowLen plan 0 : Nat) : Int) == 0) = false := by simp; omega
 have vr2 : (rowLen plan 0 == 0) = false := by simp; omega
 clear hA hn hA1 hm1 hA2 hm2 hA3 hm3 hPA0 hlen hbl hpk hdig ey ex hF0 hF1 hF3 hF4 hcn hC hgy hgx
 have HX := Lib.hid hx; have HY := Lib.hid hy
 go_enter Try.func81, Try.ntmps81
 go_upto_region 1 with fail
 refine name2 ?_
 intro W1 b1 b2 hz hb0
 have a1 : W1.cell? ⟨w.heap.size, 0, none⟩ = some (.pointer (some ⟨F, 0, none⟩)) := b1.cell rfl
 have a2 : W1.cell? ⟨w.heap.size + 1, 0, none⟩ = some (.int .i64 s) := b2.cell rfl
 have HB0 := Lib.hid hb0
 replace p0 := cell_to hb0 p0; replace hF2 := cell_to hb0 hF2
 have l1 := b1.lt; have l2 := World.block_lt_of_cell? W1 _ p0; have l3 := World.block_lt_of_cell? W1 _ hF2
 simp only at l2 l3
 clear hb0 hz b1 b2
 refine wp_region_gro (by kernel_rfl) (by kernel_rfl) ?_
 repeat (first | go_big_quiet_step (fail) | quiet_step (fail))
 refine wpQuiet_nil ?_
 intro w2 hB2
 have HB2 := Lib.hid (below_to HB0.out hB2); have HW2 := Lib.hid hB2
 clear hB2 p0 hF2 l1 l2 l3
 go_upto_region 2 with fail
 refine wp_region_gro (by kernel_rfl) (by kernel_rfl) ?_
 repeat (first | go_big_quiet_step (fail) | quiet_step (fail))
 refine wpQuiet_nil ?_
 intro wB hB3
 have HB := below_to HB2.out hB3
 have q0 := cell_to hB3 (cell_to HW2.out a1); have a2 := cell_to hB3 (cell_to HW2.out a2)
 clear a1 hB3 HW2 HB2 HB0
 simp only [HEY3.out, HEX3.out]
 go_upto_region 3 with fail
 have q1 := cell_to HB HQ1.out; have q2 := cell_to HB HQ2.out
 replace c0 := cell_to HB c0; have c1 := cell_to HB c1_; have c2 := cell_to HB c2_; have c3 := cell_to HB c3_
 clear c1_ c2_ c3_
 have hD := (Below.refl wB.heap.size wB).drew
 refine start_ (n := 17) (S := fun w' => w'.cell? ⟨w.heap.size, 0, none⟩ = some (.pointer (some ⟨F, 0, none⟩)) ∧ w'.cell? ⟨F, 0, none⟩ = some (.int .i64 C) ∧ w'.cell? ⟨F, 1, none⟩ = some (.slice (some ⟨tb, tq, none⟩) n c) ∧ w'.cell? ⟨tb, tq + i * 4, none⟩ = some (.int .i64 ((tk ts i).get 0)) ∧ w'.cell? ⟨tb, tq + i * 4 + 1, none⟩ = some (.int .i64 ((tk ts i).get 1)) ∧ w'.cell? ⟨tb, tq + i * 4 + 2, none⟩ = some (.int .i64 ((tk ts i).get 2)) ∧ w'.cell? ⟨tb, tq + i * 4 + 3, none⟩ = some (.int .i64 ((tk ts i).get 3))) (ds := []) #[f_,f_,f_,f_,f_,f_,f_,f_,f_,f_,f_,f_,f_,f_,f_,f_,f_] (by kernel_rfl) rfl rfl ⟨cell_to hD q0, cell_to hD q1, cell_to hD q2, cell_to hD c0, cell_to hD c1, cell_to hD c2, cell_to hD c3⟩ (fun hHeld => ?_)
 refine with_tabW ifits_tab3 ifits_bits3 (fun HT_ HW_ => ?_)
 generalize wB.drew = wd at hD hHeld ⊢
 refine p_ 5 42 ?_ #[f_,f_,f_,f_,f_,t_,f_,f_,f_,f_,f_,f_,f_,f_,f_,f_,f_] rfl rfl HT_.out (by kernel_rfl) (fun _ _ _ h => h) (.inl ⟨by rfl, ?_⟩) ?_ ?_ ?_
 rotate_left
 ·intro w'
  go_simp
  with_reducible rfl
 rotate_left
 ·simp only [Q_]
  rfl
 refine tk_ 0 37 ?_ #[t_,f_,f_,f_,f_,t_,f_,f_,f_,f_,f_,f_,f_,f_,f_,f_,f_] rfl rfl (take_ofW HT_.out HW_.out (by kernel_rfl)) (fun _ _ _ h => h) (.inl ⟨by rfl, ?_⟩) hHeld ?_ ?_ ?_
 rotate_left
 ·rintro w' ⟨s0, s1, s2, s3, s4, s5, s6⟩
  go_simp
  with_reducible rfl
 rotate_left
 ·simp only [Q_]
  rfl
 refine p_ 1 38 ?_ #[t_,t_,f_,f_,f_,t_,f_,f_,f_,f_,f_,f_,f_,f_,f_,f_,f_] rfl rfl HT_.out (by kernel_rfl) (fun _ _ _ h => h) (.inl ⟨by rfl, ?_⟩) ?_ ?_ ?_
 rotate_left
 ·intro w'
  go_simp
  with_reducible rfl
 rotate_left
 ·simp only [Q_]
  rfl
 refine p_ 2 39 ?_ #[t_,t_,t_,f_,f_,t_,f_,f_,f_,f_,f_,f_,f_,f_,f_,f_,f_] rfl rfl HT_.out (by kernel_rfl) (fun _ _ _ h => h) (.inl ⟨by rfl, ?_⟩) ?_ ?_ ?_
 rotate_left
 ·intro w'
  go_simp
  with_reducible rfl
 rotate_left
 ·simp only [Q_]
  rfl
 refine p_ 3 40 ?_ #[t_,t_,t_,t_,f_,t_,f_,f_,f_,f_,f_,f_,f_,f_,f_,f_,f_] rfl rfl HT_.out (by kernel_rfl) (fun _ _ _ h => h) (.inl ⟨by rfl, ?_⟩) ?_ ?_ ?_
 rotate_left
 ·intro w'
  go_simp
  with_reducible rfl
 rotate_left
 ·simp only [Q_]
  rfl
 refine tk_ 4 41 ?_ #[t_,t_,t_,t_,t_,t_,f_,f_,f_,f_,f_,f_,f_,f_,f_,f_,f_] rfl rfl (take_ofW HT_.out HW_.out (by kernel_rfl)) (fun _ _ _ h => h) (.inl ⟨by rfl, ?_⟩) hHeld ?_ ?_ ?_
 rotate_left
 ·rintro w' ⟨s0, s1, s2, s3, s4, s5, s6⟩
  go_simp
  with_reducible rfl
 rotate_left
 ·simp only [Q_]
  rfl
 refine p_ 6 43 ?_ #[t_,t_,t_,t_,t_,t_,t_,f_,f_,f_,f_,f_,f_,f_,f_,f_,f_] rfl rfl HT_.out (by kernel_rfl) (fun _ _ _ h => h) (.inl ⟨by rfl, ?_⟩) ?_ ?_ ?_
 rotate_left
 ·intro w'
  go_simp
  with_reducible rfl
 rotate_left
 ·simp only [Q_]
  rfl
 refine tk_ 7 44 ?_ #[t_,t_,t_,t_,t_,t_,t_,t_,f_,f_,f_,f_,f_,f_,f_,f_,f_] rfl rfl (take_ofW HT_.out HW_.out (by kernel_rfl)) (fun _ _ _ h => h) (.inl ⟨by rfl, ?_⟩) hHeld ?_ ?_ ?_
 rotate_left
 ·rintro w' ⟨s0, s1, s2, s3, s4, s5, s6⟩
  go_simp
  with_reducible rfl
 rotate_left
 ·simp only [Q_]
  rfl
 refine tk_ 8 45 ?_ #[t_,t_,t_,t_,t_,t_,t_,t_,t_,f_,f_,f_,f_,f_,f_,f_,f_] rfl rfl (take_ofW HT_.out HW_.out (by kernel_rfl)) (fun _ _ _ h => h) (.inl ⟨by rfl, ?_⟩) hHeld ?_ ?_ ?_
 rotate_left
 ·rintro w' ⟨s0, s1, s2, s3, s4, s5, s6⟩
  go_simp
  with_reducible rfl
 rotate_left
 ·simp only [Q_]
  rfl
 refine p_ 9 46 ?_ #[t_,t_,t_,t_,t_,t_,t_,t_,t_,t_,f_,f_,f_,f_,f_,f_,f_] rfl rfl HT_.out (by kernel_rfl) (fun _ _ _ h => h) (.inl ⟨by rfl, ?_⟩) ?_ ?_ ?_
 rotate_left
 ·intro w'
  go_simp
  with_reducible rfl
 rotate_left
 ·simp only [Q_]
  rfl
 refine p_ 10 47 ?_ #[t_,t_,t_,t_,t_,t_,t_,t_,t_,t_,t_,f_,f_,f_,f_,f_,f_] rfl rfl HT_.out (by kernel_rfl) (fun _ _ _ h => h) (.inl ⟨by rfl, ?_⟩) ?_ ?_ ?_
 rotate_left
 ·intro w'
  go_simp
  with_reducible rfl
 rotate_left
 ·simp only [Q_]
  rfl
 refine p_ 11 48 ?_ #[t_,t_,t_,t_,t_,t_,t_,t_,t_,t_,t_,t_,f_,f_,f_,f_,f_] rfl rfl HT_.out (by kernel_rfl) (fun _ _ _ h => h) (.inl ⟨by rfl, ?_⟩) ?_ ?_ ?_
 rotate_left
 ·intro w'
  go_simp
  with_reducible rfl
 rotate_left
 ·simp only [Q_]
  rfl
 refine tk_ 12 49 ?_ #[t_,t_,t_,t_,t_,t_,t_,t_,t_,t_,t_,t_,t_,f_,f_,f_,f_] rfl rfl (take_ofW HT_.out HW_.out (by kernel_rfl)) (fun _ _ _ h => h) (.inl ⟨by rfl, ?_⟩) hHeld ?_ ?_ ?_
 rotate_left
 ·rintro w' ⟨s0, s1, s2, s3, s4, s5, s6⟩
  go_simp
  with_reducible rfl
 rotate_left
 ·simp only [Q_]
  rfl
 refine join_ (σ := Nat × Nat) 2 #[t_,t_,t_,t_,t_,t_,t_,t_,t_,t_,t_,t_,t_,t_,t_,f_,f_] (fun s_ => [(14, .pointer (some ⟨s_.1, 0, none⟩)), (15, .pointer (some ⟨s_.2, 0, none⟩))]) (fun s_ w' => w'.cell? ⟨w.heap.size, 0, none⟩ = some (.pointer (some ⟨F, 0, none⟩)) ∧ w'.cell? ⟨F, 0, none⟩ = some (.int .i64 C) ∧ w'.cell? ⟨F, 1, none⟩ = some (.slice (some ⟨tb, tq, none⟩) n c) ∧ w'.cell? ⟨tb, tq + i * 4, none⟩ = some (.int .i64 ((tk ts i).get 0)) ∧ w'.cell? ⟨tb, tq + i * 4 + 1, none⟩ = some (.int .i64 ((tk ts i).get 1)) ∧ w'.cell? ⟨tb, tq + i * 4 + 2, none⟩ = some (.int .i64 ((tk ts i).get 2)) ∧ w'.cell? ⟨tb, tq + i * 4 + 3, none⟩ = some (.int .i64 ((tk ts i).get 3)) ∧ TwoB wd w' s_.1 s_.2) ?_ ?_
 rotate_left
 ·intro hCont
  refine two_ (i := 13) (j := 14) (Ni := some 14) (Nj := some 15) #[t_,t_,t_,t_,t_,t_,t_,t_,t_,t_,t_,t_,t_,t_,f_,f_,f_] #[t_,t_,t_,t_,t_,t_,t_,t_,t_,t_,t_,t_,t_,f_,t_,f_,f_] rfl rfl rfl rfl (two_of HT_.out (by kernel_rfl)) (by decide) (by decide) (fun K hK => ?_) (fun K hK => ?_)
  ·skip
   refine value_ (w1 := ?_) (v := ?_) (by rfl) rfl ?_ ?_
   rotate_left 2
   ·go_simp
    constructor
    ·rfl
    ·rfl
   refine hK.out _ _ ⟨cell_to (below_alloc (Below.refl _ _) _) hHeld.1, cell_to (below_alloc (Below.refl _ _) _) hHeld.2.1, cell_to (below_alloc (Below.refl _ _) _) hHeld.2.2.1, cell_to (below_alloc (Below.refl _ _) _) hHeld.2.2.2.1, cell_to (below_alloc (Below.refl _ _) _) hHeld.2.2.2.2.1, cell_to (below_alloc (Below.refl _ _) _) hHeld.2.2.2.2.2.1, cell_to (below_alloc (Below.refl _ _) _) hHeld.2.2.2.2.2.2⟩ (fun hHeld => ?_)
   clear hK K
   refine norm_ (a' := ?_) ?_ ?_
   rotate_left
   ·show Act.put _ (some 14) _ = _
    simp only [Q_]
    rfl
   refine one_ (i := 14) (N := some 15) #[t_,t_,t_,t_,t_,t_,t_,t_,t_,t_,t_,t_,t_,t_,t_,f_,f_] rfl rfl (one_of HT_.out (by kernel_rfl)) (by decide) (fun K hK => ?_)
   refine value_ (w1 := ?_) (v := ?_) (by rfl) rfl ?_ ?_
   rotate_left 2
   ·go_simp
    constructor
    ·rfl
    ·rfl
   refine hK.out _ _ ⟨cell_to (below_alloc (Below.refl _ _) _) hHeld.1, cell_to (below_alloc (Below.refl _ _) _) hHeld.2.1, cell_to (below_alloc (Below.refl _ _) _) hHeld.2.2.1, cell_to (below_alloc (Below.refl _ _) _) hHeld.2.2.2.1, cell_to (below_alloc (Below.refl _ _) _) hHeld.2.2.2.2.1, cell_to (below_alloc (Below.refl _ _) _) hHeld.2.2.2.2.2.1, cell_to (below_alloc (Below.refl _ _) _) hHeld.2.2.2.2.2.2⟩ (fun hHeld => ?_)
   clear hK K
   refine norm_ (a' := ?_) ?_ ?_
   rotate_left
   ·show Act.put _ (some 15) _ = _
    simp only [Q_]
    rfl
   exact norm_ (by first | (simp only [putAll, Act.put, q1_, q2_, q3_]; done) | (simp only [putAll, Act.put, q1_, q2_, q3_]; rfl)) (hCont (wd.heap.size + 0, wd.heap.size + 1) _ ⟨hHeld.1, hHeld.2.1, hHeld.2.2.1, hHeld.2.2.2.1, hHeld.2.2.2.2.1, hHeld.2.2.2.2.2.1, hHeld.2.2.2.2.2.2, two_boxes0 wd⟩)
  ·skip
   refine value_ (w1 := ?_) (v := ?_) (by rfl) rfl ?_ ?_
   rotate_left 2
   ·go_simp
    constructor
    ·rfl
    ·rfl
   refine hK.out _ _ ⟨cell_to (below_alloc (Below.refl _ _) _) hHeld.1, cell_to (below_alloc (Below.refl _ _) _) hHeld.2.1, cell_to (below_alloc (Below.refl _ _) _) hHeld.2.2.1, cell_to (below_alloc (Below.refl _ _) _) hHeld.2.2.2.1, cell_to (below_alloc (Below.refl _ _) _) hHeld.2.2.2.2.1, cell_to (below_alloc (Below.refl _ _) _) hHeld.2.2.2.2.2.1, cell_to (below_alloc (Below.refl _ _) _) hHeld.2.2.2.2.2.2⟩ (fun hHeld => ?_)
   clear hK K
   refine norm_ (a' := ?_) ?_ ?_
   rotate_left
   ·show Act.put _ (some 15) _ = _
    simp only [Q_]
    rfl
   refine one_ (i := 13) (N := some 14) #[t_,t_,t_,t_,t_,t_,t_,t_,t_,t_,t_,t_,t_,t_,t_,f_,f_] rfl rfl (one_of HT_.out (by kernel_rfl)) (by decide) (fun K hK => ?_)
   refine value_ (w1 := ?_) (v := ?_) (by rfl) rfl ?_ ?_
   rotate_left 2
   ·go_simp
    constructor
    ·rfl
    ·rfl
   refine hK.out _ _ ⟨cell_to (below_alloc (Below.refl _ _) _) hHeld.1, cell_to (below_alloc (Below.refl _ _) _) hHeld.2.1, cell_to (below_alloc (Below.refl _ _) _) hHeld.2.2.1, cell_to (below_alloc (Below.refl _ _) _) hHeld.2.2.2.1, cell_to (below_alloc (Below.refl _ _) _) hHeld.2.2.2.2.1, cell_to (below_alloc (Below.refl _ _) _) hHeld.2.2.2.2.2.1, cell_to (below_alloc (Below.refl _ _) _) hHeld.2.2.2.2.2.2⟩ (fun hHeld => ?_)
   clear hK K
   refine norm_ (a' := ?_) ?_ ?_
   rotate_left
   ·show Act.put _ (some 14) _ = _
    simp only [Q_]
    rfl
   exact norm_ (by first | (simp only [putAll, Act.put, q1_, q2_, q3_]; done) | (simp only [putAll, Act.put, q1_, q2_, q3_]; rfl)) (hCont (wd.heap.size + 1, wd.heap.size + 0) _ ⟨hHeld.1, hHeld.2.1, hHeld.2.2.1, hHeld.2.2.2.1, hHeld.2.2.2.2.1, hHeld.2.2.2.2.2.1, hHeld.2.2.2.2.2.2, two_boxes1 wd⟩)
 rintro ⟨t2b, cb⟩ w27 ⟨h0_, h1_, h2_, h3_, h4_, h5_, h6_, hTB⟩
 have hHeld : w27.cell? ⟨w.heap.size, 0, none⟩ = some (.pointer (some ⟨F, 0, none⟩)) ∧ w27.cell? ⟨F, 0, none⟩ = some (.int .i64 C) ∧ w27.cell? ⟨F, 1, none⟩ = some (.slice (some ⟨tb, tq, none⟩) n c) ∧ w27.cell? ⟨tb, tq + i * 4, none⟩ = some (.int .i64 ((tk ts i).get 0)) ∧ w27.cell? ⟨tb, tq + i * 4 + 1, none⟩ = some (.int .i64 ((tk ts i).get 1)) ∧ w27.cell? ⟨tb, tq + i * 4 + 2, none⟩ = some (.int .i64 ((tk ts i).get 2)) ∧ w27.cell? ⟨tb, tq + i * 4 + 3, none⟩ = some (.int .i64 ((tk ts i).get 3)) := ⟨h0_, h1_, h2_, h3_, h4_, h5_, h6_⟩
 refine norm_ (a' := ?_) ?_ ?_
 rotate_left
 ·simp only [putAll, Act.put, q1_, q2_, q3_]
  rfl
 refine one_ (i := 15) (N := none) #[t_,t_,t_,t_,t_,t_,t_,t_,t_,t_,t_,t_,t_,t_,t_,t_,f_] rfl rfl (one_of HT_.out (by kernel_rfl)) (by decide) (fun K hK => ?_)
 have bT := hTB.t
 have bC := hTB.c
 have y0 : w27.cell? ⟨t2b, 0, none⟩ = some (.int .i64 0) := bT.cell rfl
 have y1 : w27.cell? ⟨t2b, 1, none⟩ = some (.int .i64 0) := bT.cell rfl
 have y2 : w27.cell? ⟨t2b, 2, none⟩ = some (.int .i64 0) := bT.cell rfl
 have y3 : w27.cell? ⟨t2b, 3, none⟩ = some (.int .i64 0) := bT.cell rfl
 have f0 := bT.frozen 0; have f1 := bT.frozen 1; have f2 := bT.frozen 2; have f3 := bT.frozen 3
 refine skip_ (w1 := ?_) (by rfl) rfl ?_ ?_
 rotate_left
 ·go_simp
  rfl
 have hs4 := below_set4g hTB.be hTB.gt (.int .i64 ((tk ts i).get 0)) (.int .i64 ((tk ts i).get 1)) (.int .i64 ((tk ts i).get 2)) (.int .i64 ((tk ts i).get 3))
 have bT4 := (((bT.set 0 (.int .i64 ((tk ts i).get 0))).set 1 (.int .i64 ((tk ts i).get 1))).set 2 (.int .i64 ((tk ts i).get 2))).set 3 (.int .i64 ((tk ts i).get 3))
 have bC4 := (((bC.set_ne hTB.ne 0 (.int .i64 ((tk ts i).get 0))).set_ne hTB.ne 1 (.int .i64 ((tk ts i).get 1))).set_ne hTB.ne 2 (.int .i64 ((tk ts i).get 2))).set_ne hTB.ne 3 (.int .i64 ((tk ts i).get 3))
 refine hK.out _ _ ⟨cell_to hs4 (cell_to hD q0), cell_to hs4 (cell_to hD q1), cell_to hs4 (cell_to hD q2), cell_to hs4 (cell_to hD c0), cell_to hs4 (cell_to hD c1), cell_to hs4 (cell_to hD c2), cell_to hs4 (cell_to hD c3)⟩ (fun hHeld => ?_)
 clear hK K
 refine one_ (i := 16) (N := none) #[t_,t_,t_,t_,t_,t_,t_,t_,t_,t_,t_,t_,t_,t_,t_,t_,t_] rfl rfl (one_of HT_.out (by kernel_rfl)) (by decide) (fun K hK => ?_)
 generalize ((((w27.setCell ⟨t2b, 0, none⟩ (.int .i64 ((tk ts i).get 0))).setCell ⟨t2b, 1, none⟩ (.int .i64 ((tk ts i).get 1))).setCell ⟨t2b, 2, none⟩ (.int .i64 ((tk ts i).get 2))).setCell ⟨t2b, 3, none⟩ (.int .i64 ((tk ts i).get 3))) = w28 at hs4 bT4 bC4 ⊢
 have z0 : w28.cell? ⟨cb, 0, none⟩ = some (.int .i64 0) := bC4.cell rfl
 have g0 := bC4.frozen 0
 refine skip_ (w1 := ?_) (by rfl) rfl ?_ ?_
 rotate_left
 ·go_simp
  rfl
 have hs5 : Below wd.heap.size wd (w28.setCell ⟨cb, 0, none⟩ (.int .i64 C)) := hs4.setCell hTB.gc _
 have bC5 := bC4.set 0 (.int .i64 C)
 have bT5 := bT4.set_ne (Ne.symm hTB.ne) 0 (.int .i64 C)
 refine hK.out _ _ ⟨cell_to hs5 (cell_to hD q0), cell_to hs5 (cell_to hD q1), cell_to hs5 (cell_to hD q2), cell_to hs5 (cell_to hD c0), cell_to hs5 (cell_to hD c1), cell_to hs5 (cell_to hD c2), cell_to hs5 (cell_to hD c3)⟩ (fun hHeld => ?_)
 clear hK K
 refine done_ (done_of HT_.out (by kernel_rfl)) ?_
 generalize w28.setCell ⟨cb, 0, none⟩ (.int .i64 C) = w4 at hs5 bC5 bT5 ⊢
 have hfb : FB w w4 w.heap.size (w.heap.size + 1) t2b cb F s C (tk ts i) := ⟨below_to HB (below_to hD hs5), cell_to hs5 (cell_to hD q0), cell_to hs5 (cell_to hD a2), bT5.cell rfl, bT5.cell rfl, bT5.cell rfl, bT5.cell rfl, bC5.cell rfl⟩
 clear hs4 hs5 bC4 bC5 bT4 bT5 q0 q1 q2 c0 c1 c2 c3 a2 hD
 try clear hHeld
 have HFB := Lib.hid hfb; clear hfb HB
 go_upto_region 6 with fail
 go_cut [52] from 19 (fun s52 wx => s52 = .bool (BadP plan y x i) ∧ FB w wx w.heap.size (w.heap.size + 1) t2b cb F s C (tk ts i))
 case first =>
  as_aux_lemma =>
   have a1 := HFB.out.f
   have q5 := cell_to HFB.out.be HQ5.out
   have hrow := cell_to HFB.out.be hp_
   have hcel := cell_to HFB.out.be hrx
   by_cases g1 : 0 ≤ ik (rowAt plan y) x
   ·by_cases g2 : ik (rowAt plan y) x = i
    ·have k1 : ik (rowAt plan y) x ≥ 0 := g1
     have k2 : (ik (rowAt plan y) x != (i : Int)) = false := by simp [g2]
     have k3 : BadP plan y x i = false := by simp [BadP, g2]
     go_wp2_with fail
     go_meet
     exact ⟨congrArg Value.bool k3.symm, HFB.out⟩
    ·have k1 : ik (rowAt plan y) x ≥ 0 := g1
     have k2 : (ik (rowAt plan y) x != (i : Int)) = true := by simp [g2]
     have k3 : BadP plan y x i = true := by simp [BadP, g1, g2]
     go_wp2_with fail
     go_meet
     exact ⟨congrArg Value.bool k3.symm, HFB.out⟩
   ·have k1 : ¬ ik (rowAt plan y) x ≥ 0 := g1
    have k3 : BadP plan y x i = false := by simp [BadP, g1]
    go_wp2_with fail
    go_meet
    exact ⟨congrArg Value.bool k3.symm, HFB.out⟩
 case rest =>
 obtain ⟨rfl, hfb⟩ := hcut
 obtain ⟨bp, hP⟩ : ∃ b_, b_ = BadP plan y x i := ⟨_, rfl⟩
 rw [← hP]
 have HP := Lib.hid hP; clear hP HFB
 rcases bp with _ | _
 rotate_left
 ·go_wp2_with fail
  go_ret2
  exact ⟨congrArg Ending.returned (out_none (HBAD.out (.inl HP.out.symm))), hfb.be⟩
 go_upto_region 8 with fail
 go_cut [78] from 19 (fun s78 wx => s78 = .bool (test2 bs cn s (tk ts i) y x) ∧ FB w wx w.heap.size (w.heap.size + 1) t2b cb F s C (tk ts i))
 case first =>
  as_aux_lemma =>
   have hdig := HD.out
   obtain ⟨w4, rfl⟩ : ∃ w_, w_ = wc := ⟨_, rfl⟩
   have a1 := hfb.f; have a2 := hfb.s; have a3 := hfb.t0; have a4 := hfb.t1; have a5 := hfb.t2; have a6 := hfb.t3; have a7 := hfb.c
   have HFB := Lib.hid hfb
   have q1 := cell_to hfb.be HQ1.out; have q2 := cell_to hfb.be HQ2.out; have q3 := cell_to hfb.be HQ3.out; have q4 := cell_to hfb.be HQ4.out; have q5 := cell_to hfb.be HQ5.out
   have HBS := Lib.hid (HA2.out.below hfb.be); have HPW := Lib.hid (HA3.out.below hfb.be)
   have l1 := World.block_lt_of_cell? w4 _ a1; have l2 := World.block_lt_of_cell? w4 _ a2; have l3 := World.block_lt_of_cell? w4 _ a3; have l7 := World.block_lt_of_cell? w4 _ a7; have lq := World.block_lt_of_cell? w4 _ q1
   simp only at l1 l2 l3 l7 lq
   clear hfb
   by_cases g0 : y = 0
   ·have HG := Lib.hid g0
    have vY : (((y : Nat) : Int) == 0) = true := by simp [g0]
    have vY3 : decide (0 < y) = false := by simp [g0]; try omega
    have vY4 : (y == 0) = true := by simp [g0]
    have vY5 : decide (((y : Nat) : Int) > 0) = false := by simp; omega
    have vY6 : decide (y = 0) = true := by simp [g0]
    obtain ⟨bo_, hbo⟩ : ∃ b_, b_ = bordB bs 1 x ((tk ts i).get 1) := ⟨_, rfl⟩
    have HBO := Lib.hid hbo.symm; clear hbo
    clear g0
    rcases bo_ with _ | _
    ·refine wp_region_gro (by kernel_rfl) (by kernel_rfl) ?_
     repeat (first | go_big_quiet_step ((go_at_call 94; exact quiet_call (by have h := border_any (some ⟨bb, bo, none⟩) bs 4 c2 1 x w.heap.size F t2b ((tk ts i).get 1) (gro w4 ‹GP›) HM2.out (HBS.out.below (gro_below w4 _)) (by omega) (by omega) (by have := HBL.out 1 (by omega); simp at this; omega) (cell_to (gro_below w4 _) a1) (cell_to (gro_below w4 _) q3) (cell_to (gro_below w4 _) a4) (by omega); rw [HBO.out] at h; exact h))) | quiet_step ((go_at_call 94; exact quiet_call (by have h := border_any (some ⟨bb, bo, none⟩) bs 4 c2 1 x w.heap.size F t2b ((tk ts i).get 1) (gro w4 ‹GP›) HM2.out (HBS.out.below (gro_below w4 _)) (by omega) (by omega) (by have := HBL.out 1 (by omega); simp at this; omega) (cell_to (gro_below w4 _) a1) (cell_to (gro_below w4 _) q3) (cell_to (gro_below w4 _) a4) (by omega); rw [HBO.out] at h; exact h))))
     refine wpQuiet_nil ?_
     intro w5 hB5
     go_wp2_with fail
     go_meet
     exact ⟨congrArg Value.bool (by have g1 := HBO.out; have g0 := HG.out; unfold test2; rw [g1, decide_eq_true g0]; rfl), HFB.out.to hB5⟩
    ·refine wp_region_gro (by kernel_rfl) (by kernel_rfl) ?_
     repeat (first | go_big_quiet_step ((go_at_call 94; exact quiet_call (by have h := border_any (some ⟨bb, bo, none⟩) bs 4 c2 1 x w.heap.size F t2b ((tk ts i).get 1) (gro w4 ‹GP›) HM2.out (HBS.out.below (gro_below w4 _)) (by omega) (by omega) (by have := HBL.out 1 (by omega); simp at this; omega) (cell_to (gro_below w4 _) a1) (cell_to (gro_below w4 _) q3) (cell_to (gro_below w4 _) a4) (by omega); rw [HBO.out] at h; exact h))) | quiet_step ((go_at_call 94; exact quiet_call (by have h := border_any (some ⟨bb, bo, none⟩) bs 4 c2 1 x w.heap.size F t2b ((tk ts i).get 1) (gro w4 ‹GP›) HM2.out (HBS.out.below (gro_below w4 _)) (by omega) (by omega) (by have := HBL.out 1 (by omega); simp at this; omega) (cell_to (gro_below w4 _) a1) (cell_to (gro_below w4 _) q3) (cell_to (gro_below w4 _) a4) (by omega); rw [HBO.out] at h; exact h))))
     refine wpQuiet_nil ?_
     intro w5 hB5
     go_wp2_with fail
     go_meet
     exact ⟨congrArg Value.bool (by have g1 := HBO.out; have g0 := HG.out; unfold test2; rw [g1, decide_eq_true g0]; rfl), HFB.out.to hB5⟩
   ·have HG := Lib.hid g0
    have vY : (((y : Nat) : Int) == 0) = false := by simp [g0]
    have vY3 : decide (0 < y) = true := by simp [g0]; try omega
    have vY4 : (y == 0) = false := by simp [g0]
    have vY5 : decide (((y : Nat) : Int) > 0) = true := by simp; omega
    have vY6 : decide (y = 0) = false := by simp [g0]
    clear g0
    by_cases g1 : ((dig cn s x : Nat) : Int) = (tk ts i).get 1
    ·have HG1 := Lib.hid g1
     have v5 : (((dig cn s x : Nat) : Int) != (tk ts i).get 1) = false := by simp [g1]
     have HDG := Lib.hid (hdig x)
     clear g1 hdig
     refine wp_region_gro (by kernel_rfl) (by kernel_rfl) ?_
     repeat (first | go_big_quiet_step ((go_at_call 95; exact quiet_call (by have h := digit_any (some ⟨wb, wo, none⟩) pw m3 c3 x (w.heap.size + 1) w.heap.size F cb (s : Int) C ((cn ^ x : Nat) : Int) (gro w4 ‹GP›) HM3.out (HPW.out.below (gro_below w4 _)) (by have := HM3.out; omega) (by omega) (cell_to (gro_below w4 _) a2) (cell_to (gro_below w4 _) a1) (cell_to (gro_below w4 _) q4) (cell_to (gro_below w4 _) a7) (HPK.out x (by omega)) (nat_ne0 (Nat.pow_pos HCN.out)) HC0.out; rw [HDG.out] at h; exact h))) | quiet_step ((go_at_call 95; exact quiet_call (by have h := digit_any (some ⟨wb, wo, none⟩) pw m3 c3 x (w.heap.size + 1) w.heap.size F cb (s : Int) C ((cn ^ x : Nat) : Int) (gro w4 ‹GP›) HM3.out (HPW.out.below (gro_below w4 _)) (by have := HM3.out; omega) (by omega) (cell_to (gro_below w4 _) a2) (cell_to (gro_below w4 _) a1) (cell_to (gro_below w4 _) q4) (cell_to (gro_below w4 _) a7) (HPK.out x (by omega)) (nat_ne0 (Nat.pow_pos HCN.out)) HC0.out; rw [HDG.out] at h; exact h))))
     refine wpQuiet_nil ?_
     intro w5 hB5
     go_wp2_with fail
     go_meet
     exact ⟨congrArg Value.bool (by have g1 := HG1.out; have g0 := HG.out; unfold test2; rw [decide_eq_false g0, decide_eq_true g1]; rfl), HFB.out.to hB5⟩
    ·have HG1 := Lib.hid g1
     have v5 : (((dig cn s x : Nat) : Int) != (tk ts i).get 1) = true := by simp [g1]
     have HDG := Lib.hid (hdig x)
     clear g1 hdig
     refine wp_region_gro (by kernel_rfl) (by kernel_rfl) ?_
     repeat (first | go_big_quiet_step ((go_at_call 95; exact quiet_call (by have h := digit_any (some ⟨wb, wo, none⟩) pw m3 c3 x (w.heap.size + 1) w.heap.size F cb (s : Int) C ((cn ^ x : Nat) : Int) (gro w4 ‹GP›) HM3.out (HPW.out.below (gro_below w4 _)) (by have := HM3.out; omega) (by omega) (cell_to (gro_below w4 _) a2) (cell_to (gro_below w4 _) a1) (cell_to (gro_below w4 _) q4) (cell_to (gro_below w4 _) a7) (HPK.out x (by omega)) (nat_ne0 (Nat.pow_pos HCN.out)) HC0.out; rw [HDG.out] at h; exact h))) | quiet_step ((go_at_call 95; exact quiet_call (by have h := digit_any (some ⟨wb, wo, none⟩) pw m3 c3 x (w.heap.size + 1) w.heap.size F cb (s : Int) C ((cn ^ x : Nat) : Int) (gro w4 ‹GP›) HM3.out (HPW.out.below (gro_below w4 _)) (by have := HM3.out; omega) (by omega) (cell_to (gro_below w4 _) a2) (cell_to (gro_below w4 _) a1) (cell_to (gro_below w4 _) q4) (cell_to (gro_below w4 _) a7) (HPK.out x (by omega)) (nat_ne0 (Nat.pow_pos HCN.out)) HC0.out; rw [HDG.out] at h; exact h))))
     refine wpQuiet_nil ?_
     intro w5 hB5
     go_wp2_with fail
     go_meet
     exact ⟨congrArg Value.bool (by have g1 := HG1.out; have g0 := HG.out; unfold test2; rw [decide_eq_false g0, decide_eq_false g1]; rfl), HFB.out.to hB5⟩
 case rest =>
 clear hfb
 obtain ⟨rfl, hfb⟩ := hcut
 obtain ⟨bp, hP⟩ : ∃ b_, b_ = test2 bs cn s (tk ts i) y x := ⟨_, rfl⟩
 rw [← hP]
 have HP2 := Lib.hid hP; clear hP
 rcases bp with _ | _
 rotate_left
 ·go_wp2_with fail
  go_ret2
  exact ⟨congrArg Ending.returned (out_none (HBAD.out (.inr (.inl HP2.out.symm)))), hfb.be⟩
 go_upto_region 10 with fail
 go_cut [99] from 19 (fun s99 wx => s99 = .bool (test3 bs cn s (rowLen plan 0) (tk ts i) y x) ∧ FB w wx w.heap.size (w.heap.size + 1) t2b cb F s C (tk ts i))
 case first =>
  as_aux_lemma =>
   have hdig := HD.out
   obtain ⟨w4, rfl⟩ : ∃ w_, w_ = wc := ⟨_, rfl⟩
   have a1 := hfb.f; have a2 := hfb.s; have a3 := hfb.t0; have a4 := hfb.t1; have a5 := hfb.t2; have a6 := hfb.t3; have a7 := hfb.c
   have HFB := Lib.hid hfb
   have q1 := cell_to hfb.be HQ1.out; have q2 := cell_to hfb.be HQ2.out; have q3 := cell_to hfb.be HQ3.out; have q4 := cell_to hfb.be HQ4.out; have q5 := cell_to hfb.be HQ5.out
   have HBS := Lib.hid (HA2.out.below hfb.be); have HPW := Lib.hid (HA3.out.below hfb.be)
   have l1 := World.block_lt_of_cell? w4 _ a1; have l2 := World.block_lt_of_cell? w4 _ a2; have l3 := World.block_lt_of_cell? w4 _ a3; have l7 := World.block_lt_of_cell? w4 _ a7; have lq := World.block_lt_of_cell? w4 _ q1
   simp only at l1 l2 l3 l7 lq
   clear hfb
   by_cases g0 : x = 0
   ·have HG := Lib.hid g0
    have vX : (((x : Nat) : Int) == 0) = true := by simp [g0]
    have vX3 : decide (0 < x) = false := by simp [g0]; try omega
    have vX4 : (x == 0) = true := by simp [g0]
    have vX5 : decide (((x : Nat) : Int) > 0) = false := by simp; omega
    have vX6 : decide (x = 0) = true := by simp [g0]
    obtain ⟨bo_, hbo⟩ : ∃ b_, b_ = bordB bs 0 y ((tk ts i).get 0) := ⟨_, rfl⟩
    have HBO := Lib.hid hbo.symm; clear hbo
    clear g0
    rcases bo_ with _ | _
    ·refine wp_region_gro (by kernel_rfl) (by kernel_rfl) ?_
     repeat (first | go_big_quiet_step ((go_at_call 94; exact quiet_call (by have h := border_any (some ⟨bb, bo, none⟩) bs 4 c2 0 y w.heap.size F t2b ((tk ts i).get 0) (gro w4 ‹GP›) HM2.out (HBS.out.below (gro_below w4 _)) (by omega) (by omega) (by have := HBL.out 0 (by omega); simp at this; omega) (cell_to (gro_below w4 _) a1) (cell_to (gro_below w4 _) q3) (cell_to (gro_below w4 _) a3) (by omega); rw [HBO.out] at h; exact h))) | quiet_step ((go_at_call 94; exact quiet_call (by have h := border_any (some ⟨bb, bo, none⟩) bs 4 c2 0 y w.heap.size F t2b ((tk ts i).get 0) (gro w4 ‹GP›) HM2.out (HBS.out.below (gro_below w4 _)) (by omega) (by omega) (by have := HBL.out 0 (by omega); simp at this; omega) (cell_to (gro_below w4 _) a1) (cell_to (gro_below w4 _) q3) (cell_to (gro_below w4 _) a3) (by omega); rw [HBO.out] at h; exact h))))
     refine wpQuiet_nil ?_
     intro w5 hB5
     go_wp2_with fail
     go_meet
     exact ⟨congrArg Value.bool (by have g1 := HBO.out; have g0 := HG.out; unfold test3; rw [g1, decide_eq_true g0]; rfl), HFB.out.to hB5⟩
    ·refine wp_region_gro (by kernel_rfl) (by kernel_rfl) ?_
     repeat (first | go_big_quiet_step ((go_at_call 94; exact quiet_call (by have h := border_any (some ⟨bb, bo, none⟩) bs 4 c2 0 y w.heap.size F t2b ((tk ts i).get 0) (gro w4 ‹GP›) HM2.out (HBS.out.below (gro_below w4 _)) (by omega) (by omega) (by have := HBL.out 0 (by omega); simp at this; omega) (cell_to (gro_below w4 _) a1) (cell_to (gro_below w4 _) q3) (cell_to (gro_below w4 _) a3) (by omega); rw [HBO.out] at h; exact h))) | quiet_step ((go_at_call 94; exact quiet_call (by have h := border_any (some ⟨bb, bo, none⟩) bs 4 c2 0 y w.heap.size F t2b ((tk ts i).get 0) (gro w4 ‹GP›) HM2.out (HBS.out.below (gro_below w4 _)) (by omega) (by omega) (by have := HBL.out 0 (by omega); simp at this; omega) (cell_to (gro_below w4 _) a1) (cell_to (gro_below w4 _) q3) (cell_to (gro_below w4 _) a3) (by omega); rw [HBO.out] at h; exact h))))
     refine wpQuiet_nil ?_
     intro w5 hB5
     go_wp2_with fail
     go_meet
     exact ⟨congrArg Value.bool (by have g1 := HBO.out; have g0 := HG.out; unfold test3; rw [g1, decide_eq_true g0]; rfl), HFB.out.to hB5⟩
   ·have HG := Lib.hid g0
    have vX : (((x : Nat) : Int) == 0) = false := by simp [g0]
    have vX3 : decide (0 < x) = true := by simp [g0]; try omega
    have vX4 : (x == 0) = false := by simp [g0]
    have vX5 : decide (((x : Nat) : Int) > 0) = true := by simp; omega
    have vX6 : decide (x = 0) = false := by simp [g0]
    clear g0
    by_cases g1 : ((dig cn s (rowLen plan 0) : Nat) : Int) = (tk ts i).get 0
    ·have HG1 := Lib.hid g1
     have v5 : (((dig cn s (rowLen plan 0) : Nat) : Int) != (tk ts i).get 0) = false := by simp [g1]
     have HDG := Lib.hid (hdig (rowLen plan 0))
     clear g1 hdig
     refine wp_region_gro (by kernel_rfl) (by kernel_rfl) ?_
     repeat (first | go_big_quiet_step ((go_at_call 95; exact quiet_call (by have h := digit_any (some ⟨wb, wo, none⟩) pw m3 c3 (rowLen plan 0) (w.heap.size + 1) w.heap.size F cb (s : Int) C ((cn ^ (rowLen plan 0) : Nat) : Int) (gro w4 ‹GP›) HM3.out (HPW.out.below (gro_below w4 _)) (by have := HM3.out; omega) (by omega) (cell_to (gro_below w4 _) a2) (cell_to (gro_below w4 _) a1) (cell_to (gro_below w4 _) q4) (cell_to (gro_below w4 _) a7) (HPK.out _ (Nat.le_refl _)) (nat_ne0 (Nat.pow_pos HCN.out)) HC0.out; rw [HDG.out] at h; exact h))) | quiet_step ((go_at_call 95; exact quiet_call (by have h := digit_any (some ⟨wb, wo, none⟩) pw m3 c3 (rowLen plan 0) (w.heap.size + 1) w.heap.size F cb (s : Int) C ((cn ^ (rowLen plan 0) : Nat) : Int) (gro w4 ‹GP›) HM3.out (HPW.out.below (gro_below w4 _)) (by have := HM3.out; omega) (by omega) (cell_to (gro_below w4 _) a2) (cell_to (gro_below w4 _) a1) (cell_to (gro_below w4 _) q4) (cell_to (gro_below w4 _) a7) (HPK.out _ (Nat.le_refl _)) (nat_ne0 (Nat.pow_pos HCN.out)) HC0.out; rw [HDG.out] at h; exact h))))
     refine wpQuiet_nil ?_
     intro w5 hB5
     go_wp2_with fail
     go_meet
     exact ⟨congrArg Value.bool (by have g1 := HG1.out; have g0 := HG.out; unfold test3; rw [decide_eq_false g0, decide_eq_true g1]; rfl), HFB.out.to hB5⟩
    ·have HG1 := Lib.hid g1
     have v5 : (((dig cn s (rowLen plan 0) : Nat) : Int) != (tk ts i).get 0) = true := by simp [g1]
     have HDG := Lib.hid (hdig (rowLen plan 0))
     clear g1 hdig
     refine wp_region_gro (by kernel_rfl) (by kernel_rfl) ?_
     repeat (first | go_big_quiet_step ((go_at_call 95; exact quiet_call (by have h := digit_any (some ⟨wb, wo, none⟩) pw m3 c3 (rowLen plan 0) (w.heap.size + 1) w.heap.size F cb (s : Int) C ((cn ^ (rowLen plan 0) : Nat) : Int) (gro w4 ‹GP›) HM3.out (HPW.out.below (gro_below w4 _)) (by have := HM3.out; omega) (by omega) (cell_to (gro_below w4 _) a2) (cell_to (gro_below w4 _) a1) (cell_to (gro_below w4 _) q4) (cell_to (gro_below w4 _) a7) (HPK.out _ (Nat.le_refl _)) (nat_ne0 (Nat.pow_pos HCN.out)) HC0.out; rw [HDG.out] at h; exact h))) | quiet_step ((go_at_call 95; exact quiet_call (by have h := digit_any (some ⟨wb, wo, none⟩) pw m3 c3 (rowLen plan 0) (w.heap.size + 1) w.heap.size F cb (s : Int) C ((cn ^ (rowLen plan 0) : Nat) : Int) (gro w4 ‹GP›) HM3.out (HPW.out.below (gro_below w4 _)) (by have := HM3.out; omega) (by omega) (cell_to (gro_below w4 _) a2) (cell_to (gro_below w4 _) a1) (cell_to (gro_below w4 _) q4) (cell_to (gro_below w4 _) a7) (HPK.out _ (Nat.le_refl _)) (nat_ne0 (Nat.pow_pos HCN.out)) HC0.out; rw [HDG.out] at h; exact h))))
     refine wpQuiet_nil ?_
     intro w5 hB5
     go_wp2_with fail
     go_meet
     exact ⟨congrArg Value.bool (by have g1 := HG1.out; have g0 := HG.out; unfold test3; rw [decide_eq_false g0, decide_eq_false g1]; rfl), HFB.out.to hB5⟩
 case rest =>
 clear hfb
 obtain ⟨rfl, hfb⟩ := hcut
 obtain ⟨bp, hP⟩ : ∃ b_, b_ = test3 bs cn s (rowLen plan 0) (tk ts i) y x := ⟨_, rfl⟩
 rw [← hP]
 have HP3 := Lib.hid hP; clear hP
 rcases bp with _ | _
 rotate_left
 ·go_wp2_with fail
  go_ret2
  exact ⟨congrArg Ending.returned (out_none (HBAD.out (.inr (.inr (.inl HP3.out.symm))))), hfb.be⟩
 go_upto_region 12 with fail
 go_cut [120] from 19 (fun s120 wx => s120 = .bool (test4 plan bs (tk ts i) y x) ∧ FB w wx w.heap.size (w.heap.size + 1) t2b cb F s C (tk ts i))
 case first =>
  as_aux_lemma =>
   obtain ⟨w4, rfl⟩ : ∃ w_, w_ = wc := ⟨_, rfl⟩
   have a1 := hfb.f; have a2 := hfb.s; have a3 := hfb.t0; have a4 := hfb.t1; have a5 := hfb.t2; have a6 := hfb.t3; have a7 := hfb.c
   have HFB := Lib.hid hfb
   have q1 := cell_to hfb.be HQ1.out; have q2 := cell_to hfb.be HQ2.out; have q3 := cell_to hfb.be HQ3.out; have q4 := cell_to hfb.be HQ4.out; have q5 := cell_to hfb.be HQ5.out
   have HBS := Lib.hid (HA2.out.below hfb.be); have HPW := Lib.hid (HA3.out.below hfb.be)
   have l1 := World.block_lt_of_cell? w4 _ a1; have l2 := World.block_lt_of_cell? w4 _ a2; have l3 := World.block_lt_of_cell? w4 _ a3; have l7 := World.block_lt_of_cell? w4 _ a7; have lq := World.block_lt_of_cell? w4 _ q1
   simp only at l1 l2 l3 l7 lq
   clear hfb
   have hM1 := HM1.out
   have m5 : m1 ≤ 5 := by omega
   by_cases g0 : y + 1 = plan.length
   ·have HGA := Lib.hid g0
    have vA0 : ((m1 : Nat) : Int) - 1 = (y : Int) := by omega
    clear g0
    obtain ⟨bo_, hbo⟩ : ∃ b_, b_ = bordB bs 3 x ((tk ts i).get 3) := ⟨_, rfl⟩
    have HB3 := Lib.hid hbo.symm; clear hbo
    rcases bo_ with _ | _
    ·clear hM1
     go_wp2_with (first | (go_at_call 94; with_reducible refine (border_lit 3 rfl (some ⟨bb, bo, none⟩) bs 4 c2 3 x w.heap.size F t2b ((tk ts i).get 3) w4 HM2.out HBS.out (by omega) (by omega) (by have := HBL.out 3 (by omega); simp at this; have := HX.out; have := HY.out; omega) a1 q3 a6 (by omega)).mono ?_; rintro e w1_ ⟨rfl, hb1_⟩; rw [HB3.out]; have HW1_ := Lib.hid hb1_; clear hb1_))
     go_meet
     exact ⟨congrArg Value.bool (by unfold test4; rw [decide_eq_true HGA.out, HB3.out]; simp), (HFB.out.to HW1_.out)⟩
    ·by_cases g0 : x + 1 = rowLen plan 0
     ·have HGB := Lib.hid g0
      have vB0 : ((rowLen plan 0 : Nat) : Int) - 1 = (x : Int) := by omega
      clear g0 hM1
      obtain ⟨bo_, hbo⟩ : ∃ b_, b_ = bordB bs 2 y ((tk ts i).get 2) := ⟨_, rfl⟩
      have HB2 := Lib.hid hbo.symm; clear hbo
      rcases bo_ with _ | _
      ·skip
       go_wp2_with (first | (go_at_call 94; with_reducible refine (border_lit 3 rfl (some ⟨bb, bo, none⟩) bs 4 c2 3 x w.heap.size F t2b ((tk ts i).get 3) w4 HM2.out HBS.out (by omega) (by omega) (by have := HBL.out 3 (by omega); simp at this; have := HX.out; have := HY.out; omega) a1 q3 a6 (by omega)).mono ?_; rintro e w1_ ⟨rfl, hb1_⟩; rw [HB3.out]; have HW1_ := Lib.hid hb1_; clear hb1_) | (go_at_call 94; with_reducible refine (border_lit 2 rfl (some ⟨bb, bo, none⟩) bs 4 c2 2 y w.heap.size F t2b ((tk ts i).get 2) w1_ HM2.out (HBS.out.below HW1_.out) (by omega) (by omega) (by have := HBL.out 2 (by omega); simp at this; have := HX.out; have := HY.out; omega) (cell_to HW1_.out a1) (cell_to HW1_.out q3) (cell_to HW1_.out a5) (by omega)).mono ?_; rintro e w2_ ⟨rfl, hb2_⟩; rw [HB2.out]; have HW2_ := Lib.hid hb2_; clear hb2_))
       go_meet
       exact ⟨congrArg Value.bool (by unfold test4; rw [decide_eq_true HGA.out, HB3.out, decide_eq_true HGB.out, HB2.out]; simp), ((HFB.out.to HW1_.out).to HW2_.out)⟩
      ·skip
       go_wp2_with (first | (go_at_call 94; with_reducible refine (border_lit 3 rfl (some ⟨bb, bo, none⟩) bs 4 c2 3 x w.heap.size F t2b ((tk ts i).get 3) w4 HM2.out HBS.out (by omega) (by omega) (by have := HBL.out 3 (by omega); simp at this; have := HX.out; have := HY.out; omega) a1 q3 a6 (by omega)).mono ?_; rintro e w1_ ⟨rfl, hb1_⟩; rw [HB3.out]; have HW1_ := Lib.hid hb1_; clear hb1_) | (go_at_call 94; with_reducible refine (border_lit 2 rfl (some ⟨bb, bo, none⟩) bs 4 c2 2 y w.heap.size F t2b ((tk ts i).get 2) w1_ HM2.out (HBS.out.below HW1_.out) (by omega) (by omega) (by have := HBL.out 2 (by omega); simp at this; have := HX.out; have := HY.out; omega) (cell_to HW1_.out a1) (cell_to HW1_.out q3) (cell_to HW1_.out a5) (by omega)).mono ?_; rintro e w2_ ⟨rfl, hb2_⟩; rw [HB2.out]; have HW2_ := Lib.hid hb2_; clear hb2_))
       go_meet
       exact ⟨congrArg Value.bool (by unfold test4; rw [decide_eq_true HGA.out, HB3.out, decide_eq_true HGB.out, HB2.out]; simp), ((HFB.out.to HW1_.out).to HW2_.out)⟩
     ·have HGB := Lib.hid g0
      have vB0 : (((x : Nat) : Int) == ((rowLen plan 0 : Nat) : Int) - 1) = false := by simp; omega
      clear g0 hM1
      go_wp2_with (first | (go_at_call 94; with_reducible refine (border_lit 3 rfl (some ⟨bb, bo, none⟩) bs 4 c2 3 x w.heap.size F t2b ((tk ts i).get 3) w4 HM2.out HBS.out (by omega) (by omega) (by have := HBL.out 3 (by omega); simp at this; have := HX.out; have := HY.out; omega) a1 q3 a6 (by omega)).mono ?_; rintro e w1_ ⟨rfl, hb1_⟩; rw [HB3.out]; have HW1_ := Lib.hid hb1_; clear hb1_))
      go_meet
      exact ⟨congrArg Value.bool (by unfold test4; rw [decide_eq_true HGA.out, HB3.out, decide_eq_false HGB.out]; simp), (HFB.out.to HW1_.out)⟩
   ·have HGA := Lib.hid g0
    have vA0 : (((y : Nat) : Int) == ((m1 : Nat) : Int) - 1) = false := by simp; omega
    clear g0
    by_cases g0 : x + 1 = rowLen plan 0
    ·have HGB := Lib.hid g0
     have vB0 : ((rowLen plan 0 : Nat) : Int) - 1 = (x : Int) := by omega
     clear g0 hM1
     obtain ⟨bo_, hbo⟩ : ∃ b_, b_ = bordB bs 2 y ((tk ts i).get 2) := ⟨_, rfl⟩
     have HB2 := Lib.hid hbo.symm; clear hbo
     rcases bo_ with _ | _
     ·skip
      go_wp2_with (first | (go_at_call 94; with_reducible refine (border_lit 2 rfl (some ⟨bb, bo, none⟩) bs 4 c2 2 y w.heap.size F t2b ((tk ts i).get 2) w4 HM2.out HBS.out (by omega) (by omega) (by have := HBL.out 2 (by omega); simp at this; have := HX.out; have := HY.out; omega) a1 q3 a5 (by omega)).mono ?_; rintro e w2_ ⟨rfl, hb2_⟩; rw [HB2.out]; have HW2_ := Lib.hid hb2_; clear hb2_))
      go_meet
      exact ⟨congrArg Value.bool (by unfold test4; rw [decide_eq_false HGA.out, decide_eq_true HGB.out, HB2.out]; simp), (HFB.out.to HW2_.out)⟩
     ·skip
      go_wp2_with (first | (go_at_call 94; with_reducible refine (border_lit 2 rfl (some ⟨bb, bo, none⟩) bs 4 c2 2 y w.heap.size F t2b ((tk ts i).get 2) w4 HM2.out HBS.out (by omega) (by omega) (by have := HBL.out 2 (by omega); simp at this; have := HX.out; have := HY.out; omega) a1 q3 a5 (by omega)).mono ?_; rintro e w2_ ⟨rfl, hb2_⟩; rw [HB2.out]; have HW2_ := Lib.hid hb2_; clear hb2_))
      go_meet
      exact ⟨congrArg Value.bool (by unfold test4; rw [decide_eq_false HGA.out, decide_eq_true HGB.out, HB2.out]; simp), (HFB.out.to HW2_.out)⟩
    ·have HGB := Lib.hid g0
     have vB0 : (((x : Nat) : Int) == ((rowLen plan 0 : Nat) : Int) - 1) = false := by simp; omega
     clear g0 hM1
     go_wp2_with (fail)
     go_meet
     exact ⟨congrArg Value.bool (by unfold test4; rw [decide_eq_false HGA.out, decide_eq_false HGB.out]; simp), HFB.out⟩
 case rest =>
 clear hfb
 obtain ⟨rfl, hfb⟩ := hcut
 obtain ⟨bp, hP⟩ : ∃ b_, b_ = test4 plan bs (tk ts i) y x := ⟨_, rfl⟩
 rw [← hP]
 have HP4 := Lib.hid hP; clear hP
 rcases bp with _ | _
 rotate_left
 ·go_wp2_with fail
  go_ret2
  exact ⟨congrArg Ending.returned (out_none (HBAD.out (.inr (.inr (.inr HP4.out.symm))))), hfb.be⟩
 have HR_ := Lib.hid (HGOOD.out HP.out.symm HP2.out.symm HP3.out.symm HP4.out.symm)
 go_upto_region 14 with fail
 obtain ⟨w4, rfl⟩ : ∃ w_, w_ = wc := ⟨_, rfl⟩
 have a1 := hfb.f; have a2 := hfb.s; have a3 := hfb.t0; have a4 := hfb.t1; have a5 := hfb.t2; have a6 := hfb.t3; have a7 := hfb.c
 have HFB := Lib.hid hfb
 have q1 := cell_to hfb.be HQ1.out; have q2 := cell_to hfb.be HQ2.out; have q3 := cell_to hfb.be HQ3.out; have q4 := cell_to hfb.be HQ4.out; have q5 := cell_to hfb.be HQ5.out
 have HBS := Lib.hid (HA2.out.below hfb.be); have HPW := Lib.hid (HA3.out.below hfb.be)
 have l1 := World.block_lt_of_cell? w4 _ a1; have l2 := World.block_lt_of_cell? w4 _ a2; have l3 := World.block_lt_of_cell? w4 _ a3; have l7 := World.block_lt_of_cell? w4 _ a7; have lq := World.block_lt_of_cell? w4 _ q1
 simp only at l1 l2 l3 l7 lq
 clear hfb
 have hd3 : (dig cn s x : Nat) < cn := Nat.mod_lt _ HCN.out
 have hd4 : (dig cn s (rowLen plan 0) : Nat) < cn := Nat.mod_lt _ HCN.out
 have hg2 : (toS (tk ts i)).f2 = (tk ts i).get 2 := rfl
 have hg3 : (toS (tk ts i)).f3 = (tk ts i).get 3 := rfl
 obtain ⟨X, E, G, eX, eE, eG, bX, bE, bG, hn1, hn2⟩ := HNB.out
 rw [hg2] at eG
 rw [hg3] at eX
 have hc3 := hcolI.2.2.2
 have hc2 := hcolI.2.2.1
 rw [hg2] at hc2
 rw [hg3] at hc3
 obtain ⟨_, _, e1, -, x1⟩ := HPW.out x (by omega)
 injection e1 with e1; injection e1 with e4 e5; subst e4 e5
 obtain ⟨_, _, e1, -, x2⟩ := HPW.out (rowLen plan 0) (by omega)
 injection e1 with e1; injection e1 with e4 e5; subst e4 e5
 rw [HPK.out x (by omega)] at x1
 rw [HPK.out _ (Nat.le_refl _)] at x2
 have HP1 := Lib.hid (HPK.out x (by omega)); have HP2_ := Lib.hid (HPK.out (rowLen plan 0) (Nat.le_refl _))
 have n0x : ((cn ^ x : Nat) : Int) ≠ 0 := nat_ne0 (Nat.pow_pos HCN.out)
 have n0w : ((cn ^ rowLen plan 0 : Nat) : Int) ≠ 0 := nat_ne0 (Nat.pow_pos HCN.out)
 have hd3' : (0 : Int) ≤ ((dig cn s x : Nat) : Int) ∧ ((dig cn s x : Nat) : Int) < 7 := by omega
 have hd4' : (0 : Int) ≤ ((dig cn s (rowLen plan 0) : Nat) : Int) ∧ ((dig cn s (rowLen plan 0) : Nat) : Int) < 7 := by omega
 have hc3' : 0 ≤ (tk ts i).get 3 ∧ (tk ts i).get 3 < 7 := by omega
 clear hc2 hc3 hd3 hd4 hg2 hg3
 have hdx := HD.out x
 have hdw := HD.out (rowLen plan 0)
 generalize ((dig cn s x : Nat) : Int) = Dx at *
 generalize ((dig cn s (rowLen plan 0) : Nat) : Int) = Dw at *
 generalize ((cn ^ x : Nat) : Int) = Bx at *
 generalize ((cn ^ rowLen plan 0 : Nat) : Int) = Bw at *
 have HDX := Lib.hid hdx; have HDW := Lib.hid hdw; have HNX := Lib.hid n0x; have HNW := Lib.hid n0w; have HN1 := Lib.hid hn1; have HN2 := Lib.hid hn2
 clear hdx hdw n0x n0w hn1 hn2
 have lw := World.block_lt_of_cell? w4 _ x1
 simp only at lw
 have j6 : (x : Int) < m3 := by have := HM3.out; omega
 have j7 : ((rowLen plan 0 : Nat) : Int) < m3 := by have := HM3.out; omega
 have HGX := Lib.hid eG; clear eG
 refine wp_region_gro (by kernel_rfl) (by kernel_rfl) ?_
 repeat (first | go_big_quiet_step ((first | (go_at_call_of 95 (rowLen plan 0); exact quiet_call (by have h := digit_any (some ⟨wb, wo, none⟩) pw m3 c3 (rowLen plan 0) (w.heap.size + 1) w.heap.size F cb (s : Int) C Bw (gro w4 ‹GP›) HM3.out (HPW.out.below (gro_below w4 _)) (by have := HM3.out; omega) (by omega) (cell_to (gro_below w4 _) a2) (cell_to (gro_below w4 _) a1) (cell_to (gro_below w4 _) q4) (cell_to (gro_below w4 _) a7) HP2_.out HNW.out HC0.out; rw [HDW.out] at h; exact h)) | (go_at_call 95; exact quiet_call (by have h := digit_any (some ⟨wb, wo, none⟩) pw m3 c3 x (w.heap.size + 1) w.heap.size F cb (s : Int) C Bx (gro w4 ‹GP›) HM3.out (HPW.out.below (gro_below w4 _)) (by have := HM3.out; omega) (by omega) (cell_to (gro_below w4 _) a2) (cell_to (gro_below w4 _) a1) (cell_to (gro_below w4 _) q4) (cell_to (gro_below w4 _) a7) HP1.out HNX.out HC0.out; rw [HDX.out] at h; exact h)))) | quiet_step ((first | (go_at_call_of 95 (rowLen plan 0); exact quiet_call (by have h := digit_any (some ⟨wb, wo, none⟩) pw m3 c3 (rowLen plan 0) (w.heap.size + 1) w.heap.size F cb (s : Int) C Bw (gro w4 ‹GP›) HM3.out (HPW.out.below (gro_below w4 _)) (by have := HM3.out; omega) (by omega) (cell_to (gro_below w4 _) a2) (cell_to (gro_below w4 _) a1) (cell_to (gro_below w4 _) q4) (cell_to (gro_below w4 _) a7) HP2_.out HNW.out HC0.out; rw [HDW.out] at h; exact h)) | (go_at_call 95; exact quiet_call (by have h := digit_any (some ⟨wb, wo, none⟩) pw m3 c3 x (w.heap.size + 1) w.heap.size F cb (s : Int) C Bx (gro w4 ‹GP›) HM3.out (HPW.out.below (gro_below w4 _)) (by have := HM3.out; omega) (by omega) (cell_to (gro_below w4 _) a2) (cell_to (gro_below w4 _) a1) (cell_to (gro_below w4 _) q4) (cell_to (gro_below w4 _) a7) HP1.out HNX.out HC0.out; rw [HDX.out] at h; exact h)))))
 refine wpQuiet_nil ?_
 intro w5 hB5
 have HF5 := Lib.hid (HFB.out.to hB5)
 have HW5 := Lib.hid hB5
 by_cases g0 : x + 1 < rowLen plan 0
 ·have HG := Lib.hid g0
  have vw : decide ((x : Int) < ((rowLen plan 0 : Nat) : Int) - 1) = true := decide_eq_true (by omega)
  have vw2 : (x : Int) < ((rowLen plan 0 : Nat) : Int) - 1 := by omega
  clear g0
  go_upto_region 16 with fail
  replace a1 := cell_to hB5 a1; replace a5 := cell_to hB5 a5; replace q4 := cell_to hB5 q4; replace x2 := cell_to hB5 x2
  replace l1 := lt_to hB5 l1; replace l3 := lt_to hB5 l3; replace lq := lt_to hB5 lq; replace lw := lt_to hB5 lw
  have eG := HGX.out
  clear a2 a3 a4 a6 a7 q1 q2 q3 q5 x1 hB5 HFB
  refine wp_region_gro (by kernel_rfl) (by kernel_rfl) ?_
  repeat (first | go_big_quiet_step (fail) | quiet_step (fail))
  refine wpQuiet_nil ?_
  intro w6 hB6
  go_wp2_with fail
  go_ret2
  exact ⟨congrArg Ending.returned (out_some HR_.out (HN1.out HG.out).symm), (HF5.out.to hB6).be⟩
 ·have HG := Lib.hid g0
  have vw : decide ((x : Int) < ((rowLen plan 0 : Nat) : Int) - 1) = false := decide_eq_false (by omega)
  have vw2 : ¬ (x : Int) < ((rowLen plan 0 : Nat) : Int) - 1 := by omega
  clear g0
  go_wp2_with fail
  go_ret2
  exact ⟨congrArg Ending.returned (out_some HR_.out (HN2.out HG.out).symm), HF5.out.be⟩
end Go.Proofs.Ytcaikaflpmaocaa

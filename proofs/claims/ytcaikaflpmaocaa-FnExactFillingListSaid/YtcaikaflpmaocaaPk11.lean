/-
 Parts of the proof, in their order: Lay, LayE, QSpecFirstFilling, PFillL, FitsC.
-/
import Derived.Test.YtcaikaflpmaocaaSq
import Derived.Test.YtcaikaflpmaocaaPk10
import Derived.Deep.CutBlock
import Derived.Test.YtcaikaflpmaocaaPk8
import Derived.Test.YtcaikaflpmaocaaPk7
import Derived.Test.YtcaikaflpmaocaaPk9
namespace Go.Proofs.Ytcaikaflpmaocaa
open Go Go.RowKit Go.Proofs Go.Proofs.YtcaikaflpmaocaaW.PrintWords Go.Proofs.YtcaikaflpmaocaaW.PrintLast Go.Proofs.YtcaikaflpmaocaaW.PrintMore Go.Proofs.Ytcaikaflpmaocaa.Q
set_option linter.unusedVariables false
set_option linter.unusedSimpArgs false
def lay_T15 : Bool × List (List Nat × List Nat) := (true, [([], []), ([], []), ([0, 1], [0, 1]), ([], []), ([], []), ([3, 4], [3, 4]), ([], []), ([6, 6], [6]), ([2, 0, 1, 2], [2]), ([5, 8, 0, 1, 2, 3, 4, 5, 8], [5]), ([7, 9, 0, 1, 2, 3, 4, 5, 6, 7, 8, 9], [7])])
def lay_B15 : List Nat := [0, 0, 3, 0, 0, 24, 0, 64, 7, 319, 1023]
theorem lay_tab15 : rtab .any (opsOf Try.f57 15) = lay_T15 := by kernel_rfl
theorem lay_bits15 : waitsOk lay_T15.2 lay_B15 = true := by kernel_rfl
def lay_T28 : Bool × List (List Nat × List Nat) := (true, [([], []), ([], []), ([], []), ([], []), ([2, 3], [2, 3]), ([4], [4]), ([], []), ([], []), ([7], [7]), ([6, 8], [6, 8]), ([9], [9]), ([], []), ([10, 11], [10, 11]), ([12], [12]), ([5, 13], [5, 13]), ([14], [14]), ([0, 1, 0, 1, 2, 3, 4, 5, 6, 7, 8, 9, 10, 11, 12, 13, 14, 15], [0, 1]), ([16, 15, 0, 1, 2, 3, 4, 5, 6, 7, 8, 9, 10, 11, 12, 13, 14, 15], [15, 16])])
def lay_B28 : List Nat := [0, 0, 0, 0, 12, 28, 0, 0, 128, 448, 960, 0, 4032, 8128, 16380, 32764, 65535, 131071]
theorem lay_tab28 : rtab .any (opsOf Try.f57 28) = lay_T28 := by kernel_rfl
theorem lay_bits28 : waitsOk lay_T28.2 lay_B28 = true := by kernel_rfl
theorem infoInts : (Try.prog.info? 56).map (fun i => (i.zero, i.size, i.bytes)) = some (some (.slice none 0 0), 1, 24) := by kernel_rfl
theorem ones_set (sz i : Nat) (h : i < sz) : (List.replicate i (1 : Int) ++ List.replicate (sz - i) 0).set i 1 = List.replicate (i + 1) 1 ++ List.replicate (sz - (i + 1)) 0 := by
 apply List.ext_getElem
 ·simp; omega
 ·intro j h1 h2
  simp only [List.length_set, List.length_append, List.length_replicate] at h1
  rw [List.getElem_set]
  by_cases e : i = j
  ·subst e; simp [List.getElem_append]
  ·rw [if_neg e]
   simp only [List.getElem_append, List.length_replicate, List.getElem_replicate]
   by_cases h3 : j < i
   ·simp [h3, show j < i + 1 by omega]
   ·simp [h3, show ¬ j < i + 1 by omega]
theorem dv_nat (a b : Nat) (h : a < 1000000000) : wrap64 ((a : Int) / (b : Int)) = ((a / b : Nat) : Int) := by
 rw [← Int.natCast_ediv]
 have h2 := Nat.div_le_self a b
 generalize a / b = q at h2 ⊢
 exact wrap_id (by omega) (by omega)
theorem Kd.R_raise9 {w : World} {b b' e : Nat} {v : Value} {xs : List Int} (h : Kd.R (Kd.int .i64) e w b (fun _ => True) v xs) (hb : b' ≤ b) : Kd.R (Kd.int .i64) e w b' (fun _ => True) v xs := Kd.R_lower h hb
theorem next_bnd (c w : Nat) (t : STile) (p s : Nat) (hc : 0 < c) (c6 : c ≤ 6) (hw : 0 < w) (w5 : w ≤ 5) (ht : Col c t) (hs : s < c ^ (w + 1)) :
 ∃ X E : Int, (t.f3 - ((dig c s (p % w) : Nat) : Int)) * ((c ^ (p % w) : Nat) : Int) = X ∧ (t.f2 - ((s / c ^ w : Nat) : Int)) * ((c ^ w : Nat) : Int) = E ∧ (-100 ≤ t.f3 - ((dig c s (p % w) : Nat) : Int) ∧ t.f3 - ((dig c s (p % w) : Nat) : Int) ≤ 100) ∧ (-100 ≤ t.f2 - ((s / c ^ w : Nat) : Int) ∧ t.f2 - ((s / c ^ w : Nat) : Int) ≤ 100) ∧ (-1000000 ≤ X ∧ X ≤ 1000000) ∧ (-1000000 ≤ E ∧ E ≤ 1000000) ∧ ((nextZ true c w t p s).toNat : Int) = (s : Int) + X + E := by
 have hx : p % w < w := Nat.mod_lt _ hw
 obtain ⟨lo, h1, e1, -, h3⟩ := next_parts true c w t p s hc hw ht
 obtain ⟨-, -, g2, g3⟩ := ht
 have hT : c ^ w ≤ 46656 := pow_le c w c6 (by omega)
 have hd : dig c s (p % w) < c := Nat.mod_lt _ hc
 have hhi : s / c ^ w < c := by
  rw [Nat.div_lt_iff_lt_mul (Nat.pow_pos hc)]; rw [Nat.pow_succ, Nat.mul_comm] at hs; exact hs
 have hm : s % c ^ w < c ^ w := Nat.mod_lt _ (Nat.pow_pos hc)
 have hsm : s % c ^ w + s / c ^ w * c ^ w = s := by rw [Nat.mul_comm]; exact Nat.mod_add_div s (c ^ w)
 have b2 : (t.f2 - ((s / c ^ w : Nat) : Int)) * ((c ^ w : Nat) : Int) = t.f2 * ((c ^ w : Nat) : Int) - ((s / c ^ w : Nat) : Int) * ((c ^ w : Nat) : Int) := Int.sub_mul _ _ _
 have m2 : t.f2 * ((c ^ w : Nat) : Int) = ((t.f2.toNat * c ^ w : Nat) : Int) := by rw [Int.natCast_mul, Int.toNat_of_nonneg g2.1]
 have m3 : ((s / c ^ w : Nat) : Int) * ((c ^ w : Nat) : Int) = ((s / c ^ w * c ^ w : Nat) : Int) := by rw [Int.natCast_mul]
 have n2 : t.f2.toNat * c ^ w ≤ 279936 := mul6 (by omega) hT
 have n3 : s / c ^ w * c ^ w ≤ 279936 := mul6 (by omega) hT
 have hz : nextZ true c w t p s = (s : Int) + (t.f3 - (dig c s (p % w) : Int)) * ((c ^ (p % w) : Nat) : Int) - ((s / c ^ w * c ^ w : Nat) : Int) + ((t.f2.toNat * c ^ w : Nat) : Int) := by
  unfold nextZ; rw [m3]; simp only [Bool.true_or, if_true, m2]
 rw [m2, m3] at b2
 generalize hgX : (t.f3 - (dig c s (p % w) : Int)) * ((c ^ (p % w) : Nat) : Int) = X at hz e1
 generalize hgE : (t.f2 - ((s / c ^ w : Nat) : Int)) * ((c ^ w : Nat) : Int) = E at b2
 have hh : ((s / c ^ w : Nat) : Int) < (c : Int) := Int.ofNat_lt.2 hhi
 have hh0 : (0 : Int) ≤ ((s / c ^ w : Nat) : Int) := Int.natCast_nonneg _
 have hd1 : ((dig c s (p % w) : Nat) : Int) < (c : Int) := Int.ofNat_lt.2 hd
 have hd0 : (0 : Int) ≤ ((dig c s (p % w) : Nat) : Int) := Int.natCast_nonneg _
 have hsm' : (s : Int) = ((s % c ^ w : Nat) : Int) + ((s / c ^ w * c ^ w : Nat) : Int) := by rw [← Int.natCast_add, hsm]
 obtain ⟨k1, k2, k3, k4⟩ := lin_aux (T := ((c ^ w : Nat) : Int)) e1 hsm' b2 (Int.natCast_nonneg _) (Int.ofNat_lt.2 h1) (Int.ofNat_le.2 hT) (Int.natCast_nonneg _) (Int.ofNat_lt.2 hm) (Int.natCast_nonneg _) (Int.ofNat_le.2 n3) (Int.natCast_nonneg _) (Int.ofNat_le.2 n2) hz
 rw [Int.toNat_of_nonneg h3]
 refine ⟨X, E, rfl, rfl, ?_, ?_, k1, k2, k4⟩
 ·generalize ((dig c s (p % w) : Nat) : Int) = d at hd1 hd0 ⊢
  clear hgX hgE hz k4 e1 b2 hsm' n2 n3 hsm hm hhi hT h1 h3 hs m2 m3
  omega
 ·generalize ((s / c ^ w : Nat) : Int) = d at hh hh0 ⊢
  clear hgX hgE hz k4 e1 b2 hsm' n2 n3 hsm hm hhi hT h1 h3 hs m2 m3
  omega
theorem tl_map {ts : List T4} {i : Nat} (h : i < ts.length) : tlAt (ts.map toS) i = toS (tk ts i) := by
 simp [tlAt, tk, List.getD_eq_getElem?_getD, List.getElem?_eq_getElem h]
theorem step_if {cn : Nat} {plan bs : List (List Int)} {ts : List T4} {p s i : Nat} (hi : i < ts.length) (hfit : fitP plan bs (ts.map toS) p i = true) :
 stepS cn plan bs (ts.map toS) p s i = if ((p < rowLen plan 0 ∨ ((dig cn s (p % rowLen plan 0) : Nat) : Int) = (tk ts i).get 1) ∧ (p % rowLen plan 0 = 0 ∨ ((s / cn ^ rowLen plan 0 : Nat) : Int) = (tk ts i).get 0)) then some (nextZ true cn (rowLen plan 0) (toS (tk ts i)) p s).toNat else none := by
 have e1 : (toS (tk ts i)).f1 = (tk ts i).get 1 := rfl
 have e0 : (toS (tk ts i)).f0 = (tk ts i).get 0 := rfl
 simp only [stepS, nx, hfit, tl_map hi, e1, e0, Bool.true_and, Bool.and_eq_true, Bool.or_eq_true, decide_eq_true_eq]
theorem lay_ok_set {cn : Nat} {plan bs : List (List Int)} {l : List STile} {p : Nat} {rows : List (List Int)} (h : LayOk cn plan bs l (p + 1) rows) (hp : p < places plan) : LayOk cn plan bs l p (rows.set p (layS cn plan bs l p)) := by
 refine ⟨by rw [List.length_set]; exact h.1, fun j h1 h2 => ?_⟩
 rw [getD_setL _ _ _ _ (by rw [h.1]; omega)]
 by_cases e : j = p
 ·rw [if_pos e, e]
 ·rw [if_neg e]; exact h.2 j (by omega) h2
theorem rep_form9 {α : Type} {d : Kd α} {e b : Nat} {w : World} {ok : Nat → Prop} {v : Value} {x : α} {k m : Nat} (h : Kd.S d e w b ok v (List.replicate k x)) (hm : k = m) (hp : 0 < m) : ∃ g c, v = .slice (some ⟨g, 0, none⟩) m c := by
 obtain ⟨g, c_, e, -⟩ := Kd.S_form h (by rw [List.length_replicate]; omega)
 rw [List.length_replicate, hm] at e
 exact ⟨g, c_, e⟩
attribute [local go_sem] max2_int min2_int max_two min_two
set_option maxHeartbeats 16000000 in
set_option maxRecDepth 100000 in
theorem lay_any (C : Int) (cn : Nat) (A : Option Addr) (ts : List T4) (n c : Nat) (A1 : Option Addr) (plan : List (List Int)) (m1 c1 : Nat) (A2 : Option Addr) (bs : List (List Int)) (m2 c2 : Nat) (w : World)
 (hC : C = (cn : Int)) (hcn : 0 < cn) (c6 : cn ≤ 6) (hn : n = ts.length) (hA : RT w A ts) (hl : n ≤ 1000) (hm1 : m1 = plan.length) (hA1 : RR w A1 plan) (hm2 : m2 = bs.length) (hA2 : RR w A2 bs) (hsh : Shape plan bs) (hcol : ∀ t ∈ ts.map toS, Col cn t) :
 Calls Try.prog 57 #[.agg #[.int .i64 C, .slice A n c], .slice A1 m1 c1, .slice A2 m2 c2] w fun e w' => ∃ v, e = .returned v ∧ Kd.S (Kd.slice 2 (Kd.int .i64)) 56 w' w.heap.size (fun _ => True) v (layersT cn plan bs (ts.map toS)) ∧ Below w.heap.size w w' := by
 have HC := Lib.hid hC; have HCN := Lib.hid hcn; have HN := Lib.hid hn; have HA := Lib.hid hA; have HM1 := Lib.hid hm1; have HA1 := Lib.hid hA1; have HM2 := Lib.hid hm2; have HA2 := Lib.hid hA2; have HSH := Lib.hid hsh; have HCOL := Lib.hid hcol
 obtain ⟨h1, h5, w1, w5, hlen, h4, hbl⟩ := hsh
 obtain ⟨pb, po, PA, pc, hPA, hpb, p0, -, -, -⟩ := hA1 0 (by omega)
 subst hPA
 rw [Nat.add_zero] at p0
 have j1 : (0 : Int) < m1 := by omega
 have j2 : 0 < m1 := by omega
 have m5 : m1 ≤ 5 := by omega
 have hmul : (m1 : Int) * ((rowLen plan 0 : Nat) : Int) = ((places plan : Nat) : Int) := by rw [hm1]; unfold places; push_cast; rfl
 have hpl : places plan ≤ 25 := by unfold places; exact Nat.mul_le_mul h5 w5
 have hp1 : 1 ≤ places plan := by unfold places; exact Nat.mul_le_mul h1 w1
 generalize htt : layersT cn plan bs (ts.map toS) = tot
 have HTT := Lib.hid htt
 clear hC hcn hn hA hm1 hA1 hm2 hA2 hcol hbl hlen h4 htt
 go_enter Try.func57, Try.ntmps57
 go_upto_region 1 with fail
 refine name1 ?_
 intro W1 b1 hz hb0
 have z0 : W1.cell? ⟨w.heap.size, 0, none⟩ = some (.int .i64 C) := b1.cell rfl
 have q0 := cell_to hb0 p0
 have l1 := b1.lt
 have lq := World.block_lt_of_cell? _ _ q0
 simp only at lq
 refine wp_region_gro (by kernel_rfl) (by kernel_rfl) ?_
 repeat (first | go_big_quiet_step (fail) | quiet_step (fail))
 refine wpQuiet_nil ?_
 intro W2 hB2
 have b2 : BK W2 w.heap.size #[.int .i64 C, .slice A n c] 36 := (hB2.block _ l1).trans b1
 have HB2 := Lib.hid (below_to hb0 hB2); have HBS := Lib.hid b2
 clear b1 b2 hb0 hB2 hz z0 q0 l1 lq
 go_wp2_with fail
 refine (power_any C _ cn (rowLen plan 0 + 1) W2 HC.out (by push_cast; rfl) c6 (by omega)).mono ?_
 rintro e W3 ⟨rfl, hb3⟩
 have HB3 := Lib.hid (below_to HB2.out hb3); have HBS3 := Lib.hid (show BK W3 w.heap.size #[.int .i64 C, .slice A n c] 36 from (hb3.block _ HBS.out.lt).trans HBS.out)
 have hs9 : size cn plan ≤ 46656 := pow_le cn (rowLen plan 0 + 1) c6 (by omega)
 have hs0 : 0 < size cn plan := Nat.pow_pos HCN.out
 rw [show cn ^ (rowLen plan 0 + 1) = size cn plan from rfl]
 generalize hsz : size cn plan = sz at *
 have HSZ := Lib.hid hsz
 clear hb3 hsz HBS
 go_wp2_with (first | ((with_reducible refine gate_dst (N := 39) rfl ?_); refine Kd.R_make (Kd.int .i64) (w0 := W3) W3.heap.size 2 rfl (N := 39) rfl 56 _ _ rfl (sz : Int) rfl rfl Try.underlying56 (.int .i64 0) 8 info2 rfl (by decide) (by omega) 0 (ok := fun _ => True) (okp := fun _ => True) rfl (fun _ hk => hk) trivial (by omega) (by omega) (Below.refl _ _) (Nat.le_refl _) ?_; intro nv W4 hnw hb4 hg4 hnew4; have HNW := Lib.hid hnw; have HB4 := Lib.hid hb4; clear hnw hb4 hg4 hnew4; obtain ⟨gl0, cl0, hnv⟩ : ∃ g c_, nv = .slice (some ⟨g, 0, none⟩) sz c_ := (by obtain ⟨g, c_, e, -⟩ := Kd.R_form HNW.out (by simp; omega); exact ⟨g, c_, by rw [e]; simp⟩); subst hnv))
 go_loopw [42] (fun v wr => ∃ i : Nat, i ≤ sz ∧ v = .int .i64 i ∧ Below W3.heap.size W3 wr ∧ Kd.R (Kd.int .i64) 2 wr W3.heap.size (fun _ => True) (.slice (some ⟨gl0, 0, none⟩) sz cl0) (List.replicate i 1 ++ List.replicate (sz - i) 0)) (fun v _ => sz - (intOf v).toNat)
 case atStart => exact ⟨0, by omega, rfl, HB4.out, by have h := HNW.out; rw [Int.toNat_natCast] at h; simpa using h⟩
 case round =>
  obtain ⟨i, hi, rfl, hB, hR⟩ := hrel
  by_cases hlt : i < sz
  ·have i1 : (i : Int) < sz := by omega
   obtain ⟨x0_, f0_⟩ := Kd.R_celln 0 hR i (by omega) (by simp; omega)
   rw [Int.toNat_natCast] at x0_ f0_
   obtain ⟨z9, x0⟩ : ∃ z : Int, wr.cell? ⟨gl0, i, none⟩ = some (.int .i64 z) := ⟨_, x0_⟩
   have f0 : wr.frozen? ⟨gl0, i, none⟩ = false := f0_
   clear x0_ f0_
   have hput : Kd.R (Kd.int .i64) 2 (wr.setCell ⟨gl0, i, none⟩ (.int .i64 1)) W3.heap.size (fun _ => True) (.slice (some ⟨gl0, 0, none⟩) sz cl0) (List.replicate (i + 1) 1 ++ List.replicate (sz - (i + 1)) 0) := by
    have h := (Kd.R_putg hR i 1).1
    rw [Int.toNat_natCast, ones_set sz i hlt] at h
    exact h
   have hg : W3.heap.size ≤ gl0 := Kd.R_base hR gl0 rfl
   have HB := Lib.hid (hB.setCell (p := ⟨gl0, i, none⟩) hg (.int .i64 1)); have HPUT := Lib.hid hput
   clear hB hput hR hg
   go_wp2_with fail
   go_roundw
   case rel => exact ⟨i + 1, hlt, by go_num, HB.out, HPUT.out⟩
   case measure => simp [intOf]; omega
  ·have i1 : ¬ (i : Int) < sz := by omega
   obtain rfl : sz = i := by omega
   have hR5 : Kd.R (Kd.int .i64) 2 wr W3.heap.size (fun _ => True) (.slice (some ⟨gl0, 0, none⟩) sz cl0) (layS cn plan bs (ts.map toS) (places plan)) := by
    have e : layS cn plan bs (ts.map toS) (places plan) = List.replicate sz 1 ++ List.replicate (sz - sz) 0 := by
     rw [Nat.sub_self, List.replicate_zero, List.append_nil, layS, HSZ.out, capRow_congr (r := fun _ => 1) (fun a _ => by simp [onS, onw])]
     exact capRow_one sz
    rw [e]; exact hR
   have HR5 := Lib.hid hR5; have HB5 := Lib.hid hB
   obtain ⟨w5_, rfl⟩ : ∃ w5_ : World, w5_ = wr := ⟨_, rfl⟩
   clear hR hR5 hB HNW
   have i20 : (places plan : Int) ≤ 25 := by omega
   go_upto_region 10 with (first | ((with_reducible refine gate_dst (N := 53) rfl ?_); refine Kd.S_make (Kd.slice 2 (Kd.int .i64)) (w0 := w5_) w5_.heap.size 56 rfl (N := 53) rfl 22 _ _ rfl ((places plan : Int) + 1) ?hx ?hy Try.underlying22 (.slice none 0 0) 24 infoInts rfl (by decide) (by omega) [] (ok := fun _ => True) (okp := fun _ => True) ⟨_, rfl, Kd.R_nil _ _ _ _ _⟩ (fun _ hk => hk) trivial (by omega) (by omega) (Below.refl _ _) (Nat.le_refl _) ?_; (case hx => first | rfl | (go_simp; done) | (go_simp; rfl) | (go_simp; simp [hmul])); (case hy => first | rfl | (go_simp; done) | (go_simp; rfl) | (go_simp; simp [hmul])); intro nv W6 hnw6 hb6 hg6 hnew6; have HNW6 := Lib.hid hnw6; have HB6 := Lib.hid hb6; clear hnw6 hb6 hg6 hnew6; obtain ⟨gO, cO, hnv⟩ := rep_form9 HNW6.out (m := places plan + 1) (by omega) (by omega); subst hnv))
   rw [show ((places plan : Int) + 1).toNat = places plan + 1 by omega] at HNW6
   have hbw6 : Below w.heap.size w W6 := below_to (below_to HB3.out HB5.out) HB6.out
   have hY6 : YW w W6 W6.heap.size C A n c gO (places plan + 1) cO (List.replicate (places plan + 1) []) :=
    ⟨hbw6, Nat.lt_of_lt_of_le HBS3.out.lt (Nat.le_trans HB5.out.size HB6.out.size), Nat.le_refl _, (HB6.out.block _ (Nat.lt_of_lt_of_le HBS3.out.lt HB5.out.size)).trans ((HB5.out.block _ HBS3.out.lt).trans HBS3.out), Kd.S_lower (Kd.S_mono (Kd.S_bound HNW6.out) (fun k hk => hk.2.2.1)) (Nat.le_trans HB3.out.size HB5.out.size)⟩
   obtain ⟨v6, y6, f6, l6⟩ := hY6.head (i := places plan) (by omega)
   have hgl : gl0 < w5_.heap.size := Kd.R_lt HR5.out gl0 rfl
   have hgO : w5_.heap.size ≤ gO := Kd.S_base HNW6.out gO (by simp [Value.ownBlock])
   have hY7 : YW w (W6.setCell ⟨gO, places plan, none⟩ (.slice (some ⟨gl0, 0, none⟩) sz cl0)) W6.heap.size C A n c gO (places plan + 1) cO ((List.replicate (places plan + 1) []).set (places plan) (layS cn plan bs (ts.map toS) (places plan))) := by
    have h4 : Kd.S (Kd.slice 2 (Kd.int .i64)) 56 W6 w.heap.size (fun k => k < W6.heap.size ∧ ¬ k = gl0) (.slice (some ⟨gO, 0, none⟩) (places plan + 1) cO) (List.replicate (places plan + 1) []) := Kd.S_lower (Kd.S_mono (Kd.S_bound HNW6.out) (fun k hk => ⟨hk.2.2.1, by have := hk.2.1; omega⟩)) (Nat.le_trans HB3.out.size HB5.out.size)
    have h5 := S_putI (okg := fun k => k = gl0) h4 (i := places plan) (by omega) (Kd.R_lower (Kd.R_mono (Kd.R_tight rfl (Kd.R_below HR5.out HB6.out)) (fun k hk => Option.some.inj hk)) HB3.out.size) (fun k hk => by have := HB6.out.size; omega)
    have hne : w.heap.size ≠ gO := fun e => by
     have e2 := Kd.S_ne hY6.lay (g := w.heap.size) hY6.bs (by decide)
     rw [e] at e2
     exact e2 rfl
    exact ⟨hY6.be.setCell hY6.own.2 _, hY6.l0, by simp, hY6.bs.set_ne hne _ _, h5⟩
   have hok : LayOk cn plan bs (ts.map toS) (places plan) ((List.replicate (places plan + 1) []).set (places plan) (layS cn plan bs (ts.map toS) (places plan))) := by
    refine ⟨by simp, fun j h1 h2 => ?_⟩
    obtain rfl : j = places plan := by omega
    rw [List.getD_eq_getElem?_getD, List.getElem?_set_self (by simp)]; rfl
   have HY7 := Lib.hid hY7; have HOK7 := Lib.hid hok
   have i21 : (places plan : Int) < ((places plan + 1 : Nat) : Int) := by omega
   have i22 : (places plan : Int) < (places plan : Int) + 1 := by omega
   have i23 : places plan < places plan + 1 := by omega
   clear hbw6 hY6 hY7 hok hgl hgO HNW6 HR5
   go_wp2_with fail
   generalize W6.setCell ⟨gO, places plan, none⟩ (.slice (some ⟨gl0, 0, none⟩) sz cl0) = W7 at HY7 ⊢
   clear y6 f6 l6
   refine (power_any C _ cn (rowLen plan 0) W7 HC.out rfl c6 (by omega)).mono ?_
   rintro e W8 ⟨rfl, hb8⟩
   have hY8 := HY7.out.to hb8
   have HY8 := Lib.hid hY8
   clear hY8 hb8 HY7
   obtain ⟨tp, htp⟩ : ∃ q : Nat, q = cn ^ rowLen plan 0 := ⟨_, rfl⟩
   rw [← htp]
   have tp0 : 0 < tp := by rw [htp]; exact Nat.pow_pos HCN.out
   have tp9 : tp ≤ 46656 := by rw [htp]; exact pow_le cn _ c6 (by omega)
   have HTP := Lib.hid htp
   clear htp
   go_upto_block 2 with fail
   go_wp2_with fail
   go_loopw [15] (fun v wr => ∃ (k : Nat) (z : Int) (M : Nat) (rows : List (List Int)), k ≤ places plan ∧ v = .int .i64 z ∧ z = (k : Int) - 1 ∧ YW w wr M C A n c gO (places plan + 1) cO rows ∧ LayOk cn plan bs (ts.map toS) k rows) (fun v _ => (intOf v + 1).toNat)
   case atStart => exact ⟨places plan, _, _, _, Nat.le_refl _, rfl, by omega, HY8.out, HOK7.out⟩
   case round =>
    as_aux_lemma =>
     obtain ⟨k, z, M, rows, hk, rfl, hz, hY, hok⟩ := hrel
     rcases k with _ | p
     ·have i9 : ¬ z ≥ 0 := by omega
      have HZ := Lib.hid hz; clear hz
      have HY := Lib.hid hY; have HOK := Lib.hid hok; clear hY hok
      go_wp2_with fail
      go_ret
      have hl := HY.out.len
      refine ⟨_, rfl, ?_, HY.out.be⟩
      rw [← HTT.out, ← layOk_tab _ _ _ _ HOK.out]
      exact Kd.S_mono HY.out.lay (fun _ _ => trivial)
     ·obtain rfl : z = (p : Int) := by omega
      have hp : p < places plan := by omega
      have i1 : (0 : Int) ≤ (p : Int) := by omega
      have v2 : ¬ rowLen plan 0 = 0 := by omega
      have HOK := Lib.hid hok
      clear hok hz
      go_upto_region 15 with fail
      have hD := (Below.refl wr.heap.size wr).drew
      refine start_ (n := 11) (S := fun w' => True) (ds := []) #[f_,f_,f_,f_,f_,f_,f_,f_,f_,f_,f_] (by kernel_rfl) rfl rfl trivial (fun hHeld => ?_)
      refine with_tabW lay_tab15 lay_bits15 (fun HT_ HW_ => ?_)
      replace hY := hY.to hD
      generalize wr.drew = wd at hD hY ⊢
      refine p_ 0 71 ?_ #[t_,f_,f_,f_,f_,f_,f_,f_,f_,f_,f_] rfl rfl HT_.out (by kernel_rfl) (fun _ _ _ h => h) (.inl ⟨by rfl, ?_⟩) ?_ ?_ ?_
      rotate_left
      ·intro w'
       go_simp
       with_reducible rfl
      rotate_left
      ·simp only [Q_]
       rfl
      refine p_ 1 72 ?_ #[t_,t_,f_,f_,f_,f_,f_,f_,f_,f_,f_] rfl rfl HT_.out (by kernel_rfl) (fun _ _ _ h => h) (.inl ⟨by rfl, ?_⟩) ?_ ?_ ?_
      rotate_left
      ·intro w'
       go_simp
       with_reducible rfl
      rotate_left
      ·simp only [Q_]
       rfl
      refine p_ 2 73 ?_ #[t_,t_,t_,f_,f_,f_,f_,f_,f_,f_,f_] rfl rfl HT_.out (by kernel_rfl) (fun _ _ _ h => h) (.inl ⟨by rfl, ?_⟩) ?_ ?_ ?_
      rotate_left
      ·intro w'
       go_simp
       with_reducible rfl
      rotate_left
      ·simp only [Q_]
       rfl
      rw [dv_nat p _ (by omega)]
      refine p_ 3 74 ?_ #[t_,t_,t_,t_,f_,f_,f_,f_,f_,f_,f_] rfl rfl HT_.out (by kernel_rfl) (fun _ _ _ h => h) (.inl ⟨by rfl, ?_⟩) ?_ ?_ ?_
      rotate_left
      ·intro w'
       go_simp
       with_reducible rfl
      rotate_left
      ·simp only [Q_]
       rfl
      refine p_ 4 75 ?_ #[t_,t_,t_,t_,t_,f_,f_,f_,f_,f_,f_] rfl rfl HT_.out (by kernel_rfl) (fun _ _ _ h => h) (.inl ⟨by rfl, ?_⟩) ?_ ?_ ?_
      rotate_left
      ·intro w'
       go_simp
       with_reducible rfl
      rotate_left
      ·simp only [Q_]
       rfl
      refine p_ 5 76 ?_ #[t_,t_,t_,t_,t_,t_,f_,f_,f_,f_,f_] rfl rfl HT_.out (by kernel_rfl) (fun _ _ _ h => h) (.inl ⟨by rfl, ?_⟩) ?_ ?_ ?_
      rotate_left
      ·intro w'
       go_simp
       with_reducible rfl
      rotate_left
      ·simp only [Q_]
       rfl
      rw [tmod_nat]
      refine p_ 6 77 ?_ #[t_,t_,t_,t_,t_,t_,t_,f_,f_,f_,f_] rfl rfl HT_.out (by kernel_rfl) (fun _ _ _ h => h) (.inl ⟨by rfl, ?_⟩) ?_ ?_ ?_
      rotate_left
      ·intro w'
       go_simp
       with_reducible rfl
      rotate_left
      ·simp only [Q_]
       rfl
      refine p_ 8 16 ?_ #[t_,t_,t_,t_,t_,t_,t_,f_,t_,f_,f_] rfl rfl HT_.out (by kernel_rfl) (fun _ _ _ h => h) (.inl ⟨by rfl, ?_⟩) ?_ ?_ ?_
      rotate_left
      ·intro w'
       go_simp
       with_reducible rfl
      rotate_left
      ·simp only [Q_]
       rfl
      refine p_ 9 17 ?_ #[t_,t_,t_,t_,t_,t_,t_,f_,t_,t_,f_] rfl rfl HT_.out (by kernel_rfl) (fun _ _ _ h => h) (.inl ⟨by rfl, ?_⟩) ?_ ?_ ?_
      rotate_left
      ·intro w'
       go_simp
       with_reducible rfl
      rotate_left
      ·simp only [Q_]
       rfl
      refine one_ (i := 7) (N := some 78) #[t_,t_,t_,t_,t_,t_,t_,t_,t_,t_,f_] rfl rfl (one_of HT_.out (by kernel_rfl)) (by decide) (fun K hK => ?_)
      refine Kd.R_make_step (Kd.int .i64) (w0 := wd) wd.heap.size 2 (by rfl) (N := 78) rfl 56 (.tmp 77) (.tmp 77) rfl (sz : Int) rfl rfl Try.underlying56 (.int .i64 0) 8 info2 rfl (by decide) (by omega) 0 (ok := fun _ => True) (okp := fun _ => True) rfl (fun _ hk => hk) trivial (by omega) (by omega) (Below.refl _ _) (Nat.le_refl _) ?_
      intro nv w78 hnw hb hg hnew
      obtain ⟨gl, cl, hnv⟩ : ∃ g c_, nv = .slice (some ⟨g, 0, none⟩) sz c_ := (by obtain ⟨g, c_, e, -⟩ := Kd.R_form hnw (by simp; omega); exact ⟨g, c_, by rw [e]; simp⟩)
      subst hnv
      refine hK.out _ _ trivial (fun hHeld => ?_)
      clear hK K
      refine norm_ (a' := ?_) ?_ ?_
      rotate_left
      ·show Act.put _ (some 78) _ = _
       simp only [Q_]
       rfl
      refine p_ 10 18 ?_ #[t_,t_,t_,t_,t_,t_,t_,t_,t_,t_,t_] rfl rfl HT_.out (by kernel_rfl) (fun _ _ _ h => h) (.inl ⟨by rfl, ?_⟩) ?_ ?_ ?_
      rotate_left
      ·intro w'
       go_simp
       with_reducible rfl
      rotate_left
      ·simp only [Q_]
       rfl
      refine done_ (done_of HT_.out (by kernel_rfl)) ?_
      have hY78 := hY.to hb
      have hMd : M ≤ wd.heap.size := hY.lM
      obtain ⟨y, hy⟩ : ∃ y : Nat, y = p / rowLen plan 0 := ⟨_, rfl⟩
      obtain ⟨x, hx⟩ : ∃ x : Nat, x = p % rowLen plan 0 := ⟨_, rfl⟩
      rw [show (p : Int) / ((rowLen plan 0 : Nat) : Int) = (y : Int) by rw [hy, Int.natCast_ediv], show (p : Int) % ((rowLen plan 0 : Nat) : Int) = (x : Int) by rw [hx, Int.natCast_emod]]
      have hxw : x < rowLen plan 0 := by rw [hx]; exact Nat.mod_lt _ (by omega)
      have hyh : y < plan.length := by rw [hy]; exact Nat.div_lt_of_lt_mul (by rw [Nat.mul_comm]; exact hp)
      rw [Int.toNat_natCast] at hnw
      have HY8 := Lib.hid hY78; have HNW := Lib.hid (Kd.R_raise9 hnw hMd); have HYY := Lib.hid hy; have HXX := Lib.hid hx; have HYH := Lib.hid hyh; have HXW := Lib.hid hxw
      clear hY hY78 hnw hb hg hnew hD HT_ HW_ hy hx hMd hyh
      go_wp2_with fail
      refine (power_any C _ cn x w78 HC.out rfl c6 (by omega)).mono ?_
      rintro e W9 ⟨rfl, hb9⟩
      obtain ⟨bl, hbl⟩ : ∃ q : Nat, q = cn ^ x := ⟨_, rfl⟩
      rw [← hbl]
      have bl0 : 0 < bl := by rw [hbl]; exact Nat.pow_pos HCN.out
      have bl9 : bl ≤ 46656 := by rw [hbl]; exact pow_le cn _ c6 (by omega)
      have HBL := Lib.hid hbl
      have HY9 := Lib.hid (HY8.out.to hb9); have HL9 := Lib.hid (Kd.R_below HNW.out hb9)
      have y1 : W9.cell? ⟨w.heap.size, 1, none⟩ = some (.slice A n c) := HY9.out.bs.cell rfl
      have ly1 := HY9.out.bs.lt
      clear hbl hb9 hxw
      go_wp2_with fail
      go_loopw [20] (fun v wr => ∃ i : Nat, i ≤ n ∧ v = .int .i64 i ∧ YW w wr M C A n c gO (places plan + 1) cO rows ∧ Kd.R (Kd.int .i64) 2 wr M (fun _ => True) (.slice (some ⟨gl, 0, none⟩) sz cl) (capRow sz (part cn (ts.map toS) plan bs p i))) (fun v _ => n - (intOf v).toNat)
      case atStart => exact ⟨0, by omega, rfl, HY9.out, by have h := part_zero cn (ts.map toS) plan bs p; rw [HSZ.out] at h; rw [h]; exact HL9.out⟩
      case round =>
       obtain ⟨i, hi, rfl, hY, hR⟩ := hrel
       have y1 : wr.cell? ⟨w.heap.size, 1, none⟩ = some (.slice A n c) := hY.bs.cell rfl
       have y0 : wr.cell? ⟨w.heap.size, 0, none⟩ = some (.int .i64 C) := hY.bs.cell rfl
       have ly1 := hY.bs.lt
       by_cases hlt : i < n
       ·have i3 : (i : Int) < n := by omega
        have HY := Lib.hid hY; have HR := Lib.hid hR
        have HIN := Lib.hid (show i < ts.length by rw [← HN.out]; exact hlt)
        have HIL := Lib.hid (show i < (ts.map toS).length by rw [List.length_map, ← HN.out]; exact hlt)
        clear hY hR
        go_wp2_with fail
        refine (fits_any C A ts n c (some ⟨pb, po, none⟩) plan m1 c1 A2 bs m2 c2 y x i wr HN.out (HA.out.below HY.out.be) (by omega) HM1.out (HA1.out.below HY.out.be) HM2.out (HA2.out.below HY.out.be) HSH.out HYH.out HXW.out HIN.out).mono ?_
        rintro e W10 ⟨rfl, hb10⟩
        have hY10 := HY.out.to hb10
        have hR10 := Kd.R_below HR.out hb10
        have y1 : W10.cell? ⟨w.heap.size, 1, none⟩ = some (.slice A n c) := hY10.bs.cell rfl
        have ly1 := hY10.bs.lt
        have hfp : fitP plan bs (ts.map toS) p i = fitB ts plan bs y x i := by unfold fitP; rw [map_toTS, HYY.out, HXX.out]
        cases hfit : fitB ts plan bs y x i with
        | false =>
         have hcap : capRow sz (part cn (ts.map toS) plan bs p i) = capRow sz (part cn (ts.map toS) plan bs p (i + 1)) := by
          apply capRow_congr
          intro a _
          rw [part_succ, step_nofit cn (ts.map toS) plan bs p a i (by rw [hfp]; exact hfit)]; simp [val]
         rw [hcap] at hR10
         have HY10 := Lib.hid hY10; have HR10 := Lib.hid hR10
         clear hY10 hR10 hfit hcap hfp hb10
         go_wp2_with fail
         go_roundw
         case rel => exact ⟨i + 1, hlt, by go_num, HY10.out, HR10.out⟩
         case measure => simp [intOf]; omega
        | true =>
         have HFP := Lib.hid (hfp.trans hfit)
         obtain ⟨tb, tq, hTA, htb, t0, t1, t2, t3⟩ := (HA.out.below hY10.be) i HIN.out
         subst hTA
         clear hfit hfp hb10
         go_upto_region 22 with fail
         refine name1 ?_
         intro W11 bt hz11 hb11
         obtain ⟨tB, htB⟩ : ∃ b_, b_ = W10.heap.size := ⟨_, rfl⟩
         rw [← htB] at bt ⊢
         have hMt : M ≤ tB := by rw [htB]; exact hY10.lM
         obtain ⟨ti, hti⟩ : ∃ ti, ti = tk ts i := ⟨_, rfl⟩
         rw [← hti] at bt
         have HY11 := Lib.hid (hY10.to hb11); have HR11 := Lib.hid (Kd.R_below hR10 hb11); have HBT := Lib.hid bt; have HTI := Lib.hid hti
         have c0 : ¬ C = 0 := by have h := HC.out; have h2 := HCN.out; omega
         have c1 : (0 : Int) < C := by have h := HC.out; have h2 := HCN.out; omega
         have c2 : ¬ bl = 0 := by omega
         have c3 : ¬ tp = 0 := by omega
         have hcolI : Col cn (toS ti) := HCOL.out _ (List.mem_map.2 ⟨ti, by rw [hti]; simp [tk, List.getD_eq_getElem?_getD, List.getElem?_eq_getElem HIN.out], rfl⟩)
         have HCI := Lib.hid hcolI
         clear hcolI hY10 hR10 bt hti hz11 hb11 htB t0 t1 t2 t3 y1 ly1 htb
         go_wp2_with fail
         go_loopw [22] (fun v wr => ∃ s : Nat, s ≤ sz ∧ v = .int .i64 s ∧ YW w wr M C (some ⟨tb, tq, none⟩) n c gO (places plan + 1) cO rows ∧ Kd.R (Kd.int .i64) 2 wr M (fun _ => True) (.slice (some ⟨gl, 0, none⟩) sz cl) (capRow sz (mix (part cn (ts.map toS) plan bs p (i + 1)) (part cn (ts.map toS) plan bs p i) s)) ∧ BK wr tB #[.int .i64 (ti.get 0), .int .i64 (ti.get 1), .int .i64 (ti.get 2), .int .i64 (ti.get 3)] 85) (fun v _ => sz - (intOf v).toNat)
         case atStart => exact ⟨0, by omega, rfl, HY11.out, by rw [mix_none]; exact HR11.out, HBT.out⟩
         case round =>
          obtain ⟨s, hs, rfl, hY, hR, bt⟩ := hrel
          by_cases hls : s < sz
          ·have i5 : (s : Int) < sz := by omega
           have i6 : (0 : Int) ≤ (s : Int) := by omega
           have HY := Lib.hid hY; have HR := Lib.hid hR; have HBT := Lib.hid bt
           clear hY hR bt
           go_upto_region 25 with fail
           refine wp_region_gro (by kernel_rfl) (by kernel_rfl) ?_
           repeat (first | go_big_quiet_step (fail) | quiet_step (fail))
           refine wpQuiet_nil ?_
           intro W12 hB12
           obtain ⟨d, hd⟩ : ∃ d : Nat, d = dig cn s x := ⟨_, rfl⟩
           obtain ⟨hv, hhv⟩ : ∃ d : Nat, d = s / tp := ⟨_, rfl⟩
           rw [dv_nat s bl (by omega), dv_nat s tp (by omega), HC.out, tmod_nat, show s / bl % cn = d by rw [hd, HBL.out]; rfl, ← hhv, ← HC.out]
           have HY12 := Lib.hid (HY.out.to hB12); have HR12 := Lib.hid (Kd.R_below HR.out hB12); have HBT12 := Lib.hid (show BK W12 tB #[.int .i64 (ti.get 0), .int .i64 (ti.get 1), .int .i64 (ti.get 2), .int .i64 (ti.get 3)] 85 from (hB12.block _ HBT.out.lt).trans HBT.out)
           have HST := Lib.hid (step_if (cn := cn) (s := s) HIN.out HFP.out)
           have HDD := Lib.hid hd; have HHV := Lib.hid hhv
           have hb := next_bnd cn (rowLen plan 0) (toS ti) p s HCN.out c6 w1 w5 HCI.out (by rw [← HSZ.out] at hls; exact hls)
           rw [← HXX.out, ← HDD.out, ← HTP.out, ← HHV.out, ← HBL.out] at hb
           have HNB := Lib.hid hb
           have y1 : W12.cell? ⟨tB, 1, none⟩ = some (.int .i64 (ti.get 1)) := HBT12.out.cell rfl
           have y0 : W12.cell? ⟨tB, 0, none⟩ = some (.int .i64 (ti.get 0)) := HBT12.out.cell rfl
           have y2 : W12.cell? ⟨tB, 2, none⟩ = some (.int .i64 (ti.get 2)) := HBT12.out.cell rfl
           have y3 : W12.cell? ⟨tB, 3, none⟩ = some (.int .i64 (ti.get 3)) := HBT12.out.cell rfl
           have ly := HBT12.out.lt
           clear hB12 hd hhv hb HY HR HBT
           generalize hF0 : ti.get 0 = f0 at y0
           generalize hF1 : ti.get 1 = f1 at y1
           generalize hF2 : ti.get 2 = f2 at y2
           generalize hF3 : ti.get 3 = f3 at y3
           have HF0 := Lib.hid hF0; have HF1 := Lib.hid hF1; have HF2 := Lib.hid hF2; have HF3 := Lib.hid hF3
           clear hF0 hF1 hF2 hF3
           have hyp : y = 0 ↔ p < rowLen plan 0 := by rw [HYY.out, Nat.div_eq_zero_iff]; omega
           by_cases hcond : (y = 0 ∨ (d : Int) = f1) ∧ (x = 0 ∨ (hv : Int) = f0)
           ·have hs1 : stepS cn plan bs (ts.map toS) p s i = some (nextZ true cn (rowLen plan 0) (toS ti) p s).toNat := by
             rw [HST.out, if_pos ⟨hcond.1.imp hyp.1 (fun h => by rw [← HXX.out, ← HDD.out, ← HTI.out, HF1.out]; exact h), hcond.2.imp (fun h => by rw [← HXX.out]; exact h) (fun h => by rw [← HTP.out, ← HHV.out, ← HTI.out, HF0.out]; exact h)⟩, HTI.out]
            have HS1 := Lib.hid hs1
            have hgo : (¬ (0 : Int) < (y : Int) ∧ (True ∧ True)) ∨ ((0 : Int) < (y : Int) ∧ (((d : Int) != f1) = false ∧ True)) := by
             by_cases h : y = 0
             ·exact .inl ⟨by omega, trivial, trivial⟩
             ·exact .inr ⟨by omega, by rcases hcond.1 with h2 | h2; exact absurd h2 h; simp [h2], trivial⟩
            have hgx : (¬ (0 : Int) < (x : Int) ∧ (True ∧ True)) ∨ ((0 : Int) < (x : Int) ∧ (((hv : Int) != f0) = false ∧ True)) := by
             by_cases h : x = 0
             ·exact .inl ⟨by omega, trivial, trivial⟩
             ·exact .inr ⟨by omega, by rcases hcond.2 with h2 | h2; exact absurd h2 h; simp [h2], trivial⟩
            clear hs1 hcond hyp
            rcases hgo with ⟨g1, g2, -⟩ | ⟨g1, g2, -⟩ <;> rcases hgx with ⟨g3, g4, -⟩ | ⟨g3, g4, -⟩
            all_goals
             obtain ⟨X, E, eX, eE, r1, r2, r3, r4, r5⟩ := HNB.out
             obtain ⟨b, hb⟩ : ∃ b : Nat, b = (nextZ true cn (rowLen plan 0) (toS ti) p s).toNat := ⟨_, rfl⟩
             rw [← hb] at r5
             have hbz : b < sz := by
              have h := nx_stay true cn (rowLen plan 0) (ts.map toS) (fitP plan bs (ts.map toS)) HCN.out (by omega) HCOL.out p s i b (by rw [← HSZ.out] at hls; exact hls) HIL.out (by rw [hb]; exact HS1.out)
              rw [← HSZ.out]; exact h
             have e3 : (toS ti).f3 = f3 := HF3.out
             have e2 : (toS ti).f2 = f2 := HF2.out
             rw [e3] at eX r1
             rw [e2] at eE r2
             have r6 : (s : Int) + X + E = (b : Int) := r5.symm
             have HBB := Lib.hid hb
             clear r5 e2 e3 hb
             go_upto_region 28 with fail
             have hY := HY12.out; have hR := HR12.out
             have hrow : rowAt rows (p + 1) = layS cn plan bs (ts.map toS) (p + 1) := HOK.out.2 (p + 1) (Nat.le_refl _) (by omega)
             have hrl : rowLen rows (p + 1) = sz := by unfold rowLen; rw [hrow, layS, capRow_len, HSZ.out]
             obtain ⟨gr, ro, cr, zr, zz⟩ := hY.cell (i := p + 1) (j := b) (by omega) (by rw [hrl]; exact hbz)
             rw [hrl] at zr
             obtain ⟨Zv, hZ⟩ : ∃ z : Int, z = ik (rowAt rows (p + 1)) b := ⟨_, rfl⟩
             rw [← hZ] at zz
             have hZ2 : Zv = cap (onS cn plan bs (ts.map toS) (p + 1) b) := by rw [hZ, hrow, ik, layS, HSZ.out, capRow_get hbz]
             obtain ⟨zx_, -⟩ := Kd.R_celln 0 hR s (by omega) (by omega)
             rw [Int.toNat_natCast] at zx_
             obtain ⟨Xv, hX2, zx⟩ : ∃ z : Int, z = cap (part cn (ts.map toS) plan bs p i s) ∧ W12.cell? ⟨gl, s, none⟩ = some (.int .i64 z) := ⟨_, (mix_at hls).symm.symm, zx_⟩
             have hpn := part_nn cn (ts.map toS) plan bs p i s
             have hon := onS_nn cn (ts.map toS) plan bs (p + 1) b
             have x0 : 0 ≤ Xv := by rw [hX2]; exact cap_nn hpn
             have x1 : Xv ≤ 1000000000000001 := by rw [hX2]; exact cap_le _
             have z0 : 0 ≤ Zv := by rw [hZ2]; exact cap_nn hon
             have z1 : Zv ≤ 1000000000000001 := by rw [hZ2]; exact cap_le _
             have i7 : (p : Int) + 1 < (places plan : Int) + 1 := by omega
             have i8 : (b : Int) < (sz : Int) := by omega
             have i9 : (0 : Int) ≤ (p : Int) + 1 := by omega
             have i10 : ((p + 1 : Nat) : Int) < (places plan : Int) + 1 := by omega
             have HSUM := Lib.hid (cap_add hpn hon)
             have HX2 := Lib.hid hX2; have HZ2 := Lib.hid hZ2
             clear hX2 hZ2 hpn hon hZ hrow hrl zx_ eX eE r1 r2 r3 r4 r6
             have hD := (Below.refl W12.heap.size W12).drew
             refine start_ (n := 18) (S := fun w' => w'.cell? ⟨gl, s, none⟩ = some (.int .i64 Xv) ∧ w'.cell? ⟨gO, p + 1, none⟩ = some (.slice (some ⟨gr, ro, none⟩) sz cr) ∧ w'.cell? ⟨gr, ro + b, none⟩ = some (.int .i64 Zv)) (ds := [17]) #[f_,f_,f_,f_,f_,f_,f_,f_,f_,f_,f_,f_,f_,f_,f_,f_,f_,f_] (by kernel_rfl) rfl rfl ⟨cell_to hD zx, cell_to hD zr, cell_to hD zz⟩ (fun hHeld => ?_)
             refine with_tabW lay_tab28 lay_bits28 (fun HT_ HW_ => ?_)
             replace hY := hY.to hD
             replace hR := Kd.R_below hR hD
             generalize W12.drew = wd at hD hY hR hHeld ⊢
             have fz : wd.frozen? ⟨gl, s, none⟩ = false := by
              have h := (Kd.R_celln 0 hR s (by omega) (by omega)).2
              rw [Int.toNat_natCast] at h
              exact h
             refine p_ 0 148 ?_ #[t_,f_,f_,f_,f_,f_,f_,f_,f_,f_,f_,f_,f_,f_,f_,f_,f_,f_] rfl rfl HT_.out (by kernel_rfl) (fun _ _ _ h => h) (.inl ⟨by rfl, ?_⟩) ?_ ?_ ?_
             rotate_left
             ·intro w'
              go_simp
              with_reducible rfl
             rotate_left
             ·simp only [Q_]
              rfl
             refine p_ 1 149 ?_ #[t_,t_,f_,f_,f_,f_,f_,f_,f_,f_,f_,f_,f_,f_,f_,f_,f_,f_] rfl rfl HT_.out (by kernel_rfl) (fun _ _ _ h => h) (.inl ⟨by rfl, ?_⟩) ?_ ?_ ?_
             rotate_left
             ·intro w'
              go_simp
              with_reducible rfl
             rotate_left
             ·simp only [Q_]
              rfl
             refine p_ 2 150 ?_ #[t_,t_,t_,f_,f_,f_,f_,f_,f_,f_,f_,f_,f_,f_,f_,f_,f_,f_] rfl rfl HT_.out (by kernel_rfl) (fun _ _ _ h => h) (.inl ⟨by rfl, ?_⟩) ?_ ?_ ?_
             rotate_left
             ·intro w'
              go_simp
              with_reducible rfl
             rotate_left
             ·simp only [Q_]
              rfl
             refine p_ 3 151 ?_ #[t_,t_,t_,t_,f_,f_,f_,f_,f_,f_,f_,f_,f_,f_,f_,f_,f_,f_] rfl rfl HT_.out (by kernel_rfl) (fun _ _ _ h => h) (.inl ⟨by rfl, ?_⟩) ?_ ?_ ?_
             rotate_left
             ·intro w'
              go_simp
              with_reducible rfl
             rotate_left
             ·simp only [Q_]
              rfl
             refine p_ 4 152 ?_ #[t_,t_,t_,t_,t_,f_,f_,f_,f_,f_,f_,f_,f_,f_,f_,f_,f_,f_] rfl rfl HT_.out (by kernel_rfl) (fun _ _ _ h => h) (.inl ⟨by rfl, ?_⟩) ?_ ?_ ?_
             rotate_left
             ·intro w'
              go_simp
              with_reducible rfl
             rotate_left
             ·simp only [Q_]
              rfl
             refine p_ 6 154 ?_ #[t_,t_,t_,t_,t_,f_,t_,f_,f_,f_,f_,f_,f_,f_,f_,f_,f_,f_] rfl rfl HT_.out (by kernel_rfl) (fun _ _ _ h => h) (.inl ⟨by rfl, ?_⟩) ?_ ?_ ?_
             rotate_left
             ·intro w'
              go_simp
              with_reducible rfl
             rotate_left
             ·simp only [Q_]
              rfl
             refine p_ 7 155 ?_ #[t_,t_,t_,t_,t_,f_,t_,t_,f_,f_,f_,f_,f_,f_,f_,f_,f_,f_] rfl rfl HT_.out (by kernel_rfl) (fun _ _ _ h => h) (.inl ⟨by rfl, ?_⟩) ?_ ?_ ?_
             rotate_left
             ·intro w'
              go_simp
              with_reducible rfl
             rotate_left
             ·simp only [Q_]
              rfl
             refine p_ 8 156 ?_ #[t_,t_,t_,t_,t_,f_,t_,t_,t_,f_,f_,f_,f_,f_,f_,f_,f_,f_] rfl rfl HT_.out (by kernel_rfl) (fun _ _ _ h => h) (.inl ⟨by rfl, ?_⟩) ?_ ?_ ?_
             rotate_left
             ·intro w'
              go_simp
              with_reducible rfl
             rotate_left
             ·simp only [Q_]
              rfl
             rw [succ_wrap p (by omega)]
             refine p_ 9 157 ?_ #[t_,t_,t_,t_,t_,f_,t_,t_,t_,t_,f_,f_,f_,f_,f_,f_,f_,f_] rfl rfl HT_.out (by kernel_rfl) (fun _ _ _ h => h) (.inl ⟨by rfl, ?_⟩) ?_ ?_ ?_
             rotate_left
             ·intro w'
              go_simp
              with_reducible rfl
             rotate_left
             ·simp only [Q_]
              rfl
             refine p_ 11 159 ?_ #[t_,t_,t_,t_,t_,f_,t_,t_,t_,t_,f_,t_,f_,f_,f_,f_,f_,f_] rfl rfl HT_.out (by kernel_rfl) (fun _ _ _ h => h) (.inl ⟨by rfl, ?_⟩) ?_ ?_ ?_
             rotate_left
             ·intro w'
              go_simp
              with_reducible rfl
             rotate_left
             ·simp only [Q_]
              rfl
             refine tk_ 5 153 ?_ #[t_,t_,t_,t_,t_,t_,t_,t_,t_,t_,f_,t_,f_,f_,f_,f_,f_,f_] rfl rfl (take_ofW HT_.out HW_.out (by kernel_rfl)) (fun _ _ _ h => h) (.inl ⟨by rfl, ?_⟩) hHeld ?_ ?_ ?_
             rotate_left
             ·rintro w' ⟨s0, s1, s2⟩
              go_simp
              with_reducible rfl
             rotate_left
             ·simp only [Q_]
              rfl
             refine tk_ 10 158 ?_ #[t_,t_,t_,t_,t_,t_,t_,t_,t_,t_,t_,t_,f_,f_,f_,f_,f_,f_] rfl rfl (take_ofW HT_.out HW_.out (by kernel_rfl)) (fun _ _ _ h => h) (.inl ⟨by rfl, ?_⟩) hHeld ?_ ?_ ?_
             rotate_left
             ·rintro w' ⟨s0, s1, s2⟩
              go_simp
              with_reducible rfl
             rotate_left
             ·simp only [Q_]
              rfl
             refine p_ 12 160 ?_ #[t_,t_,t_,t_,t_,t_,t_,t_,t_,t_,t_,t_,t_,f_,f_,f_,f_,f_] rfl rfl HT_.out (by kernel_rfl) (fun _ _ _ h => h) (.inl ⟨by rfl, ?_⟩) ?_ ?_ ?_
             rotate_left
             ·intro w'
              go_simp
              with_reducible rfl
             rotate_left
             ·simp only [Q_]
              rfl
             refine tk_ 13 161 ?_ #[t_,t_,t_,t_,t_,t_,t_,t_,t_,t_,t_,t_,t_,t_,f_,f_,f_,f_] rfl rfl (take_ofW HT_.out HW_.out (by kernel_rfl)) (fun _ _ _ h => h) (.inl ⟨by rfl, ?_⟩) hHeld ?_ ?_ ?_
             rotate_left
             ·rintro w' ⟨s0, s1, s2⟩
              go_simp
              with_reducible rfl
             rotate_left
             ·simp only [Q_]
              rfl
             refine p_ 14 162 ?_ #[t_,t_,t_,t_,t_,t_,t_,t_,t_,t_,t_,t_,t_,t_,t_,f_,f_,f_] rfl rfl HT_.out (by kernel_rfl) (fun _ _ _ h => h) (.inl ⟨by rfl, ?_⟩) ?_ ?_ ?_
             rotate_left
             ·intro w'
              go_simp
              with_reducible rfl
             rotate_left
             ·simp only [Q_]
              rfl
             rw [wrap_id (x := Xv + Zv) (by omega) (by omega)]
             refine p_ 15 163 ?_ #[t_,t_,t_,t_,t_,t_,t_,t_,t_,t_,t_,t_,t_,t_,t_,t_,f_,f_] rfl rfl HT_.out (by kernel_rfl) (fun _ _ _ h => h) (.inl ⟨by rfl, ?_⟩) ?_ ?_ ?_
             rotate_left
             ·intro w'
              go_simp
              with_reducible rfl
             rotate_left
             ·simp only [Q_]
              rfl
             refine p_ 16 164 ?_ #[t_,t_,t_,t_,t_,t_,t_,t_,t_,t_,t_,t_,t_,t_,t_,t_,t_,f_] rfl rfl HT_.out (by kernel_rfl) (fun _ _ _ h => h) (.inl ⟨by rfl, ?_⟩) ?_ ?_ ?_
             rotate_left
             ·intro w'
              go_simp
              with_reducible rfl
             rotate_left
             ·simp only [Q_]
              rfl
             refine last_ (i := 17) (N := none) #[t_,t_,t_,t_,t_,t_,t_,t_,t_,t_,t_,t_,t_,t_,t_,t_,t_,t_] rfl rfl (one_of HT_.out (by kernel_rfl)) (by decide) (fun K hK => ?_)
             refine skip_ (w1 := ?_) (by rfl) rfl ?_ ?_
             rotate_left
             ·go_simp
              rfl
             refine hK.out _ _ ?_
             clear hK K
             refine done_ (done_of HT_.out (by kernel_rfl)) ?_
             have hV : (if 1000000000000001 < Xv + Zv then 1000000000000001 else Xv + Zv) = cap (part cn (ts.map toS) plan bs p i s + onS cn plan bs (ts.map toS) (p + 1) b) := by
              rw [← HSUM.out, ← HX2.out, ← HZ2.out]; unfold cap; split <;> split <;> omega
             have hput : Kd.R (Kd.int .i64) 2 (wd.setCell ⟨gl, s, none⟩ (.int .i64 (if 1000000000000001 < Xv + Zv then 1000000000000001 else Xv + Zv))) M (fun _ => True) (.slice (some ⟨gl, 0, none⟩) sz cl) (capRow sz (mix (part cn (ts.map toS) plan bs p (i + 1)) (part cn (ts.map toS) plan bs p i) (s + 1))) := by
              have h := (Kd.R_putg hR s (if 1000000000000001 < Xv + Zv then 1000000000000001 else Xv + Zv)).1
              rw [Int.toNat_natCast, hV] at h
              rw [mix_set hls (show part cn (ts.map toS) plan bs p (i + 1) s = part cn (ts.map toS) plan bs p i s + onS cn plan bs (ts.map toS) (p + 1) b by rw [part_succ, HS1.out, ← HBB.out]; rfl)] at h
              rw [hV]
              exact h
             have hgM : M ≤ gl := Kd.R_base hR gl rfl
             have bt' : BK wd tB #[.int .i64 (ti.get 0), .int .i64 (ti.get 1), .int .i64 (ti.get 2), .int .i64 (ti.get 3)] 85 := (hD.block _ HBT12.out.lt).trans HBT12.out
             have hne : tB ≠ gl := fun e => by
              have h := Kd.R_ne hR bt' (by decide)
              rw [e] at h
              exact h rfl
             have HY13 := Lib.hid (hY.far hgM s (.int .i64 (if 1000000000000001 < Xv + Zv then 1000000000000001 else Xv + Zv))); have HR13 := Lib.hid hput; have HB13 := Lib.hid (bt'.set_ne hne s (.int .i64 (if 1000000000000001 < Xv + Zv then 1000000000000001 else Xv + Zv)))
             generalize wd.setCell ⟨gl, s, none⟩ (.int .i64 (if 1000000000000001 < Xv + Zv then 1000000000000001 else Xv + Zv)) = W13 at HY13 HR13 HB13 ⊢
             clear hV hput hgM bt' hne hY hR hD hHeld fz zr zz zx HT_ HW_ x0 x1 z0 z1
             go_wp2_with fail
             go_roundw
             case rel => exact ⟨s + 1, hls, by go_num, HY13.out, HR13.out, HB13.out⟩
             case measure => simp [intOf]; omega
           ·have hs0 : stepS cn plan bs (ts.map toS) p s i = none := by
             rw [HST.out, if_neg]
             intro h
             refine hcond ⟨h.1.imp hyp.2 (fun h => ?_), h.2.imp (fun h => by rw [HXX.out]; exact h) (fun h => ?_)⟩
             ·rw [← HXX.out, ← HDD.out, ← HTI.out, HF1.out] at h; exact h
             ·rw [← HTP.out, ← HHV.out, ← HTI.out, HF0.out] at h; exact h
            have HS0 := Lib.hid hs0
            have hgo : ((0 : Int) < (y : Int) ∧ (((d : Int) != f1) = true ∧ (True ∧ True))) ∨ (¬ (0 : Int) < (y : Int) ∧ (True ∧ ((0 : Int) < (x : Int) ∧ ((hv : Int) != f0) = true))) ∨ ((0 : Int) < (y : Int) ∧ (((d : Int) != f1) = false ∧ ((0 : Int) < (x : Int) ∧ ((hv : Int) != f0) = true))) := by
             by_cases h1 : y = 0
             ·refine .inr (.inl ⟨by omega, trivial, ?_, ?_⟩)
              ·by_cases h2 : x = 0
               ·exact absurd ⟨.inl h1, .inl h2⟩ hcond
               ·omega
              ·simp only [bne_iff_ne, ne_eq]; intro h2; exact hcond ⟨.inl h1, .inr h2⟩
             ·by_cases h2 : (d : Int) = f1
              ·refine .inr (.inr ⟨by omega, by simp [h2], ?_, ?_⟩)
               ·by_cases h3 : x = 0
                ·exact absurd ⟨.inr h2, .inl h3⟩ hcond
                ·omega
               ·simp only [bne_iff_ne, ne_eq]; intro h3; exact hcond ⟨.inr h2, .inr h3⟩
              ·exact .inl ⟨by omega, by simp [h2], trivial, trivial⟩
            clear hs0 hcond hyp
            rcases hgo with ⟨g1, g2, g3, g4⟩ | ⟨g1, g2, g3, g4⟩ | ⟨g1, g2, g3, g4⟩
            all_goals
             go_wp2_with fail
             go_roundw
             case rel => exact ⟨s + 1, hls, by go_num, HY12.out, by rw [← mix_same (by rw [part_succ, HS0.out]; exact Int.add_zero _)]; exact HR12.out, HBT12.out⟩
             case measure => simp [intOf]; omega
          ·have i5 : ¬ (s : Int) < sz := by omega
           have es : s = sz := by omega
           rw [es, mix_all] at hR
           have HY := Lib.hid hY; have HR := Lib.hid hR
           clear hY hR bt es
           go_wp2_with fail
           go_roundw
           case rel => exact ⟨i + 1, hlt, by go_num, HY.out, HR.out⟩
           case measure => simp [intOf]; omega
       ·have i3 : ¬ (i : Int) < n := by omega
        have ei : i = (ts.map toS).length := by rw [List.length_map, ← HN.out]; omega
        have hR2 : Kd.R (Kd.int .i64) 2 wr M (fun _ => True) (.slice (some ⟨gl, 0, none⟩) sz cl) (layS cn plan bs (ts.map toS) p) := by
         rw [layS, HSZ.out, ← capRow_congr (fun a _ => part_all cn (ts.map toS) plan bs p hp a), ← ei]; exact hR
        obtain ⟨vh, yh, fh, lh⟩ := hY.head (i := p) (by omega)
        have HY14 := Lib.hid (hY.put hR2 (i := p) (by omega))
        have HOK14 := Lib.hid (lay_ok_set HOK.out hp)
        have i15 : (p : Int) < (places plan : Int) + 1 := by omega
        have i16 : (p : Int) < ((places plan + 1 : Nat) : Int) := by omega
        have i17 : p < places plan + 1 := by omega
        clear hY hR hR2 ei
        go_wp2_with fail
        go_roundw
        case rel => exact ⟨p, _, _, _, by omega, by first | rfl | go_num, by first | rfl | omega, HY14.out, HOK14.out⟩
        case measure => simp [intOf]
end Go.Proofs.Ytcaikaflpmaocaa
namespace Go.Proofs.Ytcaikaflpmaocaa.Q
open Go Go.RowKit Go.Proofs Go.Proofs.YtcaikaflpmaocaaW.PrintWords Go.Proofs.YtcaikaflpmaocaaW.PrintMore Go.Proofs.Ytcaikaflpmaocaa
set_option linter.unusedVariables false
set_option linter.unusedSimpArgs false
def colB (c : Nat) (t : STile) : Bool := decide ((0 ≤ t.f0 ∧ t.f0 < (c : Int)) ∧ (0 ≤ t.f1 ∧ t.f1 < (c : Int)) ∧ (0 ≤ t.f2 ∧ t.f2 < (c : Int)) ∧ (0 ≤ t.f3 ∧ t.f3 < (c : Int)))
def spec_l03Layers.ok (C : Int) (l : List STile) (plan bs : List (List Int)) : Bool := (decide (1 ≤ C ∧ C ≤ 6) && decide (l.length ≤ 1000)) && (shapeB plan bs && l.all (colB C.toNat))
def spec_l03Layers.f (k : Nat) (a0_0 : Int) (l0_1 : List STile) (l1 l2 : List (List Int)) : Option (List (List Int)) :=
 if spec_l03Layers.ok a0_0 l0_1 l1 l2 = true then some (layersT a0_0.toNat l1 l2 l0_1) else none
theorem spec_l03Layers.mono : ∀ a0 a1 a2 a3 k, LeO (spec_l03Layers.f k a0 a1 a2 a3) (spec_l03Layers.f (k + 1) a0 a1 a2 a3) := fun _ _ _ _ _ => LeO.refl _
theorem spec_l03Layers.calls (k : Nat) (a0_0 : Int) (A0_1 : Option Addr) (c0_1 : Nat) (l0_1 : List STile) (A1 : Option Addr) (c1 : Nat) (l1 : List (List Int)) (A2 : Option Addr) (c2 : Nat) (l2 : List (List Int)) (r : List (List Int)) (w : World) (hr0_1 : Kd.C k85 w A0_1 l0_1.length l0_1) (hc0_1 : l0_1.length ≤ c0_1) (hr1 : Kd.C (Kd.slice 2 (Kd.int .i64)) w A1 l1.length l1) (hc1 : l1.length ≤ c1) (hr2 : Kd.C (Kd.slice 2 (Kd.int .i64)) w A2 l2.length l2) (hc2 : l2.length ≤ c2) (h : spec_l03Layers.f k a0_0 l0_1 l1 l2 = some r) :
 Calls Try.prog 57 #[.agg #[.int .i64 a0_0, .slice A0_1 l0_1.length c0_1], .slice A1 l1.length c1, .slice A2 l2.length c2] w fun e w' => ∃ v0_ : Value, e = .returned (v0_) ∧ Kd.S (Kd.slice 2 (Kd.int .i64)) 56 w' w.heap.size (fun _ => True) v0_ r ∧ Below w.heap.size w w' := by
 unfold spec_l03Layers.f at h
 split at h
 ·rename_i hl
  simp only [spec_l03Layers.ok, Bool.and_eq_true, decide_eq_true_eq, List.all_eq_true, colB] at hl
  obtain ⟨⟨hC, hn⟩, hsh, hcol⟩ := hl
  obtain rfl := Option.some.inj h
  have h3 := lay_any a0_0 a0_0.toNat A0_1 (l0_1.map toT) l0_1.length c0_1 A1 l1 l1.length c1 A2 l2 l2.length c2 w (by omega) (by omega) (by omega) (by simp) (rt_of_C hr0_1) hn rfl (rr_of_C hr1) rfl (rr_of_C hr2) (shape_of hsh) (by rw [map_toST]; exact hcol)
  rw [map_toST] at h3
  exact h3
 ·cases h
end Go.Proofs.Ytcaikaflpmaocaa.Q
namespace Go.Proofs.Ytcaikaflpmaocaa
open Go Go.RowKit Go.Proofs Go.Proofs.YtcaikaflpmaocaaW.PrintWords Go.Proofs.YtcaikaflpmaocaaW.PrintMore Go.Proofs.Ytcaikaflpmaocaa.Q
end Go.Proofs.Ytcaikaflpmaocaa
namespace Go.Proofs.Ytcaikaflpmaocaa.Q
open Go.RowKit Go.Proofs.YtcaikaflpmaocaaW.PrintWords Go.Proofs.YtcaikaflpmaocaaW.PrintLast Go.Proofs.YtcaikaflpmaocaaW.PrintMore
attribute [local go_sem] max2_int min2_int max_two min_two max_three min_three max_four min_four
set_option linter.unusedVariables false
set_option linter.unusedSimpArgs false
abbrev spec_FirstFilling.z0 : Array Bool := #[f_,f_,f_,f_,f_,f_,f_,f_,f_,f_]
def spec_FirstFilling.f (k : Nat) (a0_0 : Int) (l0_1 : List (S85)) (l1 : List (List Int)) (l2 : List (List Int)) : Option ((List (List Int)) × Int) := (spec_l03Plan.f k a0_0 l0_1 l1 l2).bind fun t395 => (if t395 = 0 then ((spec_l03Layers.f k a0_0 l0_1 l1 l2).bind fun t396 => ((spec_l03List.f k a0_0 l0_1 l1 l2 t396 (([] : List Int)) 0 1).bind fun t402 => (if (t402.length : Int) = 0 then (some (([] : List (List Int)), 4)) else (if 0 < (t402.length : Int) then (if 0 < (l1.length : Int) then ((spec_l03Cut.f k (rd_L1 t402 0) ((rd_L1 l1 0).length : Int)).bind fun t407 => (some (t407, 0))) else (none)) else (none))))) else (some (([] : List (List Int)), t395)))
theorem spec_FirstFilling.mono : ∀ a0 a1 a2 a3 k, LeO (spec_FirstFilling.f k a0 a1 a2 a3) (spec_FirstFilling.f (k + 1) a0 a1 a2 a3) := by
 intro a0 a1 a2 a3 k
 unfold spec_FirstFilling.f
 repeat' first
  | (with_reducible exact spec_l03Cut.mono _ _ _)
  | (with_reducible exact spec_l03Layers.mono _ _ _ _ _)
  | (with_reducible exact spec_l03List.mono _ _ _ _ _ _ _ _ _)
  | (with_reducible exact spec_l03Plan.mono _ _ _ _ _)
  | (with_reducible exact LeO.refl _)
  | (with_reducible exact LeO.none _)
  | (with_reducible refine LeO.ite ?_ ?_)
  | (with_reducible refine LeO.bind ?_ (fun _ => ?_))
  | exact spec_l03Cut.mono _ _ _
  | exact spec_l03Layers.mono _ _ _ _ _
  | exact spec_l03List.mono _ _ _ _ _ _ _ _ _
  | exact spec_l03Plan.mono _ _ _ _ _
  | exact LeO.none _
  | refine LeO.ite ?_ ?_
  | refine LeO.bind ?_ (fun _ => ?_)
def spec_FirstFilling.T4 : Bool × List (List Nat × List Nat) := (true, [([], []), ([], []), ([], []), ([], []), ([], []), ([], []), ([3, 4, 5], [3, 4, 5]), ([], []), ([0, 1, 2, 6, 7, 6], [0, 1, 2, 6, 7]), ([8, 8, 0, 1, 2, 3, 4, 5, 6, 7, 8], [8])])
def spec_FirstFilling.B4 : List Nat := [0, 0, 0, 0, 0, 0, 56, 0, 255, 511]
theorem spec_FirstFilling.tab4 : rtab .any (opsOf Try.f29 4) = spec_FirstFilling.T4 := by kernel_rfl
theorem spec_FirstFilling.bits4 : waitsOk spec_FirstFilling.T4.2 spec_FirstFilling.B4 = true := by kernel_rfl
def spec_FirstFilling.T7 : Bool × List (List Nat × List Nat) := (true, [([], []), ([0], [0]), ([1], [1]), ([], []), ([3], [3]), ([4], [4]), ([5], [5]), ([2, 6], [2, 6]), ([7, 7, 0, 1, 2, 3, 4, 5, 6, 7], [7]), ([8, 0, 1, 2, 3, 4, 5, 6, 7, 8], [])])
def spec_FirstFilling.B7 : List Nat := [0, 1, 3, 0, 8, 24, 56, 127, 255, 511]
theorem spec_FirstFilling.tab7 : rtab .any (opsOf Try.f29 7) = spec_FirstFilling.T7 := by kernel_rfl
theorem spec_FirstFilling.bits7 : waitsOk spec_FirstFilling.T7.2 spec_FirstFilling.B7 = true := by kernel_rfl
set_option maxHeartbeats 8000000 in
set_option maxRecDepth 100000 in
theorem spec_FirstFilling.calls (k : Nat) (a0_0 : Int) (A0_1 : Option Addr) (c0_1 : Nat) (l0_1 : List (S85)) (A1 : Option Addr) (c1 : Nat) (l1 : List (List Int)) (A2 : Option Addr) (c2 : Nat) (l2 : List (List Int)) (r1 : List (List Int)) (r2 : Int) (w : World) (hr0_1 : Kd.C k85 w A0_1 l0_1.length l0_1) (hc0_1 : l0_1.length ≤ c0_1) (hr1 : Kd.C (Kd.slice 2 (Kd.int .i64)) w A1 l1.length l1) (hc1 : l1.length ≤ c1) (hr2 : Kd.C (Kd.slice 2 (Kd.int .i64)) w A2 l2.length l2) (hc2 : l2.length ≤ c2) (h : spec_FirstFilling.f k a0_0 l0_1 l1 l2 = some (r1, r2)) :
 Calls Try.prog 29 #[.agg #[.int .i64 a0_0, .slice A0_1 l0_1.length c0_1], .slice A1 l1.length c1, .slice A2 l2.length c2] w fun e w' => ∃ v0_ : Value, e = .returned (.tuple #[v0_, .int .i64 r2]) ∧ Kd.S (Kd.slice 2 (Kd.int .i64)) 56 w' w.heap.size (fun k_ => (w.heap.size ≤ k_)) v0_ r1 ∧ Below w.heap.size w w' := by
 have hu36 := Try.underlying36
 have HR0_1 := Aside0.mk hr0_1
 have HC0_1 := Aside0.mk hc0_1
 clear hr0_1 hc0_1
 have HR1 := Aside0.mk hr1
 have HC1 := Aside0.mk hc1
 clear hr1 hc1
 have HR2 := Aside0.mk hr2
 have HC2 := Aside0.mk hc2
 clear hr2 hc2
 have HB := Aside0.mk (Below.refl w.heap.size w)
 have H : ((spec_l03Plan.f k a0_0 l0_1 l1 l2).bind fun t395 => (if t395 = 0 then ((spec_l03Layers.f k a0_0 l0_1 l1 l2).bind fun t396 => ((spec_l03List.f k a0_0 l0_1 l1 l2 t396 (([] : List Int)) 0 1).bind fun t402 => (if (t402.length : Int) = 0 then (some (([] : List (List Int)), 4)) else (if 0 < (t402.length : Int) then (if 0 < (l1.length : Int) then ((spec_l03Cut.f k (rd_L1 t402 0) ((rd_L1 l1 0).length : Int)).bind fun t407 => (some (t407, 0))) else (none)) else (none))))) else (some (([] : List (List Int)), t395)))) = some (r1, r2) := h
 clear h
 replace H := Option.bind_eq_some_iff.mp H
 obtain ⟨t395, A40, H⟩ := H
 replace H : (if t395 = 0 then ((spec_l03Layers.f k a0_0 l0_1 l1 l2).bind fun t396 => ((spec_l03List.f k a0_0 l0_1 l1 l2 t396 (([] : List Int)) 0 1).bind fun t402 => (if (t402.length : Int) = 0 then (some (([] : List (List Int)), 4)) else (if 0 < (t402.length : Int) then (if 0 < (l1.length : Int) then ((spec_l03Cut.f k (rd_L1 t402 0) ((rd_L1 l1 0).length : Int)).bind fun t407 => (some (t407, 0))) else (none)) else (none))))) else (some (([] : List (List Int)), t395))) = some (r1, r2) := H
 have A4 := Aside0.mk A40
 clear A40
 by_cases c5 : t395 = 0
 rotate_left
 ·rw [if_neg c5] at H
  have c5b0 : (t395 == 0) = false := beq_eq_false_iff_ne.mpr c5
  have c5b1 : (t395 != 0) = true := bne_iff_ne.mpr c5
  simp only [Option.some.injEq, Prod.mk.injEq] at H
  obtain ⟨rfl, rfl⟩ := H
  go_enter Try.func29, Try.ntmps29
  go_wp2_with (first | ((with_reducible refine gate_dst (N := 3) rfl ?_); refine box_event ?hg (N := 3) ?hd (cs := #[.int .i64 a0_0, .slice A0_1 l0_1.length c0_1]) (t := 36) ?hr ?_; (case hd => rfl); (case hg => rfl); (case hr => first | (go_simp; done) | (go_simp; rfl)); intro gb394 hg w38 hbox hb; have n0_ := Aside0.mk (below_step (by repeat (first | (with_reducible first | exact HB.out | apply lA_ | apply lN_ | apply lD_) | exact HB.out)) hb); have n1_ := Aside0.mk (hbox); have n2_ := Aside0.mk ((by rw [hg]; exact (below_size (by repeat (first | (with_reducible first | exact HB.out | apply lA_ | apply lN_ | apply lD_) | exact HB.out))) : w.heap.size ≤ gb394)); have n3_ := Aside0.mk ((by rw [hg]; exact (below_size (by repeat (first | (with_reducible first | exact HB.out | apply lA_ | apply lN_ | apply lD_) | exact HB.out))) : w.heap.size ≤ gb394)); clear HB; have HB := n0_; have BK394 := n1_; have GW394 := n2_; have GE394 := n3_; clear n0_ n1_ n2_ n3_; clear hb hbox hg; have hcz39_0 : w38.cell? ⟨gb394, 0, none⟩ = some (.int .i64 a0_0) := (blk_cell BK394.out 0).trans rfl; have hcz39_1 : w38.cell? ⟨gb394, 1, none⟩ = some (.slice A0_1 l0_1.length c0_1) := (blk_cell BK394.out 1).trans rfl; have hfz39_0 := blk_frozen BK394.out 0; have hfz39_1 := blk_frozen BK394.out 1) | ((with_reducible refine gate_callee (f := 56) rfl ?_); refine goesL_ (some 13) rfl rfl Try.func56 (by kernel_rfl) rfl #[.agg #[.int .i64 a0_0, .slice A0_1 l0_1.length c0_1], .slice A1 l1.length c1, .slice A2 l2.length c2] rfl (by (try simp only [q4_, q5_, q6_]); first | done | rfl | (simp only [List.length_drop, List.length_take]; rfl)) ?_; (with_reducible refine (spec_l03Plan.calls k a0_0 _ _ l0_1 _ _ l1 _ _ l2 t395 _ ?side1 ?side2 ?side3 ?side4 ?side5 ?side6 A4.out).mono ?_); (case side1 => repeat (first | exact (Kd.C_below HR0_1.out HB.out) | (with_reducible refine Kd.C_alloc ?_ _) | (with_reducible refine Kd.C_drewN ?_ _) | (with_reducible refine Kd.C_drew ?_))); (case side2 => exact HC0_1.out); (case side3 => repeat (first | exact (Kd.C_below HR1.out HB.out) | (with_reducible refine Kd.C_alloc ?_ _) | (with_reducible refine Kd.C_drewN ?_ _) | (with_reducible refine Kd.C_drew ?_))); (case side4 => exact HC1.out); (case side5 => repeat (first | exact (Kd.C_below HR2.out HB.out) | (with_reducible refine Kd.C_alloc ?_ _) | (with_reducible refine Kd.C_drewN ?_ _) | (with_reducible refine Kd.C_drew ?_))); (case side6 => exact HC2.out); rintro e w40 ⟨rfl, hb⟩; refine ⟨_, rfl, ?_⟩; have n0_ := Aside0.mk (blk_below (g := gb394) (o := .cells #[.int .i64 a0_0, .slice A0_1 l0_1.length c0_1] 36 (0, 0)) (by (with_reducible repeat (first | apply bN_ | apply bD_ | apply bA_)); exact BK394.out) hb); have n1_ := Aside0.mk (below_step (by repeat (first | (with_reducible first | exact HB.out | apply lA_ | apply lN_ | apply lD_ | refine lS_ ?_ GE394.out) | exact HB.out)) hb); clear BK394; clear HB; have BK394 := n0_; have HB := n1_; clear n0_ n1_; (try clear hb); (try clear hb2); (try clear hk); (try clear hi)))
  go_ret2
  exact ⟨_, by first | rfl | (simp [errW_none, errW_some] <;> rfl) | (simp [*, errW_none, errW_some] <;> rfl), by first | exact Kd.S_nil _ _ _ _ _ | exact Kd.N_nil _ _ _ _ _ | exact Kd.V_nil _ _ _ _ _ | exact Kd.Q_nil _ _ _ _ _ | exact Kd.R_nil _ _ _ _ _, by repeat (first | (with_reducible first | exact HB.out | apply lA_ | apply lN_ | apply lD_ | refine lS_ ?_ GE394.out) | exact HB.out)⟩
 rw [if_pos c5] at H
 have c5b0 : (t395 == 0) = true := beq_iff_eq.mpr c5
 have c5b1 : (t395 != 0) = false := bne_eq_false_iff_eq.mpr c5
 clear c5
 replace H := Option.bind_eq_some_iff.mp H
 obtain ⟨t396, A60, H⟩ := H
 replace H : ((spec_l03List.f k a0_0 l0_1 l1 l2 t396 (([] : List Int)) 0 1).bind fun t402 => (if (t402.length : Int) = 0 then (some (([] : List (List Int)), 4)) else (if 0 < (t402.length : Int) then (if 0 < (l1.length : Int) then ((spec_l03Cut.f k (rd_L1 t402 0) ((rd_L1 l1 0).length : Int)).bind fun t407 => (some (t407, 0))) else (none)) else (none)))) = some (r1, r2) := H
 have A6 := Aside0.mk A60
 clear A60
 obtain ⟨y399, hy399⟩ : ∃ y_ : List Int, y_ = (([] : List Int)) := ⟨_, rfl⟩
 replace H : ((spec_l03List.f k a0_0 l0_1 l1 l2 t396 y399 0 1).bind fun t402 => (if (t402.length : Int) = 0 then (some (([] : List (List Int)), 4)) else (if 0 < (t402.length : Int) then (if 0 < (l1.length : Int) then ((spec_l03Cut.f k (rd_L1 t402 0) ((rd_L1 l1 0).length : Int)).bind fun t407 => (some (t407, 0))) else (none)) else (none)))) = some (r1, r2) := by first | (rw [hy399]; with_reducible exact H) | (have H2_ := (Option.bind_some _ _).symm.trans H; rw [hy399]; with_reducible exact H2_) | (have H2_ := (Option.bind_some _ _).symm.trans H; with_reducible exact H2_) | with_reducible exact H | (rw [hy399]; exact H) | exact H
 have Ny399 := Aside0.mk hy399
 clear hy399
 replace H := Option.bind_eq_some_iff.mp H
 obtain ⟨t402, A70, H⟩ := H
 replace H : (if (t402.length : Int) = 0 then (some (([] : List (List Int)), 4)) else (if 0 < (t402.length : Int) then (if 0 < (l1.length : Int) then ((spec_l03Cut.f k (rd_L1 t402 0) ((rd_L1 l1 0).length : Int)).bind fun t407 => (some (t407, 0))) else (none)) else (none))) = some (r1, r2) := H
 have A7 := Aside0.mk A70
 clear A70
 by_cases c8 : (t402.length : Int) = 0
 rotate_left
 ·rw [if_neg c8] at H
  have c8b0 : ((t402.length : Int) == 0) = false := beq_eq_false_iff_ne.mpr c8
  have c8b1 : ((t402.length : Int) != 0) = true := bne_iff_ne.mpr c8
  have c8b2 : ¬ (t402 = []) := fun h_ => c8 (by rw [h_]; rfl)
  by_cases c21 : 0 < (t402.length : Int)
  rotate_left
  ·rw [if_neg c21] at H
   exact absurd H (by simp)
  rw [if_pos c21] at H
  have c21b0 : decide (0 < (t402.length : Int)) = true := decide_eq_true c21
  have c21b1 : decide (0 < t402.length) = true := decide_eq_true (by omega)
  clear c21
  by_cases c22 : 0 < (l1.length : Int)
  rotate_left
  ·rw [if_neg c22] at H
   exact absurd H (by simp)
  rw [if_pos c22] at H
  have c22b0 : decide (0 < (l1.length : Int)) = true := decide_eq_true c22
  have c22b1 : decide (0 < l1.length) = true := decide_eq_true (by omega)
  clear c22
  replace H := Option.bind_eq_some_iff.mp H
  obtain ⟨t407, A230, H⟩ := H
  replace H : (some (t407, 0)) = some (r1, r2) := H
  have A23 := Aside0.mk A230
  clear A230
  simp only [Option.some.injEq, Prod.mk.injEq] at H
  obtain ⟨rfl, rfl⟩ := H
  go_enter Try.func29, Try.ntmps29
  try go_wp2_with (first | ((with_reducible refine gate_dst (N := 3) rfl ?_); refine box_event ?hg (N := 3) ?hd (cs := #[.int .i64 a0_0, .slice A0_1 l0_1.length c0_1]) (t := 36) ?hr ?_; (case hd => rfl); (case hg => rfl); (case hr => first | (go_simp; done) | (go_simp; rfl)); intro gb394 hg w24 hbox hb; have n0_ := Aside0.mk (below_step (by repeat (first | (with_reducible first | exact HB.out | apply lA_ | apply lN_ | apply lD_) | exact HB.out)) hb); have n1_ := Aside0.mk (hbox); have n2_ := Aside0.mk ((by rw [hg]; exact (below_size (by repeat (first | (with_reducible first | exact HB.out | apply lA_ | apply lN_ | apply lD_) | exact HB.out))) : w.heap.size ≤ gb394)); have n3_ := Aside0.mk ((by rw [hg]; exact (below_size (by repeat (first | (with_reducible first | exact HB.out | apply lA_ | apply lN_ | apply lD_) | exact HB.out))) : w.heap.size ≤ gb394)); clear HB; have HB := n0_; have BK394 := n1_; have GW394 := n2_; have GE394 := n3_; clear n0_ n1_ n2_ n3_; clear hb hbox hg; have hcz25_0 : w24.cell? ⟨gb394, 0, none⟩ = some (.int .i64 a0_0) := (blk_cell BK394.out 0).trans rfl; have hcz25_1 : w24.cell? ⟨gb394, 1, none⟩ = some (.slice A0_1 l0_1.length c0_1) := (blk_cell BK394.out 1).trans rfl; have hfz25_0 := blk_frozen BK394.out 0; have hfz25_1 := blk_frozen BK394.out 1) | ((with_reducible refine gate_callee (f := 56) rfl ?_); refine goesL_ (some 13) rfl rfl Try.func56 (by kernel_rfl) rfl #[.agg #[.int .i64 a0_0, .slice A0_1 l0_1.length c0_1], .slice A1 l1.length c1, .slice A2 l2.length c2] rfl (by (try simp only [q4_, q5_, q6_]); first | done | rfl | (simp only [List.length_drop, List.length_take]; rfl)) ?_; (with_reducible refine (spec_l03Plan.calls k a0_0 _ _ l0_1 _ _ l1 _ _ l2 t395 _ ?side1 ?side2 ?side3 ?side4 ?side5 ?side6 A4.out).mono ?_); (case side1 => repeat (first | exact (Kd.C_below HR0_1.out HB.out) | (with_reducible refine Kd.C_alloc ?_ _) | (with_reducible refine Kd.C_drewN ?_ _) | (with_reducible refine Kd.C_drew ?_))); (case side2 => exact HC0_1.out); (case side3 => repeat (first | exact (Kd.C_below HR1.out HB.out) | (with_reducible refine Kd.C_alloc ?_ _) | (with_reducible refine Kd.C_drewN ?_ _) | (with_reducible refine Kd.C_drew ?_))); (case side4 => exact HC1.out); (case side5 => repeat (first | exact (Kd.C_below HR2.out HB.out) | (with_reducible refine Kd.C_alloc ?_ _) | (with_reducible refine Kd.C_drewN ?_ _) | (with_reducible refine Kd.C_drew ?_))); (case side6 => exact HC2.out); rintro e w26 ⟨rfl, hb⟩; refine ⟨_, rfl, ?_⟩; have n0_ := Aside0.mk (blk_below (g := gb394) (o := .cells #[.int .i64 a0_0, .slice A0_1 l0_1.length c0_1] 36 (0, 0)) (by (with_reducible repeat (first | apply bN_ | apply bD_ | apply bA_)); exact BK394.out) hb); have n1_ := Aside0.mk (below_step (by repeat (first | (with_reducible first | exact HB.out | apply lA_ | apply lN_ | apply lD_ | refine lS_ ?_ GE394.out) | exact HB.out)) hb); clear BK394; clear HB; have BK394 := n0_; have HB := n1_; clear n0_ n1_; (try clear hb); (try clear hb2); (try clear hk); (try clear hi)))
  have n0_ := Aside0.mk (blk_drew BK394.out)
  have n1_ := Aside0.mk (below_drew1 HB.out)
  clear BK394
  clear HB
  have BK394 := n0_
  have HB := n1_
  clear n0_ n1_
  refine start_ (n := 10) (S := fun w' => True) (ds := []) spec_FirstFilling.z0 (by kernel_rfl) rfl rfl trivial (fun hHeld => ?_); refine with_tabW spec_FirstFilling.tab4 spec_FirstFilling.bits4 (fun HT_ HW_ => ?_)
  generalize w26.drew = w27 at BK394 HB hHeld ⊢
  refine p_ 1 18 ?_ #[f_,t_,f_,f_,f_,f_,f_,f_,f_,f_] rfl rfl HT_.out (by kernel_rfl) (fun _ _ _ h => h) (.inl ⟨by rfl, ?_⟩) ?_ ?_ ?_
  rotate_left
  ·intro w'
   go_simp
   with_reducible rfl
  rotate_left
  ·simp only [Q_]
   rfl
  refine p_ 2 19 ?_ #[f_,t_,t_,f_,f_,f_,f_,f_,f_,f_] rfl rfl HT_.out (by kernel_rfl) (fun _ _ _ h => h) (.inl ⟨by rfl, ?_⟩) ?_ ?_ ?_
  rotate_left
  ·intro w'
   go_simp
   with_reducible rfl
  rotate_left
  ·simp only [Q_]
   rfl
  refine p_ 4 21 ?_ #[f_,t_,t_,f_,t_,f_,f_,f_,f_,f_] rfl rfl HT_.out (by kernel_rfl) (fun _ _ _ h => h) (.inl ⟨by rfl, ?_⟩) ?_ ?_ ?_
  rotate_left
  ·intro w'
   go_simp
   with_reducible rfl
  rotate_left
  ·simp only [Q_]
   rfl
  refine p_ 5 22 ?_ #[f_,t_,t_,f_,t_,t_,f_,f_,f_,f_] rfl rfl HT_.out (by kernel_rfl) (fun _ _ _ h => h) (.inl ⟨by rfl, ?_⟩) ?_ ?_ ?_
  rotate_left
  ·intro w'
   go_simp
   with_reducible rfl
  rotate_left
  ·simp only [Q_]
   rfl
  refine inv_at [0, 3, 6, 7, 8, 9] (fun a0_ b a w' => ∃ (v397 : Value) (v400 : Value) (v403 : Value) (m9_ : Value), a = putSel a0_ b [(0, 17, .agg #[.int .i64 a0_0, .slice A0_1 l0_1.length c0_1]), (3, 20, .agg #[.int .i64 a0_0, .slice A0_1 l0_1.length c0_1]), (6, 23, v397), (7, 24, v400), (8, 25, v403), (9, 9, m9_)] ∧ (w'.heap[gb394]? = some (.cells #[.int .i64 a0_0, .slice A0_1 l0_1.length c0_1] 36 (0, 0))) ∧ (Below w.heap.size w w') ∧ (b 6 = true → Kd.N (Kd.slice 2 (Kd.int .i64)) 56 w' w.heap.size (fun k_ => (w.heap.size ≤ k_) ∧ k_ ≠ gb394) v397 t396) ∧ (b 7 = true → Kd.R (Kd.int .i64) 2 w' w.heap.size (fun k_ => (w.heap.size ≤ k_)) v400 y399) ∧ (b 8 = true → Kd.N (Kd.slice 2 (Kd.int .i64)) 56 w' w.heap.size (fun k_ => (w.heap.size ≤ k_) ∧ k_ ≠ gb394) v403 t402) ∧ (b 9 = true → (m9_ : Value) = v403)) HT_.out HW_.out (by kernel_rfl) (by kernel_rfl) ?_ ?_ ?_
  ·exact ⟨.bool false, .bool false, .bool false, .bool false, by simp only [putSel, Bool.false_eq_true, if_false], BK394.out, HB.out, fun h_ => absurd h_ (by decide), fun h_ => absurd h_ (by decide), fun h_ => absurd h_ (by decide), fun h_ => absurd h_ (by decide)⟩
  ·skip
   clear BK394 HB
   refine steps_cons ?_ ?_
   ·rintro b a w' ⟨v397, v400, v403, m9_, ha, Q_BK394, Q_HB, Q_HO398, Q_HO401, Q_HO404, Q_X9_⟩ hb_ hon hoff
    refine ⟨_, rfl, fun K hK => ?_⟩
    have e3 : a.tmps[3]? = some (.pointer (some ⟨gb394, 0, none⟩)) := by rw [ha]; exact (putSel_off rfl).trans rfl
    replace ha := Aside0.mk ha
    have BK394 := Aside0.mk Q_BK394
    have HB := Aside0.mk Q_HB
    have hc0_ : w'.cell? ⟨gb394, 0, none⟩ = some (.int .i64 a0_0) := (blk_cell BK394.out 0).trans rfl
    have hc1_ : w'.cell? ⟨gb394, 1, none⟩ = some (.slice A0_1 l0_1.length c0_1) := (blk_cell BK394.out 1).trans rfl
    refine value_ (w1 := w') (v := .agg #[.int .i64 a0_0, .slice A0_1 l0_1.length c0_1]) (by rfl) rfl ?_ ?_
    ·go_simp
     (try simp only [i64_w])
     try rfl
    refine hK.out _ _ ⟨v397, v400, v403, m9_, (by rw [ha.out]; exact putSel_upk 0 hb_ rfl rfl rfl), Q_BK394, Q_HB, Q_HO398, Q_HO401, fun h0_ => absurd ((hoff 8 (by kernel_rfl)).symm.trans h0_) (by decide), fun h0_ => absurd ((hoff 9 (by kernel_rfl)).symm.trans h0_) (by decide)⟩
   refine steps_cons ?_ ?_
   ·rintro b a w' ⟨v397, v400, v403, m9_, ha, Q_BK394, Q_HB, Q_HO398, Q_HO401, Q_HO404, Q_X9_⟩ hb_ hon hoff
    refine ⟨_, rfl, fun K hK => ?_⟩
    have e3 : a.tmps[3]? = some (.pointer (some ⟨gb394, 0, none⟩)) := by rw [ha]; exact (putSel_off rfl).trans rfl
    replace ha := Aside0.mk ha
    have BK394 := Aside0.mk Q_BK394
    have HB := Aside0.mk Q_HB
    have hc0_ : w'.cell? ⟨gb394, 0, none⟩ = some (.int .i64 a0_0) := (blk_cell BK394.out 0).trans rfl
    have hc1_ : w'.cell? ⟨gb394, 1, none⟩ = some (.slice A0_1 l0_1.length c0_1) := (blk_cell BK394.out 1).trans rfl
    refine value_ (w1 := w') (v := .agg #[.int .i64 a0_0, .slice A0_1 l0_1.length c0_1]) (by rfl) rfl ?_ ?_
    ·go_simp
     (try simp only [i64_w])
     try rfl
    refine hK.out _ _ ⟨v397, v400, v403, m9_, (by rw [ha.out]; exact putSel_upk 1 hb_ rfl rfl rfl), Q_BK394, Q_HB, fun h0_ => absurd ((hoff 6 (by kernel_rfl)).symm.trans h0_) (by decide), Q_HO401, fun h0_ => absurd ((hoff 8 (by kernel_rfl)).symm.trans h0_) (by decide), fun h0_ => absurd ((hoff 9 (by kernel_rfl)).symm.trans h0_) (by decide)⟩
   refine steps_cons ?_ ?_
   ·rintro b a w' ⟨v397, v400, v403, m9_, ha, Q_BK394, Q_HB, Q_HO398, Q_HO401, Q_HO404, Q_X9_⟩ hb_ hon hoff
    refine ⟨_, rfl, fun K hK => ?_⟩
    have e20 : a.tmps[20]? = some (.agg #[.int .i64 a0_0, .slice A0_1 l0_1.length c0_1]) := by rw [ha]; exact putSel_on (e := (3, 20, .agg #[.int .i64 a0_0, .slice A0_1 l0_1.length c0_1])) 1 rfl rfl (hon 3 (by kernel_rfl)) rfl
    have e21 : a.tmps[21]? = some (.slice A1 l1.length c1) := by rw [ha]; exact (putSel_off rfl).trans rfl
    have e22 : a.tmps[22]? = some (.slice A2 l2.length c2) := by rw [ha]; exact (putSel_off rfl).trans rfl
    replace ha := Aside0.mk ha
    have BK394 := Aside0.mk Q_BK394
    have HB := Aside0.mk Q_HB
    refine goes_ Try.func57 (by kernel_rfl) rfl #[.agg #[.int .i64 a0_0, .slice A0_1 l0_1.length c0_1], .slice A1 l1.length c1, .slice A2 l2.length c2] (by rfl) rfl rfl (by first | (simp only [q4_, q5_, q6_, Act.eval, Array.getD_eq_getD_getElem?, Option.getD_some, e20, e21, e22]; done) | (simp only [q4_, q5_, q6_, Act.eval, Array.getD_eq_getD_getElem?, Option.getD_some, e20, e21, e22]; rfl)) ?_
    with_reducible refine (spec_l03Layers.calls k a0_0 _ _ l0_1 _ _ l1 _ _ l2 t396 _ ?side1 ?side2 ?side3 ?side4 ?side5 ?side6 A6.out).mono ?_
    (case side1 => repeat (first | exact (Kd.C_below HR0_1.out HB.out) | (with_reducible refine Kd.C_alloc ?_ _) | (with_reducible refine Kd.C_drewN ?_ _) | (with_reducible refine Kd.C_drew ?_)))
    (case side2 => exact HC0_1.out)
    (case side3 => repeat (first | exact (Kd.C_below HR1.out HB.out) | (with_reducible refine Kd.C_alloc ?_ _) | (with_reducible refine Kd.C_drewN ?_ _) | (with_reducible refine Kd.C_drew ?_)))
    (case side4 => exact HC1.out)
    (case side5 => repeat (first | exact (Kd.C_below HR2.out HB.out) | (with_reducible refine Kd.C_alloc ?_ _) | (with_reducible refine Kd.C_drewN ?_ _) | (with_reducible refine Kd.C_drew ?_)))
    (case side6 => exact HC2.out)
    rintro e w28 ⟨v397, rfl, ho0, hb⟩
    refine ⟨_, rfl, ?_⟩
    have n0_ := Aside0.mk (Kd.N_lower (Kd.N_mono (ok' := fun k_ => (w.heap.size ≤ k_) ∧ k_ ≠ gb394) (Kd.S_N (Kd.S_bound ho0)) (fun k_ hk_ => ⟨(Nat.le_trans (below_size (by repeat (first | (with_reducible first | exact HB.out | apply lA_ | apply lN_ | apply lD_ | refine lS_ ?_ GE394.out) | exact HB.out))) hk_.2.1), (Kd.freshB (g := gb394) (o := .cells #[.int .i64 a0_0, .slice A0_1 l0_1.length c0_1] 36 (0, 0)) (by (with_reducible repeat (first | apply bN_ | apply bD_ | apply bA_)); exact BK394.out) k_ hk_.2.1)⟩)) (below_size (by repeat (first | (with_reducible first | exact HB.out | apply lA_ | apply lN_ | apply lD_ | refine lS_ ?_ GE394.out) | exact HB.out))))
    have n1_ := Aside0.mk (blk_below (g := gb394) (o := .cells #[.int .i64 a0_0, .slice A0_1 l0_1.length c0_1] 36 (0, 0)) (by (with_reducible repeat (first | apply bN_ | apply bD_ | apply bA_)); exact BK394.out) hb)
    have n2_ := Aside0.mk (below_step (by repeat (first | (with_reducible first | exact HB.out | apply lA_ | apply lN_ | apply lD_ | refine lS_ ?_ GE394.out) | exact HB.out)) hb)
    have z_HO401 := fun (h0_ : b 7 = true) => (show Kd.R (Kd.int .i64) 2 w28 w.heap.size (fun k_ => (w.heap.size ≤ k_)) v400 y399 from by first | exact (Kd.R_below (by (with_reducible repeat (first | apply Kd.R_alloc | apply Kd.R_drewN | apply Kd.R_drew)); exact (Q_HO401 h0_)) hb) | exact Kd.R_mono (Kd.R_below (by (with_reducible repeat (first | apply Kd.R_alloc | apply Kd.R_drewN | apply Kd.R_drew)); exact (Q_HO401 h0_)) hb) (fun _ h_ => by first | trivial | exact h_ | exact h_.1))
    clear BK394
    clear HB
    have HO398 := n0_
    have BK394 := n1_
    have HB := n2_
    clear n0_ n1_ n2_
    (try clear hb)
    (try clear hb2)
    (try clear hk)
    (try clear hi)
    (try clear ho0)
    refine hK.out _ _ ⟨v397, v400, v403, m9_, (by rw [ha.out]; exact putSel_upk 2 hb_ rfl rfl rfl), (by (with_reducible repeat (first | apply bN_ | apply bD_ | apply bA_)); exact BK394.out), (by repeat (first | (with_reducible first | exact HB.out | apply lA_ | apply lN_ | apply lD_ | refine lS_ ?_ GE394.out) | exact HB.out)), fun _ => (by (with_reducible repeat (first | apply Kd.N_alloc | apply Kd.N_drewN | apply Kd.N_drew)); exact HO398.out), z_HO401, fun h0_ => absurd ((hoff 8 (by kernel_rfl)).symm.trans h0_) (by decide), fun h0_ => absurd ((hoff 9 (by kernel_rfl)).symm.trans h0_) (by decide)⟩
   refine steps_cons ?_ ?_
   ·rintro b a w' ⟨v397, v400, v403, m9_, ha, Q_BK394, Q_HB, Q_HO398, Q_HO401, Q_HO404, Q_X9_⟩ hb_ hon hoff
    refine ⟨_, rfl, fun K hK => ?_⟩
    replace ha := Aside0.mk ha
    have BK394 := Aside0.mk Q_BK394
    have HB := Aside0.mk Q_HB
    refine Kd.R_lit_step (Kd.int .i64) _ 2 ?hg (N := 24) ?hd (xs := ([] : List Int)) (inner := []) (ok := fun _ => True) (okp := fun _ => True) ?hr ?hp (fun _ hk => hk) trivial (Below.refl _ _) (Nat.le_refl _) (by simp) ?_; (case hd => rfl); (case hg => rfl); (case hr => first | (go_simp; done) | (go_simp; rfl)); (case hp => exact (Reps.none _ _))
    intro v400 w28 ho29 hb hg_ hnew_
    clear hg_ hnew_
    (first | rw [← Ny399.out] at ho29 | (simp only [Int.reduceToNat] at ho29; rw [← Ny399.out] at ho29))
    have n0_ := Aside0.mk (Kd.R_lower (Kd.R_newM (M := fun k_ => (w.heap.size ≤ k_)) ho29 (below_size (by repeat (first | (with_reducible first | exact HB.out | apply lA_ | apply lN_ | apply lD_ | refine lS_ ?_ GE394.out) | exact HB.out))) (fun k_ h_ => h_)) (below_size (by repeat (first | (with_reducible first | exact HB.out | apply lA_ | apply lN_ | apply lD_ | refine lS_ ?_ GE394.out) | exact HB.out))))
    have n1_ := Aside0.mk (blk_below (g := gb394) (o := .cells #[.int .i64 a0_0, .slice A0_1 l0_1.length c0_1] 36 (0, 0)) (by (with_reducible repeat (first | apply bN_ | apply bD_ | apply bA_)); exact BK394.out) hb)
    have n2_ := Aside0.mk (below_step (by repeat (first | (with_reducible first | exact HB.out | apply lA_ | apply lN_ | apply lD_ | refine lS_ ?_ GE394.out) | exact HB.out)) hb)
    have z_HO398 := fun (h0_ : b 6 = true) => (show Kd.N (Kd.slice 2 (Kd.int .i64)) 56 w28 w.heap.size (fun k_ => (w.heap.size ≤ k_) ∧ k_ ≠ gb394) v397 t396 from by first | exact (Kd.N_elder' (by (with_reducible repeat (first | apply Kd.N_alloc | apply Kd.N_drewN | apply Kd.N_drew)); exact (Q_HO398 h0_)) (Kd.R_base ho29) hb) | exact Kd.N_mono (Kd.N_elder' (by (with_reducible repeat (first | apply Kd.N_alloc | apply Kd.N_drewN | apply Kd.N_drew)); exact (Q_HO398 h0_)) (Kd.R_base ho29) hb) (fun _ h_ => by first | trivial | exact h_ | exact h_.1))
    clear BK394
    clear HB
    have HO401 := n0_
    have BK394 := n1_
    have HB := n2_
    clear n0_ n1_ n2_
    clear hb ho29
    refine hK.out _ _ ⟨v397, v400, v403, m9_, (by rw [ha.out]; exact putSel_upk 3 hb_ rfl rfl rfl), (by (with_reducible repeat (first | apply bN_ | apply bD_ | apply bA_)); exact BK394.out), (by repeat (first | (with_reducible first | exact HB.out | apply lA_ | apply lN_ | apply lD_ | refine lS_ ?_ GE394.out) | exact HB.out)), z_HO398, fun _ => (by (with_reducible repeat (first | apply Kd.R_alloc | apply Kd.R_drewN | apply Kd.R_drew)); exact Kd.R_mono HO401.out (fun _ hk => hk.1)), fun h0_ => absurd ((hoff 8 (by kernel_rfl)).symm.trans h0_) (by decide), fun h0_ => absurd ((hoff 9 (by kernel_rfl)).symm.trans h0_) (by decide)⟩
   refine steps_cons ?_ ?_
   ·rintro b a w' ⟨v397, v400, v403, m9_, ha, Q_BK394, Q_HB, Q_HO398, Q_HO401, Q_HO404, Q_X9_⟩ hb_ hon hoff
    refine ⟨_, rfl, fun K hK => ?_⟩
    have e17 : a.tmps[17]? = some (.agg #[.int .i64 a0_0, .slice A0_1 l0_1.length c0_1]) := by rw [ha]; exact putSel_on (e := (0, 17, .agg #[.int .i64 a0_0, .slice A0_1 l0_1.length c0_1])) 0 rfl rfl (hon 0 (by kernel_rfl)) rfl
    have e18 : a.tmps[18]? = some (.slice A1 l1.length c1) := by rw [ha]; exact (putSel_off rfl).trans rfl
    have e19 : a.tmps[19]? = some (.slice A2 l2.length c2) := by rw [ha]; exact (putSel_off rfl).trans rfl
    have e23 : a.tmps[23]? = some (v397) := by rw [ha]; exact putSel_on (e := (6, 23, v397)) 2 rfl rfl (hon 6 (by kernel_rfl)) rfl
    have e24 : a.tmps[24]? = some (v400) := by rw [ha]; exact putSel_on (e := (7, 24, v400)) 3 rfl rfl (hon 7 (by kernel_rfl)) rfl
    replace ha := Aside0.mk ha
    have BK394 := Aside0.mk Q_BK394
    have HB := Aside0.mk Q_HB
    have HO398 := Aside0.mk (Q_HO398 (hon 6 (by kernel_rfl)))
    have HO401 := Aside0.mk (Q_HO401 (hon 7 (by kernel_rfl)))
    obtain ⟨Ao32, co32, eo32⟩ := Kd.N_slice HO398.out
    (first | subst eo32 | (injection eo32 with f1_ f2_ f3_; have f4_ := f1_.symm; have f5_ := f3_.symm; clear f1_ f2_ f3_; subst f4_; subst f5_))
    obtain ⟨Ao33, co33, eo33⟩ := Kd.R_slice HO401.out
    (first | subst eo33 | (injection eo33 with f1_ f2_ f3_; have f4_ := f1_.symm; have f5_ := f3_.symm; clear f1_ f2_ f3_; subst f4_; subst f5_))
    refine goes_ Try.func61 (by kernel_rfl) rfl #[.agg #[.int .i64 a0_0, .slice A0_1 l0_1.length c0_1], .slice A1 l1.length c1, .slice A2 l2.length c2, .slice Ao32 t396.length co32, .slice Ao33 y399.length co33, .int .i64 0, .int .i64 1] (by rfl) rfl rfl (by first | (simp only [q4_, q5_, q6_, Act.eval, Array.getD_eq_getD_getElem?, Option.getD_some, e17, e18, e19, e23, e24]; done) | (simp only [q4_, q5_, q6_, Act.eval, Array.getD_eq_getD_getElem?, Option.getD_some, e17, e18, e19, e23, e24]; rfl)) ?_
    with_reducible refine (spec_l03List.calls k a0_0 _ _ l0_1 _ _ l1 _ _ l2 _ _ t396 (fun k_ => some k_ = (.slice Ao33 y399.length co33 : Value).ownBlock) _ _ y399 0 1 t402 _ ?side1 ?side2 ?side3 ?side4 ?side5 ?side6 ?side7 ?side8 ?side9 A7.out).mono ?_
    (case side1 => repeat (first | exact (Kd.C_below HR0_1.out HB.out) | (with_reducible refine Kd.C_alloc ?_ _) | (with_reducible refine Kd.C_drewN ?_ _) | (with_reducible refine Kd.C_drew ?_)))
    (case side2 => exact HC0_1.out)
    (case side3 => repeat (first | exact (Kd.C_below HR1.out HB.out) | (with_reducible refine Kd.C_alloc ?_ _) | (with_reducible refine Kd.C_drewN ?_ _) | (with_reducible refine Kd.C_drew ?_)))
    (case side4 => exact HC1.out)
    (case side5 => repeat (first | exact (Kd.C_below HR2.out HB.out) | (with_reducible refine Kd.C_alloc ?_ _) | (with_reducible refine Kd.C_drewN ?_ _) | (with_reducible refine Kd.C_drew ?_)))
    (case side6 => exact HC2.out)
    (case side7 => repeat (first | exact (Kd.N_reads' HO398.out).2.2 | (with_reducible refine Kd.C_alloc ?_ _) | (with_reducible refine Kd.C_drewN ?_ _) | (with_reducible refine Kd.C_drew ?_)))
    (case side8 => exact (Kd.N_reads' HO398.out).2.1)
    (case side9 => exact Kd.R_V (Kd.R_tight rfl (Kd.R_types (Kd.R_apart' (HO401.out) (Kd.N_typed HO398.out) (by decide)) BK394.out (by decide))))
    rintro e w34 ⟨v403, rfl, ho0, hb⟩
    refine ⟨_, rfl, ?_⟩
    have n0_ := Aside0.mk (Kd.N_elder' (by (with_reducible repeat (first | apply Kd.N_alloc | apply Kd.N_drewN | apply Kd.N_drew)); exact HO398.out) ((by first | exact Kd.N_base ho0 | exact Kd.S_base ho0)) hb)
    have n1_ := Aside0.mk (Kd.R_below (by (with_reducible repeat (first | apply Kd.R_alloc | apply Kd.R_drewN | apply Kd.R_drew)); exact HO401.out) hb)
    have n2_ := Aside0.mk (Kd.N_lower (Kd.N_mono (ok' := fun k_ => (w.heap.size ≤ k_) ∧ some k_ ≠ (.slice Ao32 t396.length co32 : Value).ownBlock ∧ k_ ≠ gb394) ho0 (fun k_ hk_ => ⟨Or.elim hk_ (fun hs_ => ((Kd.R_types (Kd.R_apart' (HO401.out) (Kd.N_typed HO398.out) (by decide)) BK394.out (by decide)).1 k_ hs_.symm).1.1) (fun hn_ => (Nat.le_trans (below_size (by repeat (first | (with_reducible first | exact HB.out | apply lA_ | apply lN_ | apply lD_ | refine lS_ ?_ GE394.out) | exact HB.out))) hn_)), Or.elim hk_ (fun hs_ => ((Kd.R_types (Kd.R_apart' (HO401.out) (Kd.N_typed HO398.out) (by decide)) BK394.out (by decide)).1 k_ hs_.symm).1.2) (fun hn_ => (Kd.fresh' (Kd.N_lt (by (with_reducible repeat (first | apply Kd.N_alloc | apply Kd.N_drewN | apply Kd.N_drew)); exact HO398.out)) k_ hn_)), Or.elim hk_ (fun hs_ => ((Kd.R_types (Kd.R_apart' (HO401.out) (Kd.N_typed HO398.out) (by decide)) BK394.out (by decide)).1 k_ hs_.symm).2) (fun hn_ => (Kd.freshB (g := gb394) (o := .cells #[.int .i64 a0_0, .slice A0_1 l0_1.length c0_1] 36 (0, 0)) (by (with_reducible repeat (first | apply bN_ | apply bD_ | apply bA_)); exact BK394.out) k_ hn_))⟩)) (below_size (by repeat (first | (with_reducible first | exact HB.out | apply lA_ | apply lN_ | apply lD_ | refine lS_ ?_ GE394.out) | exact HB.out))))
    have n3_ := Aside0.mk (blk_below (g := gb394) (o := .cells #[.int .i64 a0_0, .slice A0_1 l0_1.length c0_1] 36 (0, 0)) (by (with_reducible repeat (first | apply bN_ | apply bD_ | apply bA_)); exact BK394.out) hb)
    have n4_ := Aside0.mk (below_step (by repeat (first | (with_reducible first | exact HB.out | apply lA_ | apply lN_ | apply lD_ | refine lS_ ?_ GE394.out) | exact HB.out)) hb)
    clear HO398
    clear HO401
    clear BK394
    clear HB
    have HO398 := n0_
    have HO401 := n1_
    have HO404 := n2_
    have BK394 := n3_
    have HB := n4_
    clear n0_ n1_ n2_ n3_ n4_
    (try clear hb)
    (try clear hb2)
    (try clear hk)
    (try clear hi)
    (try clear ho0)
    refine hK.out _ _ ⟨.slice Ao32 t396.length co32, .slice Ao33 y399.length co33, v403, m9_, (by rw [ha.out]; exact putSel_upk 4 hb_ rfl rfl rfl), (by (with_reducible repeat (first | apply bN_ | apply bD_ | apply bA_)); exact BK394.out), (by repeat (first | (with_reducible first | exact HB.out | apply lA_ | apply lN_ | apply lD_ | refine lS_ ?_ GE394.out) | exact HB.out)), fun _ => (by (with_reducible repeat (first | apply Kd.N_alloc | apply Kd.N_drewN | apply Kd.N_drew)); exact Kd.N_mono HO398.out (fun _ hk => by first | exact ⟨hk.1.1, ⟨hk.1.2.1, ⟨hk.2, hk.1.2.2⟩⟩⟩ | (obtain ⟨⟨a_, b_⟩, d_⟩ := hk; first | exact ⟨a_, b_⟩ | exact ⟨a_, d_⟩ | exact ⟨a_, b_, d_⟩ | exact ⟨a_, d_, b_⟩) | (obtain ⟨⟨a_, b_, c_⟩, d_⟩ := hk; first | exact ⟨a_, c_⟩ | exact ⟨a_, b_⟩ | exact ⟨a_, d_⟩ | exact ⟨a_, b_, c_⟩ | exact ⟨a_, d_, c_⟩ | exact ⟨a_, b_, d_⟩))), fun _ => (by (with_reducible repeat (first | apply Kd.R_alloc | apply Kd.R_drewN | apply Kd.R_drew)); exact HO401.out), fun _ => (by (with_reducible repeat (first | apply Kd.N_alloc | apply Kd.N_drewN | apply Kd.N_drew)); first | exact HO404.out | exact Kd.N_mono HO404.out (fun _ hk => ⟨hk.1, hk.2.2⟩)), fun h0_ => absurd ((hoff 9 (by kernel_rfl)).symm.trans h0_) (by decide)⟩
   refine steps_cons ?_ ?_
   ·rintro b a w' ⟨v397, v400, v403, m9_, ha, Q_BK394, Q_HB, Q_HO398, Q_HO401, Q_HO404, Q_X9_⟩ hb_ hon hoff
    refine ⟨_, rfl, fun K hK => ?_⟩
    have e25 : a.tmps[25]? = some (v403) := by rw [ha]; exact putSel_on (e := (8, 25, v403)) 4 rfl rfl (hon 8 (by kernel_rfl)) rfl
    replace ha := Aside0.mk ha
    have BK394 := Aside0.mk Q_BK394
    have HB := Aside0.mk Q_HB
    have HO398 := Aside0.mk (Q_HO398 (hon 6 (by kernel_rfl)))
    have HO401 := Aside0.mk (Q_HO401 (hon 7 (by kernel_rfl)))
    have HO404 := Aside0.mk (Q_HO404 (hon 8 (by kernel_rfl)))
    refine value_ (w1 := w') (v := v403) (by rfl) rfl ?_ ?_
    ·go_simp
     (try simp only [i64_w])
     try rfl
    refine hK.out _ _ ⟨v397, v400, v403, (v403), (by rw [ha.out]; exact putSel_upk 5 hb_ rfl rfl rfl), Q_BK394, Q_HB, Q_HO398, Q_HO401, Q_HO404, fun _ => rfl⟩
   exact steps_nil
  rintro b a w34 hall ⟨v397, v400, v403, m9_, ha, Q_BK394, Q_HB, Q_HO398, Q_HO401, Q_HO404, Q_X9_⟩
  clear BK394 HB
  have hb0_ := hall 0 (by kernel_rfl)
  have hb3_ := hall 3 (by kernel_rfl)
  have hb6_ := hall 6 (by kernel_rfl)
  have hb7_ := hall 7 (by kernel_rfl)
  have hb8_ := hall 8 (by kernel_rfl)
  have hb9_ := hall 9 (by kernel_rfl)
  subst ha
  obtain rfl := Q_X9_ hb9_
  simp only [putSel, hb0_, hb3_, hb6_, hb7_, hb8_, hb9_, if_true, Act.put, q1_, q2_, q3_]
  have BK394 := Aside0.mk Q_BK394
  clear Q_BK394
  have HB := Aside0.mk Q_HB
  clear Q_HB
  have HO398 := Aside0.mk (Q_HO398 hb6_)
  clear Q_HO398
  have HO401 := Aside0.mk (Q_HO401 hb7_)
  clear Q_HO401
  have HO404 := Aside0.mk (Q_HO404 hb8_)
  clear Q_HO404
  clear hall hb0_ hb3_ hb6_ hb7_ hb8_ hb9_
  obtain ⟨Ao35, co35, eo35⟩ := Kd.N_slice HO404.out
  subst eo35
  try go_wp2
  have n0_ := Aside0.mk (Kd.N_drew HO398.out)
  have n1_ := Aside0.mk (Kd.R_drew HO401.out)
  have n2_ := Aside0.mk (Kd.N_drew HO404.out)
  have n3_ := Aside0.mk (blk_drew BK394.out)
  have n4_ := Aside0.mk (below_drew1 HB.out)
  clear HO398
  clear HO401
  clear HO404
  clear BK394
  clear HB
  have HO398 := n0_
  have HO401 := n1_
  have HO404 := n2_
  have BK394 := n3_
  have HB := n4_
  clear n0_ n1_ n2_ n3_ n4_
  have p405 : 0 ≤ (0 : Int) := (by omega)
  have q405 : 0 < (t402.length : Int) := of_decide_eq_true (by first | (with_reducible assumption) | assumption)
  obtain ⟨ad405, A405_0, c405_0, e405, hx405_0, hl405_0, hi405_0⟩ := at_L1 (Kd.N_reads' HO404.out).2.2 0 p405 q405
  cases e405
  obtain ⟨ce405, hce405, hMe405, hcc405⟩ := Kd.N_get HO404.out [] 0 p405 (by first | exact q405 | exact of_decide_eq_true (by first | (with_reducible assumption) | assumption) | (have e_ := (Kd.N_reads' HO404.out).1; omega))
  obtain ⟨ua405_0, uc405_0, rfl, ul405_0, ge405_0⟩ := Kd.FK_slice_open hMe405
  have hv405_0 := hcc405 0 _ rfl
  rw [Nat.add_zero, show ((Kd.slice 2 (Kd.int .i64))).sz = 1 from rfl, Nat.mul_one] at hv405_0
  replace hv405_0 := Option.some.inj (hv405_0.symm.trans hx405_0)
  injection hv405_0 with hva_ hvn_ hvc_
  rw [hva_] at ge405_0
  rw [hvc_] at ul405_0
  have HL405_0 := Aside0.mk (show Kd.V (Kd.int .i64) 2 _ w.heap.size _ _ (rd_L1 t402 0) from Kd.V_mk ul405_0 ge405_0)
  clear hva_ hvn_ hvc_ ge405_0 ul405_0
  clear hcc405 hce405
  have qi405 : (0 < t402.length) = True := eq_true (by omega)
  (try rw [show ((0 : Int)).toNat = 0 from rfl] at hx405_0)
  (try rw [Addr.add_zero'] at hx405_0)
  have HR405_0 := Aside0.mk hi405_0
  have HC405_0 := Aside0.mk hl405_0
  clear hi405_0 hl405_0
  replace p405 := eq_true p405
  replace q405 := eq_true q405
  have p406 : 0 ≤ (0 : Int) := (by omega)
  have q406 : 0 < (l1.length : Int) := of_decide_eq_true (by first | (with_reducible assumption) | assumption)
  obtain ⟨ad406, A406_0, c406_0, e406, hx406_0, hl406_0, hi406_0⟩ := at_L1 HR1.out 0 p406 q406
  have hw406_0 := hx406_0
  (try rw [show ((0 : Int)).toNat = 0 from rfl] at hw406_0)
  (try rw [show 0 * 1 = 0 from rfl] at hw406_0)
  (try rw [Addr.add_zero'] at hw406_0)
  cases e406
  have qi406 : (0 < l1.length) = True := eq_true (by omega)
  (try rw [show ((0 : Int)).toNat = 0 from rfl] at hx406_0)
  (try rw [Addr.add_zero'] at hx406_0)
  replace hx406_0 := (HB.out.cell (World.block_lt_of_cell? w _ hx406_0)).trans hx406_0
  have HR406_0 := Aside0.mk hi406_0
  have HC406_0 := Aside0.mk hl406_0
  clear hi406_0 hl406_0
  replace p406 := eq_true p406
  replace q406 := eq_true q406
  refine start_ (n := 10) (S := fun w' => w'.cell? ad405 = some (.slice A405_0 (rd_L1 t402 0).length c405_0) ∧ w'.cell? ad406 = some (.slice A406_0 (rd_L1 l1 0).length c406_0)) (ds := []) spec_FirstFilling.z0 (by kernel_rfl) rfl rfl ⟨hx405_0, ((HB.out.cell (World.block_lt_of_cell? w _ hw406_0)).trans hw406_0)⟩ (fun hHeld => ?_); refine with_tabW spec_FirstFilling.tab7 spec_FirstFilling.bits7 (fun HT_ HW_ => ?_)
  generalize w34.drew = w36 at HO398 HO401 HO404 BK394 HB HL405_0 HR405_0 HR406_0 hx405_0 hx406_0 hHeld ⊢
  refine p_ 0 29 ?_ #[t_,f_,f_,f_,f_,f_,f_,f_,f_,f_] rfl rfl HT_.out (by kernel_rfl) (fun _ _ _ h => h) (.inl ⟨by rfl, ?_⟩) ?_ ?_ ?_
  rotate_left
  ·intro w'
   go_simp
   with_reducible rfl
  rotate_left
  ·simp only [Q_]
   rfl
  refine p_ 1 30 ?_ #[t_,t_,f_,f_,f_,f_,f_,f_,f_,f_] rfl rfl HT_.out (by kernel_rfl) (fun _ _ _ h => h) (.inl ⟨by rfl, ?_⟩) ?_ ?_ ?_
  rotate_left
  ·intro w'
   go_simp
   with_reducible rfl
  rotate_left
  ·simp only [Q_]
   rfl
  refine p_ 3 32 ?_ #[t_,t_,f_,t_,f_,f_,f_,f_,f_,f_] rfl rfl HT_.out (by kernel_rfl) (fun _ _ _ h => h) (.inl ⟨by rfl, ?_⟩) ?_ ?_ ?_
  rotate_left
  ·intro w'
   go_simp
   with_reducible rfl
  rotate_left
  ·simp only [Q_]
   rfl
  refine p_ 4 33 ?_ #[t_,t_,f_,t_,t_,f_,f_,f_,f_,f_] rfl rfl HT_.out (by kernel_rfl) (fun _ _ _ h => h) (.inl ⟨by rfl, ?_⟩) ?_ ?_ ?_
  rotate_left
  ·intro w'
   go_simp
   with_reducible rfl
  rotate_left
  ·simp only [Q_]
   rfl
  refine tk_ 2 31 ?_ #[t_,t_,t_,t_,t_,f_,f_,f_,f_,f_] rfl rfl (take_ofW HT_.out HW_.out (by kernel_rfl)) (fun _ _ _ h => h) (.inl ⟨by rfl, ?_⟩) hHeld ?_ ?_ ?_
  rotate_left
  ·rintro w' ⟨s0, s1⟩
   go_simp
   with_reducible rfl
  rotate_left
  ·simp only [Q_]
   rfl
  refine tk_ 5 34 ?_ #[t_,t_,t_,t_,t_,t_,f_,f_,f_,f_] rfl rfl (take_ofW HT_.out HW_.out (by kernel_rfl)) (fun _ _ _ h => h) (.inl ⟨by rfl, ?_⟩) hHeld ?_ ?_ ?_
  rotate_left
  ·rintro w' ⟨s0, s1⟩
   go_simp
   with_reducible rfl
  rotate_left
  ·simp only [Q_]
   rfl
  refine p_ 6 35 ?_ #[t_,t_,t_,t_,t_,t_,t_,f_,f_,f_] rfl rfl HT_.out (by kernel_rfl) (fun _ _ _ h => h) (.inl ⟨by rfl, ?_⟩) ?_ ?_ ?_
  rotate_left
  ·intro w'
   go_simp
   with_reducible rfl
  rotate_left
  ·simp only [Q_]
   rfl
  refine one_ (i := 7) (N := some 36) #[t_,t_,t_,t_,t_,t_,t_,t_,f_,f_] rfl rfl (one_of HT_.out (by kernel_rfl)) (by decide) (fun K hK => ?_)
  refine goes_ Try.func62 (by kernel_rfl) rfl #[.slice A405_0 (rd_L1 t402 0).length c405_0, .int .i64 ((rd_L1 l1 0).length : Int)] (by rfl) rfl rfl (by (try simp only [q4_, q5_, q6_]); first | done | rfl | (simp only [List.length_drop, List.length_take]; rfl)) ?_
  with_reducible refine (spec_l03Cut.calls k _ _ (rd_L1 t402 0) ((rd_L1 l1 0).length : Int) t407 _ ?side1 ?side2 A23.out).mono ?_
  (case side1 => repeat (first | exact (by repeat (first | (with_reducible exact HR405_0.out) | (with_reducible refine Kd.C_alloc ?_ _) | (with_reducible refine Kd.C_drewN ?_ _) | (with_reducible refine Kd.C_drew ?_) | exact HR405_0.out)) | (with_reducible refine Kd.C_alloc ?_ _) | (with_reducible refine Kd.C_drewN ?_ _) | (with_reducible refine Kd.C_drew ?_)))
  (case side2 => exact HC405_0.out)
  rintro e w37 ⟨v408, rfl, ho0, hb⟩
  have HS0_ := (hb.cell (World.block_lt_of_cell? _ _ (hHeld.1))).trans (hHeld.1)
  refine ⟨_, rfl, ?_⟩
  have n0_ := Aside0.mk (Kd.N_elder' (by (with_reducible repeat (first | apply Kd.N_alloc | apply Kd.N_drewN | apply Kd.N_drew)); exact HO398.out) ((by first | exact Kd.N_base ho0 | exact Kd.S_base ho0)) hb)
  have n1_ := Aside0.mk (Kd.R_below (by (with_reducible repeat (first | apply Kd.R_alloc | apply Kd.R_drewN | apply Kd.R_drew)); exact HO401.out) hb)
  have n2_ := Aside0.mk (Kd.N_elder' (by (with_reducible repeat (first | apply Kd.N_alloc | apply Kd.N_drewN | apply Kd.N_drew)); exact HO404.out) ((by first | exact Kd.N_base ho0 | exact Kd.S_base ho0)) hb)
  have n3_ := Aside0.mk (Kd.V_elder' (by (with_reducible repeat (first | apply Kd.V_alloc | apply Kd.V_drewN | apply Kd.V_drew)); exact HL405_0.out) ((by first | exact Kd.N_base ho0 | exact Kd.S_base ho0)) hb)
  have n4_ := Aside0.mk (Kd.S_lower (Kd.S_mono (ok' := fun k_ => (w.heap.size ≤ k_) ∧ some k_ ≠ (v397 : Value).ownBlock ∧ some k_ ≠ (v400 : Value).ownBlock ∧ some k_ ≠ (.slice (some ad405) t402.length co35 : Value).ownBlock ∧ k_ ≠ gb394) (Kd.S_bound ho0) (fun k_ hk_ => ⟨(Nat.le_trans (below_size (by repeat (first | (with_reducible first | exact HB.out | apply lA_ | apply lN_ | apply lD_ | refine lS_ ?_ GE394.out) | exact HB.out))) hk_.2.1), (Kd.fresh' (Kd.N_lt (by (with_reducible repeat (first | apply Kd.N_alloc | apply Kd.N_drewN | apply Kd.N_drew)); exact HO398.out)) k_ hk_.2.1), (Kd.fresh' (Kd.R_lt (by (with_reducible repeat (first | apply Kd.R_alloc | apply Kd.R_drewN | apply Kd.R_drew)); exact HO401.out)) k_ hk_.2.1), (Kd.fresh' (Kd.N_lt (by (with_reducible repeat (first | apply Kd.N_alloc | apply Kd.N_drewN | apply Kd.N_drew)); exact HO404.out)) k_ hk_.2.1), (Kd.freshB (g := gb394) (o := .cells #[.int .i64 a0_0, .slice A0_1 l0_1.length c0_1] 36 (0, 0)) (by (with_reducible repeat (first | apply bN_ | apply bD_ | apply bA_)); exact BK394.out) k_ hk_.2.1)⟩)) (below_size (by repeat (first | (with_reducible first | exact HB.out | apply lA_ | apply lN_ | apply lD_ | refine lS_ ?_ GE394.out) | exact HB.out))))
  have n5_ := Aside0.mk (blk_below (g := gb394) (o := .cells #[.int .i64 a0_0, .slice A0_1 l0_1.length c0_1] 36 (0, 0)) (by (with_reducible repeat (first | apply bN_ | apply bD_ | apply bA_)); exact BK394.out) hb)
  have n6_ := Aside0.mk (Kd.C_below (by repeat (first | (with_reducible exact HR405_0.out) | (with_reducible refine Kd.C_alloc ?_ _) | (with_reducible refine Kd.C_drewN ?_ _) | (with_reducible refine Kd.C_drew ?_) | exact HR405_0.out)) hb)
  have n7_ := Aside0.mk (below_step (by repeat (first | (with_reducible first | exact HB.out | apply lA_ | apply lN_ | apply lD_ | refine lS_ ?_ GE394.out) | exact HB.out)) hb)
  clear HO398
  clear HO401
  clear HO404
  clear HL405_0
  clear BK394
  clear HR405_0
  clear HB
  have HO398 := n0_
  have HO401 := n1_
  have HO404 := n2_
  have HL405_0 := n3_
  have HO409 := n4_
  have BK394 := n5_
  have HR405_0 := n6_
  have HB := n7_
  clear n0_ n1_ n2_ n3_ n4_ n5_ n6_ n7_
  (try clear hb)
  (try clear hb2)
  (try clear hk)
  (try clear hi)
  (try clear ho0)
  refine hK.out _ _ ⟨HS0_, ((HB.out.cell (World.block_lt_of_cell? w _ hw406_0)).trans hw406_0)⟩ (fun hHeld => ?_)
  clear hK K
  refine norm_ (a' := ?_) ?_ ?_
  rotate_left
  ·show Act.put _ (some 36) _ = _
   simp only [Q_]
   rfl
  refine p_ 8 6 ?_ #[t_,t_,t_,t_,t_,t_,t_,t_,t_,f_] rfl rfl HT_.out (by kernel_rfl) (fun _ _ _ h => h) (.inl ⟨by rfl, ?_⟩) ?_ ?_ ?_
  rotate_left
  ·intro w'
   go_simp
   with_reducible rfl
  rotate_left
  ·simp only [Q_]
   rfl
  refine p_ 9 7 ?_ #[t_,t_,t_,t_,t_,t_,t_,t_,t_,t_] rfl rfl HT_.out (by kernel_rfl) (fun _ _ _ h => h) (.inl ⟨by rfl, ?_⟩) ?_ ?_ ?_
  rotate_left
  ·intro w'
   go_simp
   with_reducible rfl
  rotate_left
  ·simp only [Q_]
   rfl
  refine done_ (done_of HT_.out (by kernel_rfl)) ?_
  try go_wp2
  go_ret2
  exact ⟨_, by first | rfl | (simp [errW_none, errW_some] <;> rfl) | (simp [*, errW_none, errW_some] <;> rfl), by (with_reducible repeat (first | apply Kd.S_alloc | apply Kd.S_drewN | apply Kd.S_drew)); exact Kd.S_mono HO409.out (fun _ hk => hk.1), by repeat (first | (with_reducible first | exact HB.out | apply lA_ | apply lN_ | apply lD_ | refine lS_ ?_ GE394.out) | exact HB.out)⟩
 rw [if_pos c8] at H
 have c8b0 : ((t402.length : Int) == 0) = true := beq_iff_eq.mpr c8
 have c8b1 : ((t402.length : Int) != 0) = false := bne_eq_false_iff_eq.mpr c8
 clear c8
 simp only [Option.some.injEq, Prod.mk.injEq] at H
 obtain ⟨rfl, rfl⟩ := H
 go_enter Try.func29, Try.ntmps29
 try go_wp2_with (first | ((with_reducible refine gate_dst (N := 3) rfl ?_); refine box_event ?hg (N := 3) ?hd (cs := #[.int .i64 a0_0, .slice A0_1 l0_1.length c0_1]) (t := 36) ?hr ?_; (case hd => rfl); (case hg => rfl); (case hr => first | (go_simp; done) | (go_simp; rfl)); intro gb394 hg w9 hbox hb; have n0_ := Aside0.mk (below_step (by repeat (first | (with_reducible first | exact HB.out | apply lA_ | apply lN_ | apply lD_) | exact HB.out)) hb); have n1_ := Aside0.mk (hbox); have n2_ := Aside0.mk ((by rw [hg]; exact (below_size (by repeat (first | (with_reducible first | exact HB.out | apply lA_ | apply lN_ | apply lD_) | exact HB.out))) : w.heap.size ≤ gb394)); have n3_ := Aside0.mk ((by rw [hg]; exact (below_size (by repeat (first | (with_reducible first | exact HB.out | apply lA_ | apply lN_ | apply lD_) | exact HB.out))) : w.heap.size ≤ gb394)); clear HB; have HB := n0_; have BK394 := n1_; have GW394 := n2_; have GE394 := n3_; clear n0_ n1_ n2_ n3_; clear hb hbox hg; have hcz10_0 : w9.cell? ⟨gb394, 0, none⟩ = some (.int .i64 a0_0) := (blk_cell BK394.out 0).trans rfl; have hcz10_1 : w9.cell? ⟨gb394, 1, none⟩ = some (.slice A0_1 l0_1.length c0_1) := (blk_cell BK394.out 1).trans rfl; have hfz10_0 := blk_frozen BK394.out 0; have hfz10_1 := blk_frozen BK394.out 1) | ((with_reducible refine gate_callee (f := 56) rfl ?_); refine goesL_ (some 13) rfl rfl Try.func56 (by kernel_rfl) rfl #[.agg #[.int .i64 a0_0, .slice A0_1 l0_1.length c0_1], .slice A1 l1.length c1, .slice A2 l2.length c2] rfl (by (try simp only [q4_, q5_, q6_]); first | done | rfl | (simp only [List.length_drop, List.length_take]; rfl)) ?_; (with_reducible refine (spec_l03Plan.calls k a0_0 _ _ l0_1 _ _ l1 _ _ l2 t395 _ ?side1 ?side2 ?side3 ?side4 ?side5 ?side6 A4.out).mono ?_); (case side1 => repeat (first | exact (Kd.C_below HR0_1.out HB.out) | (with_reducible refine Kd.C_alloc ?_ _) | (with_reducible refine Kd.C_drewN ?_ _) | (with_reducible refine Kd.C_drew ?_))); (case side2 => exact HC0_1.out); (case side3 => repeat (first | exact (Kd.C_below HR1.out HB.out) | (with_reducible refine Kd.C_alloc ?_ _) | (with_reducible refine Kd.C_drewN ?_ _) | (with_reducible refine Kd.C_drew ?_))); (case side4 => exact HC1.out); (case side5 => repeat (first | exact (Kd.C_below HR2.out HB.out) | (with_reducible refine Kd.C_alloc ?_ _) | (with_reducible refine Kd.C_drewN ?_ _) | (with_reducible refine Kd.C_drew ?_))); (case side6 => exact HC2.out); rintro e w11 ⟨rfl, hb⟩; refine ⟨_, rfl, ?_⟩; have n0_ := Aside0.mk (blk_below (g := gb394) (o := .cells #[.int .i64 a0_0, .slice A0_1 l0_1.length c0_1] 36 (0, 0)) (by (with_reducible repeat (first | apply bN_ | apply bD_ | apply bA_)); exact BK394.out) hb); have n1_ := Aside0.mk (below_step (by repeat (first | (with_reducible first | exact HB.out | apply lA_ | apply lN_ | apply lD_ | refine lS_ ?_ GE394.out) | exact HB.out)) hb); clear BK394; clear HB; have BK394 := n0_; have HB := n1_; clear n0_ n1_; (try clear hb); (try clear hb2); (try clear hk); (try clear hi)))
 have n0_ := Aside0.mk (blk_drew BK394.out)
 have n1_ := Aside0.mk (below_drew1 HB.out)
 clear BK394
 clear HB
 have BK394 := n0_
 have HB := n1_
 clear n0_ n1_
 refine start_ (n := 10) (S := fun w' => True) (ds := []) spec_FirstFilling.z0 (by kernel_rfl) rfl rfl trivial (fun hHeld => ?_); refine with_tabW spec_FirstFilling.tab4 spec_FirstFilling.bits4 (fun HT_ HW_ => ?_)
 generalize w11.drew = w12 at BK394 HB hHeld ⊢
 refine p_ 1 18 ?_ #[f_,t_,f_,f_,f_,f_,f_,f_,f_,f_] rfl rfl HT_.out (by kernel_rfl) (fun _ _ _ h => h) (.inl ⟨by rfl, ?_⟩) ?_ ?_ ?_
 rotate_left
 ·intro w'
  go_simp
  with_reducible rfl
 rotate_left
 ·simp only [Q_]
  rfl
 refine p_ 2 19 ?_ #[f_,t_,t_,f_,f_,f_,f_,f_,f_,f_] rfl rfl HT_.out (by kernel_rfl) (fun _ _ _ h => h) (.inl ⟨by rfl, ?_⟩) ?_ ?_ ?_
 rotate_left
 ·intro w'
  go_simp
  with_reducible rfl
 rotate_left
 ·simp only [Q_]
  rfl
 refine p_ 4 21 ?_ #[f_,t_,t_,f_,t_,f_,f_,f_,f_,f_] rfl rfl HT_.out (by kernel_rfl) (fun _ _ _ h => h) (.inl ⟨by rfl, ?_⟩) ?_ ?_ ?_
 rotate_left
 ·intro w'
  go_simp
  with_reducible rfl
 rotate_left
 ·simp only [Q_]
  rfl
 refine p_ 5 22 ?_ #[f_,t_,t_,f_,t_,t_,f_,f_,f_,f_] rfl rfl HT_.out (by kernel_rfl) (fun _ _ _ h => h) (.inl ⟨by rfl, ?_⟩) ?_ ?_ ?_
 rotate_left
 ·intro w'
  go_simp
  with_reducible rfl
 rotate_left
 ·simp only [Q_]
  rfl
 refine inv_at [0, 3, 6, 7, 8, 9] (fun a0_ b a w' => ∃ (v397 : Value) (v400 : Value) (v403 : Value) (m9_ : Value), a = putSel a0_ b [(0, 17, .agg #[.int .i64 a0_0, .slice A0_1 l0_1.length c0_1]), (3, 20, .agg #[.int .i64 a0_0, .slice A0_1 l0_1.length c0_1]), (6, 23, v397), (7, 24, v400), (8, 25, v403), (9, 9, m9_)] ∧ (w'.heap[gb394]? = some (.cells #[.int .i64 a0_0, .slice A0_1 l0_1.length c0_1] 36 (0, 0))) ∧ (Below w.heap.size w w') ∧ (b 6 = true → Kd.N (Kd.slice 2 (Kd.int .i64)) 56 w' w.heap.size (fun k_ => (w.heap.size ≤ k_) ∧ k_ ≠ gb394) v397 t396) ∧ (b 7 = true → Kd.R (Kd.int .i64) 2 w' w.heap.size (fun k_ => (w.heap.size ≤ k_)) v400 y399) ∧ (b 8 = true → Kd.N (Kd.slice 2 (Kd.int .i64)) 56 w' w.heap.size (fun k_ => (w.heap.size ≤ k_) ∧ k_ ≠ gb394) v403 t402) ∧ (b 9 = true → (m9_ : Value) = v403)) HT_.out HW_.out (by kernel_rfl) (by kernel_rfl) ?_ ?_ ?_
 ·exact ⟨.bool false, .bool false, .bool false, .bool false, by simp only [putSel, Bool.false_eq_true, if_false], BK394.out, HB.out, fun h_ => absurd h_ (by decide), fun h_ => absurd h_ (by decide), fun h_ => absurd h_ (by decide), fun h_ => absurd h_ (by decide)⟩
 ·skip
  clear BK394 HB
  refine steps_cons ?_ ?_
  ·rintro b a w' ⟨v397, v400, v403, m9_, ha, Q_BK394, Q_HB, Q_HO398, Q_HO401, Q_HO404, Q_X9_⟩ hb_ hon hoff
   refine ⟨_, rfl, fun K hK => ?_⟩
   have e3 : a.tmps[3]? = some (.pointer (some ⟨gb394, 0, none⟩)) := by rw [ha]; exact (putSel_off rfl).trans rfl
   replace ha := Aside0.mk ha
   have BK394 := Aside0.mk Q_BK394
   have HB := Aside0.mk Q_HB
   have hc0_ : w'.cell? ⟨gb394, 0, none⟩ = some (.int .i64 a0_0) := (blk_cell BK394.out 0).trans rfl
   have hc1_ : w'.cell? ⟨gb394, 1, none⟩ = some (.slice A0_1 l0_1.length c0_1) := (blk_cell BK394.out 1).trans rfl
   refine value_ (w1 := w') (v := .agg #[.int .i64 a0_0, .slice A0_1 l0_1.length c0_1]) (by rfl) rfl ?_ ?_
   ·go_simp
    (try simp only [i64_w])
    try rfl
   refine hK.out _ _ ⟨v397, v400, v403, m9_, (by rw [ha.out]; exact putSel_upk 0 hb_ rfl rfl rfl), Q_BK394, Q_HB, Q_HO398, Q_HO401, fun h0_ => absurd ((hoff 8 (by kernel_rfl)).symm.trans h0_) (by decide), fun h0_ => absurd ((hoff 9 (by kernel_rfl)).symm.trans h0_) (by decide)⟩
  refine steps_cons ?_ ?_
  ·rintro b a w' ⟨v397, v400, v403, m9_, ha, Q_BK394, Q_HB, Q_HO398, Q_HO401, Q_HO404, Q_X9_⟩ hb_ hon hoff
   refine ⟨_, rfl, fun K hK => ?_⟩
   have e3 : a.tmps[3]? = some (.pointer (some ⟨gb394, 0, none⟩)) := by rw [ha]; exact (putSel_off rfl).trans rfl
   replace ha := Aside0.mk ha
   have BK394 := Aside0.mk Q_BK394
   have HB := Aside0.mk Q_HB
   have hc0_ : w'.cell? ⟨gb394, 0, none⟩ = some (.int .i64 a0_0) := (blk_cell BK394.out 0).trans rfl
   have hc1_ : w'.cell? ⟨gb394, 1, none⟩ = some (.slice A0_1 l0_1.length c0_1) := (blk_cell BK394.out 1).trans rfl
   refine value_ (w1 := w') (v := .agg #[.int .i64 a0_0, .slice A0_1 l0_1.length c0_1]) (by rfl) rfl ?_ ?_
   ·go_simp
    (try simp only [i64_w])
    try rfl
   refine hK.out _ _ ⟨v397, v400, v403, m9_, (by rw [ha.out]; exact putSel_upk 1 hb_ rfl rfl rfl), Q_BK394, Q_HB, fun h0_ => absurd ((hoff 6 (by kernel_rfl)).symm.trans h0_) (by decide), Q_HO401, fun h0_ => absurd ((hoff 8 (by kernel_rfl)).symm.trans h0_) (by decide), fun h0_ => absurd ((hoff 9 (by kernel_rfl)).symm.trans h0_) (by decide)⟩
  refine steps_cons ?_ ?_
  ·rintro b a w' ⟨v397, v400, v403, m9_, ha, Q_BK394, Q_HB, Q_HO398, Q_HO401, Q_HO404, Q_X9_⟩ hb_ hon hoff
   refine ⟨_, rfl, fun K hK => ?_⟩
   have e20 : a.tmps[20]? = some (.agg #[.int .i64 a0_0, .slice A0_1 l0_1.length c0_1]) := by rw [ha]; exact putSel_on (e := (3, 20, .agg #[.int .i64 a0_0, .slice A0_1 l0_1.length c0_1])) 1 rfl rfl (hon 3 (by kernel_rfl)) rfl
   have e21 : a.tmps[21]? = some (.slice A1 l1.length c1) := by rw [ha]; exact (putSel_off rfl).trans rfl
   have e22 : a.tmps[22]? = some (.slice A2 l2.length c2) := by rw [ha]; exact (putSel_off rfl).trans rfl
   replace ha := Aside0.mk ha
   have BK394 := Aside0.mk Q_BK394
   have HB := Aside0.mk Q_HB
   refine goes_ Try.func57 (by kernel_rfl) rfl #[.agg #[.int .i64 a0_0, .slice A0_1 l0_1.length c0_1], .slice A1 l1.length c1, .slice A2 l2.length c2] (by rfl) rfl rfl (by first | (simp only [q4_, q5_, q6_, Act.eval, Array.getD_eq_getD_getElem?, Option.getD_some, e20, e21, e22]; done) | (simp only [q4_, q5_, q6_, Act.eval, Array.getD_eq_getD_getElem?, Option.getD_some, e20, e21, e22]; rfl)) ?_
   with_reducible refine (spec_l03Layers.calls k a0_0 _ _ l0_1 _ _ l1 _ _ l2 t396 _ ?side1 ?side2 ?side3 ?side4 ?side5 ?side6 A6.out).mono ?_
   (case side1 => repeat (first | exact (Kd.C_below HR0_1.out HB.out) | (with_reducible refine Kd.C_alloc ?_ _) | (with_reducible refine Kd.C_drewN ?_ _) | (with_reducible refine Kd.C_drew ?_)))
   (case side2 => exact HC0_1.out)
   (case side3 => repeat (first | exact (Kd.C_below HR1.out HB.out) | (with_reducible refine Kd.C_alloc ?_ _) | (with_reducible refine Kd.C_drewN ?_ _) | (with_reducible refine Kd.C_drew ?_)))
   (case side4 => exact HC1.out)
   (case side5 => repeat (first | exact (Kd.C_below HR2.out HB.out) | (with_reducible refine Kd.C_alloc ?_ _) | (with_reducible refine Kd.C_drewN ?_ _) | (with_reducible refine Kd.C_drew ?_)))
   (case side6 => exact HC2.out)
   rintro e w13 ⟨v397, rfl, ho0, hb⟩
   refine ⟨_, rfl, ?_⟩
   have n0_ := Aside0.mk (Kd.N_lower (Kd.N_mono (ok' := fun k_ => (w.heap.size ≤ k_) ∧ k_ ≠ gb394) (Kd.S_N (Kd.S_bound ho0)) (fun k_ hk_ => ⟨(Nat.le_trans (below_size (by repeat (first | (with_reducible first | exact HB.out | apply lA_ | apply lN_ | apply lD_ | refine lS_ ?_ GE394.out) | exact HB.out))) hk_.2.1), (Kd.freshB (g := gb394) (o := .cells #[.int .i64 a0_0, .slice A0_1 l0_1.length c0_1] 36 (0, 0)) (by (with_reducible repeat (first | apply bN_ | apply bD_ | apply bA_)); exact BK394.out) k_ hk_.2.1)⟩)) (below_size (by repeat (first | (with_reducible first | exact HB.out | apply lA_ | apply lN_ | apply lD_ | refine lS_ ?_ GE394.out) | exact HB.out))))
   have n1_ := Aside0.mk (blk_below (g := gb394) (o := .cells #[.int .i64 a0_0, .slice A0_1 l0_1.length c0_1] 36 (0, 0)) (by (with_reducible repeat (first | apply bN_ | apply bD_ | apply bA_)); exact BK394.out) hb)
   have n2_ := Aside0.mk (below_step (by repeat (first | (with_reducible first | exact HB.out | apply lA_ | apply lN_ | apply lD_ | refine lS_ ?_ GE394.out) | exact HB.out)) hb)
   have z_HO401 := fun (h0_ : b 7 = true) => (show Kd.R (Kd.int .i64) 2 w13 w.heap.size (fun k_ => (w.heap.size ≤ k_)) v400 y399 from by first | exact (Kd.R_below (by (with_reducible repeat (first | apply Kd.R_alloc | apply Kd.R_drewN | apply Kd.R_drew)); exact (Q_HO401 h0_)) hb) | exact Kd.R_mono (Kd.R_below (by (with_reducible repeat (first | apply Kd.R_alloc | apply Kd.R_drewN | apply Kd.R_drew)); exact (Q_HO401 h0_)) hb) (fun _ h_ => by first | trivial | exact h_ | exact h_.1))
   clear BK394
   clear HB
   have HO398 := n0_
   have BK394 := n1_
   have HB := n2_
   clear n0_ n1_ n2_
   (try clear hb)
   (try clear hb2)
   (try clear hk)
   (try clear hi)
   (try clear ho0)
   refine hK.out _ _ ⟨v397, v400, v403, m9_, (by rw [ha.out]; exact putSel_upk 2 hb_ rfl rfl rfl), (by (with_reducible repeat (first | apply bN_ | apply bD_ | apply bA_)); exact BK394.out), (by repeat (first | (with_reducible first | exact HB.out | apply lA_ | apply lN_ | apply lD_ | refine lS_ ?_ GE394.out) | exact HB.out)), fun _ => (by (with_reducible repeat (first | apply Kd.N_alloc | apply Kd.N_drewN | apply Kd.N_drew)); exact HO398.out), z_HO401, fun h0_ => absurd ((hoff 8 (by kernel_rfl)).symm.trans h0_) (by decide), fun h0_ => absurd ((hoff 9 (by kernel_rfl)).symm.trans h0_) (by decide)⟩
  refine steps_cons ?_ ?_
  ·rintro b a w' ⟨v397, v400, v403, m9_, ha, Q_BK394, Q_HB, Q_HO398, Q_HO401, Q_HO404, Q_X9_⟩ hb_ hon hoff
   refine ⟨_, rfl, fun K hK => ?_⟩
   replace ha := Aside0.mk ha
   have BK394 := Aside0.mk Q_BK394
   have HB := Aside0.mk Q_HB
   refine Kd.R_lit_step (Kd.int .i64) _ 2 ?hg (N := 24) ?hd (xs := ([] : List Int)) (inner := []) (ok := fun _ => True) (okp := fun _ => True) ?hr ?hp (fun _ hk => hk) trivial (Below.refl _ _) (Nat.le_refl _) (by simp) ?_; (case hd => rfl); (case hg => rfl); (case hr => first | (go_simp; done) | (go_simp; rfl)); (case hp => exact (Reps.none _ _))
   intro v400 w13 ho14 hb hg_ hnew_
   clear hg_ hnew_
   (first | rw [← Ny399.out] at ho14 | (simp only [Int.reduceToNat] at ho14; rw [← Ny399.out] at ho14))
   have n0_ := Aside0.mk (Kd.R_lower (Kd.R_newM (M := fun k_ => (w.heap.size ≤ k_)) ho14 (below_size (by repeat (first | (with_reducible first | exact HB.out | apply lA_ | apply lN_ | apply lD_ | refine lS_ ?_ GE394.out) | exact HB.out))) (fun k_ h_ => h_)) (below_size (by repeat (first | (with_reducible first | exact HB.out | apply lA_ | apply lN_ | apply lD_ | refine lS_ ?_ GE394.out) | exact HB.out))))
   have n1_ := Aside0.mk (blk_below (g := gb394) (o := .cells #[.int .i64 a0_0, .slice A0_1 l0_1.length c0_1] 36 (0, 0)) (by (with_reducible repeat (first | apply bN_ | apply bD_ | apply bA_)); exact BK394.out) hb)
   have n2_ := Aside0.mk (below_step (by repeat (first | (with_reducible first | exact HB.out | apply lA_ | apply lN_ | apply lD_ | refine lS_ ?_ GE394.out) | exact HB.out)) hb)
   have z_HO398 := fun (h0_ : b 6 = true) => (show Kd.N (Kd.slice 2 (Kd.int .i64)) 56 w13 w.heap.size (fun k_ => (w.heap.size ≤ k_) ∧ k_ ≠ gb394) v397 t396 from by first | exact (Kd.N_elder' (by (with_reducible repeat (first | apply Kd.N_alloc | apply Kd.N_drewN | apply Kd.N_drew)); exact (Q_HO398 h0_)) (Kd.R_base ho14) hb) | exact Kd.N_mono (Kd.N_elder' (by (with_reducible repeat (first | apply Kd.N_alloc | apply Kd.N_drewN | apply Kd.N_drew)); exact (Q_HO398 h0_)) (Kd.R_base ho14) hb) (fun _ h_ => by first | trivial | exact h_ | exact h_.1))
   clear BK394
   clear HB
   have HO401 := n0_
   have BK394 := n1_
   have HB := n2_
   clear n0_ n1_ n2_
   clear hb ho14
   refine hK.out _ _ ⟨v397, v400, v403, m9_, (by rw [ha.out]; exact putSel_upk 3 hb_ rfl rfl rfl), (by (with_reducible repeat (first | apply bN_ | apply bD_ | apply bA_)); exact BK394.out), (by repeat (first | (with_reducible first | exact HB.out | apply lA_ | apply lN_ | apply lD_ | refine lS_ ?_ GE394.out) | exact HB.out)), z_HO398, fun _ => (by (with_reducible repeat (first | apply Kd.R_alloc | apply Kd.R_drewN | apply Kd.R_drew)); exact Kd.R_mono HO401.out (fun _ hk => hk.1)), fun h0_ => absurd ((hoff 8 (by kernel_rfl)).symm.trans h0_) (by decide), fun h0_ => absurd ((hoff 9 (by kernel_rfl)).symm.trans h0_) (by decide)⟩
  refine steps_cons ?_ ?_
  ·rintro b a w' ⟨v397, v400, v403, m9_, ha, Q_BK394, Q_HB, Q_HO398, Q_HO401, Q_HO404, Q_X9_⟩ hb_ hon hoff
   refine ⟨_, rfl, fun K hK => ?_⟩
   have e17 : a.tmps[17]? = some (.agg #[.int .i64 a0_0, .slice A0_1 l0_1.length c0_1]) := by rw [ha]; exact putSel_on (e := (0, 17, .agg #[.int .i64 a0_0, .slice A0_1 l0_1.length c0_1])) 0 rfl rfl (hon 0 (by kernel_rfl)) rfl
   have e18 : a.tmps[18]? = some (.slice A1 l1.length c1) := by rw [ha]; exact (putSel_off rfl).trans rfl
   have e19 : a.tmps[19]? = some (.slice A2 l2.length c2) := by rw [ha]; exact (putSel_off rfl).trans rfl
   have e23 : a.tmps[23]? = some (v397) := by rw [ha]; exact putSel_on (e := (6, 23, v397)) 2 rfl rfl (hon 6 (by kernel_rfl)) rfl
   have e24 : a.tmps[24]? = some (v400) := by rw [ha]; exact putSel_on (e := (7, 24, v400)) 3 rfl rfl (hon 7 (by kernel_rfl)) rfl
   replace ha := Aside0.mk ha
   have BK394 := Aside0.mk Q_BK394
   have HB := Aside0.mk Q_HB
   have HO398 := Aside0.mk (Q_HO398 (hon 6 (by kernel_rfl)))
   have HO401 := Aside0.mk (Q_HO401 (hon 7 (by kernel_rfl)))
   obtain ⟨Ao17, co17, eo17⟩ := Kd.N_slice HO398.out
   (first | subst eo17 | (injection eo17 with f1_ f2_ f3_; have f4_ := f1_.symm; have f5_ := f3_.symm; clear f1_ f2_ f3_; subst f4_; subst f5_))
   obtain ⟨Ao18, co18, eo18⟩ := Kd.R_slice HO401.out
   (first | subst eo18 | (injection eo18 with f1_ f2_ f3_; have f4_ := f1_.symm; have f5_ := f3_.symm; clear f1_ f2_ f3_; subst f4_; subst f5_))
   refine goes_ Try.func61 (by kernel_rfl) rfl #[.agg #[.int .i64 a0_0, .slice A0_1 l0_1.length c0_1], .slice A1 l1.length c1, .slice A2 l2.length c2, .slice Ao17 t396.length co17, .slice Ao18 y399.length co18, .int .i64 0, .int .i64 1] (by rfl) rfl rfl (by first | (simp only [q4_, q5_, q6_, Act.eval, Array.getD_eq_getD_getElem?, Option.getD_some, e17, e18, e19, e23, e24]; done) | (simp only [q4_, q5_, q6_, Act.eval, Array.getD_eq_getD_getElem?, Option.getD_some, e17, e18, e19, e23, e24]; rfl)) ?_
   with_reducible refine (spec_l03List.calls k a0_0 _ _ l0_1 _ _ l1 _ _ l2 _ _ t396 (fun k_ => some k_ = (.slice Ao18 y399.length co18 : Value).ownBlock) _ _ y399 0 1 t402 _ ?side1 ?side2 ?side3 ?side4 ?side5 ?side6 ?side7 ?side8 ?side9 A7.out).mono ?_
   (case side1 => repeat (first | exact (Kd.C_below HR0_1.out HB.out) | (with_reducible refine Kd.C_alloc ?_ _) | (with_reducible refine Kd.C_drewN ?_ _) | (with_reducible refine Kd.C_drew ?_)))
   (case side2 => exact HC0_1.out)
   (case side3 => repeat (first | exact (Kd.C_below HR1.out HB.out) | (with_reducible refine Kd.C_alloc ?_ _) | (with_reducible refine Kd.C_drewN ?_ _) | (with_reducible refine Kd.C_drew ?_)))
   (case side4 => exact HC1.out)
   (case side5 => repeat (first | exact (Kd.C_below HR2.out HB.out) | (with_reducible refine Kd.C_alloc ?_ _) | (with_reducible refine Kd.C_drewN ?_ _) | (with_reducible refine Kd.C_drew ?_)))
   (case side6 => exact HC2.out)
   (case side7 => repeat (first | exact (Kd.N_reads' HO398.out).2.2 | (with_reducible refine Kd.C_alloc ?_ _) | (with_reducible refine Kd.C_drewN ?_ _) | (with_reducible refine Kd.C_drew ?_)))
   (case side8 => exact (Kd.N_reads' HO398.out).2.1)
   (case side9 => exact Kd.R_V (Kd.R_tight rfl (Kd.R_types (Kd.R_apart' (HO401.out) (Kd.N_typed HO398.out) (by decide)) BK394.out (by decide))))
   rintro e w19 ⟨v403, rfl, ho0, hb⟩
   refine ⟨_, rfl, ?_⟩
   have n0_ := Aside0.mk (Kd.N_elder' (by (with_reducible repeat (first | apply Kd.N_alloc | apply Kd.N_drewN | apply Kd.N_drew)); exact HO398.out) ((by first | exact Kd.N_base ho0 | exact Kd.S_base ho0)) hb)
   have n1_ := Aside0.mk (Kd.R_below (by (with_reducible repeat (first | apply Kd.R_alloc | apply Kd.R_drewN | apply Kd.R_drew)); exact HO401.out) hb)
   have n2_ := Aside0.mk (Kd.N_lower (Kd.N_mono (ok' := fun k_ => (w.heap.size ≤ k_) ∧ some k_ ≠ (.slice Ao17 t396.length co17 : Value).ownBlock ∧ k_ ≠ gb394) ho0 (fun k_ hk_ => ⟨Or.elim hk_ (fun hs_ => ((Kd.R_types (Kd.R_apart' (HO401.out) (Kd.N_typed HO398.out) (by decide)) BK394.out (by decide)).1 k_ hs_.symm).1.1) (fun hn_ => (Nat.le_trans (below_size (by repeat (first | (with_reducible first | exact HB.out | apply lA_ | apply lN_ | apply lD_ | refine lS_ ?_ GE394.out) | exact HB.out))) hn_)), Or.elim hk_ (fun hs_ => ((Kd.R_types (Kd.R_apart' (HO401.out) (Kd.N_typed HO398.out) (by decide)) BK394.out (by decide)).1 k_ hs_.symm).1.2) (fun hn_ => (Kd.fresh' (Kd.N_lt (by (with_reducible repeat (first | apply Kd.N_alloc | apply Kd.N_drewN | apply Kd.N_drew)); exact HO398.out)) k_ hn_)), Or.elim hk_ (fun hs_ => ((Kd.R_types (Kd.R_apart' (HO401.out) (Kd.N_typed HO398.out) (by decide)) BK394.out (by decide)).1 k_ hs_.symm).2) (fun hn_ => (Kd.freshB (g := gb394) (o := .cells #[.int .i64 a0_0, .slice A0_1 l0_1.length c0_1] 36 (0, 0)) (by (with_reducible repeat (first | apply bN_ | apply bD_ | apply bA_)); exact BK394.out) k_ hn_))⟩)) (below_size (by repeat (first | (with_reducible first | exact HB.out | apply lA_ | apply lN_ | apply lD_ | refine lS_ ?_ GE394.out) | exact HB.out))))
   have n3_ := Aside0.mk (blk_below (g := gb394) (o := .cells #[.int .i64 a0_0, .slice A0_1 l0_1.length c0_1] 36 (0, 0)) (by (with_reducible repeat (first | apply bN_ | apply bD_ | apply bA_)); exact BK394.out) hb)
   have n4_ := Aside0.mk (below_step (by repeat (first | (with_reducible first | exact HB.out | apply lA_ | apply lN_ | apply lD_ | refine lS_ ?_ GE394.out) | exact HB.out)) hb)
   clear HO398
   clear HO401
   clear BK394
   clear HB
   have HO398 := n0_
   have HO401 := n1_
   have HO404 := n2_
   have BK394 := n3_
   have HB := n4_
   clear n0_ n1_ n2_ n3_ n4_
   (try clear hb)
   (try clear hb2)
   (try clear hk)
   (try clear hi)
   (try clear ho0)
   refine hK.out _ _ ⟨.slice Ao17 t396.length co17, .slice Ao18 y399.length co18, v403, m9_, (by rw [ha.out]; exact putSel_upk 4 hb_ rfl rfl rfl), (by (with_reducible repeat (first | apply bN_ | apply bD_ | apply bA_)); exact BK394.out), (by repeat (first | (with_reducible first | exact HB.out | apply lA_ | apply lN_ | apply lD_ | refine lS_ ?_ GE394.out) | exact HB.out)), fun _ => (by (with_reducible repeat (first | apply Kd.N_alloc | apply Kd.N_drewN | apply Kd.N_drew)); exact Kd.N_mono HO398.out (fun _ hk => by first | exact ⟨hk.1.1, ⟨hk.1.2.1, ⟨hk.2, hk.1.2.2⟩⟩⟩ | (obtain ⟨⟨a_, b_⟩, d_⟩ := hk; first | exact ⟨a_, b_⟩ | exact ⟨a_, d_⟩ | exact ⟨a_, b_, d_⟩ | exact ⟨a_, d_, b_⟩) | (obtain ⟨⟨a_, b_, c_⟩, d_⟩ := hk; first | exact ⟨a_, c_⟩ | exact ⟨a_, b_⟩ | exact ⟨a_, d_⟩ | exact ⟨a_, b_, c_⟩ | exact ⟨a_, d_, c_⟩ | exact ⟨a_, b_, d_⟩))), fun _ => (by (with_reducible repeat (first | apply Kd.R_alloc | apply Kd.R_drewN | apply Kd.R_drew)); exact HO401.out), fun _ => (by (with_reducible repeat (first | apply Kd.N_alloc | apply Kd.N_drewN | apply Kd.N_drew)); first | exact HO404.out | exact Kd.N_mono HO404.out (fun _ hk => ⟨hk.1, hk.2.2⟩)), fun h0_ => absurd ((hoff 9 (by kernel_rfl)).symm.trans h0_) (by decide)⟩
  refine steps_cons ?_ ?_
  ·rintro b a w' ⟨v397, v400, v403, m9_, ha, Q_BK394, Q_HB, Q_HO398, Q_HO401, Q_HO404, Q_X9_⟩ hb_ hon hoff
   refine ⟨_, rfl, fun K hK => ?_⟩
   have e25 : a.tmps[25]? = some (v403) := by rw [ha]; exact putSel_on (e := (8, 25, v403)) 4 rfl rfl (hon 8 (by kernel_rfl)) rfl
   replace ha := Aside0.mk ha
   have BK394 := Aside0.mk Q_BK394
   have HB := Aside0.mk Q_HB
   have HO398 := Aside0.mk (Q_HO398 (hon 6 (by kernel_rfl)))
   have HO401 := Aside0.mk (Q_HO401 (hon 7 (by kernel_rfl)))
   have HO404 := Aside0.mk (Q_HO404 (hon 8 (by kernel_rfl)))
   refine value_ (w1 := w') (v := v403) (by rfl) rfl ?_ ?_
   ·go_simp
    (try simp only [i64_w])
    try rfl
   refine hK.out _ _ ⟨v397, v400, v403, (v403), (by rw [ha.out]; exact putSel_upk 5 hb_ rfl rfl rfl), Q_BK394, Q_HB, Q_HO398, Q_HO401, Q_HO404, fun _ => rfl⟩
  exact steps_nil
 rintro b a w19 hall ⟨v397, v400, v403, m9_, ha, Q_BK394, Q_HB, Q_HO398, Q_HO401, Q_HO404, Q_X9_⟩
 clear BK394 HB
 have hb0_ := hall 0 (by kernel_rfl)
 have hb3_ := hall 3 (by kernel_rfl)
 have hb6_ := hall 6 (by kernel_rfl)
 have hb7_ := hall 7 (by kernel_rfl)
 have hb8_ := hall 8 (by kernel_rfl)
 have hb9_ := hall 9 (by kernel_rfl)
 subst ha
 obtain rfl := Q_X9_ hb9_
 simp only [putSel, hb0_, hb3_, hb6_, hb7_, hb8_, hb9_, if_true, Act.put, q1_, q2_, q3_]
 have BK394 := Aside0.mk Q_BK394
 clear Q_BK394
 have HB := Aside0.mk Q_HB
 clear Q_HB
 have HO398 := Aside0.mk (Q_HO398 hb6_)
 clear Q_HO398
 have HO401 := Aside0.mk (Q_HO401 hb7_)
 clear Q_HO401
 have HO404 := Aside0.mk (Q_HO404 hb8_)
 clear Q_HO404
 clear hall hb0_ hb3_ hb6_ hb7_ hb8_ hb9_
 obtain ⟨Ao20, co20, eo20⟩ := Kd.N_slice HO404.out
 subst eo20
 try go_wp2
 go_ret2
 exact ⟨_, by first | rfl | (simp [errW_none, errW_some] <;> rfl) | (simp [*, errW_none, errW_some] <;> rfl), by first | exact Kd.S_nil _ _ _ _ _ | exact Kd.N_nil _ _ _ _ _ | exact Kd.V_nil _ _ _ _ _ | exact Kd.Q_nil _ _ _ _ _ | exact Kd.R_nil _ _ _ _ _, by repeat (first | (with_reducible first | exact HB.out | apply lA_ | apply lN_ | apply lD_ | refine lS_ ?_ GE394.out) | exact HB.out)⟩
end Go.Proofs.Ytcaikaflpmaocaa.Q
namespace Go.Proofs.Ytcaikaflpmaocaa
open Go Go.RowKit Go.Proofs Go.Proofs.YtcaikaflpmaocaaW.PrintWords Go.Proofs.YtcaikaflpmaocaaW.PrintMore Go.Proofs.Ytcaikaflpmaocaa.Q
set_option linter.unusedVariables false
set_option linter.unusedSimpArgs false
theorem cut_ev (w h : Nat) (xs : List Int) (hw : 1 ≤ w) (w5 : w ≤ 5) (h5 : h ≤ 5) (hx : xs.length = h * w) : Ev (fun k => spec_l03Cut.f k xs (w : Int)) (cutR w h xs) := by
 have h25 : h * w ≤ 25 := Nat.mul_le_mul h5 w5
 have go : ∀ e y (out : List (List Int)), y + e = h → out.length = y → Ev (fun k => spec_l03Cut.l0 k xs (w : Int) out ((y * w : Nat) : Int)) (out ++ cutR w e (xs.drop (y * w))) := by
  intro e
  induction e with
  | zero =>
   intro y out hy ho
   have b1 : ¬ ((y * w : Nat) : Int) < (xs.length : Int) := by rw [hx, show y = h by omega]; omega
   rw [cutR, List.append_nil]
   refine Ev.step (fun k => ?_) (Ev.now _)
   rw [spec_l03Cut.l0, if_neg b1]
  | succ e ih =>
   intro y out hy ho
   have hyw : (y + 1) * w ≤ h * w := Nat.mul_le_mul_right w (by omega)
   have e1 : (y + 1) * w = y * w + w := Nat.succ_mul y w
   have b1 : ((y * w : Nat) : Int) < (xs.length : Int) := by rw [hx]; omega
   have b2 : (0 : Int) ≤ ((y * w : Nat) : Int) := Int.natCast_nonneg _
   have hwr : wrap64 (((y * w : Nat) : Int) + (w : Int)) = (((y + 1) * w : Nat) : Int) := by
    rw [e1]
    exact (congrArg wrap64 (by push_cast; rfl)).trans (wrap_id (x := ((y * w + w : Nat) : Int)) (by omega) (by omega))
   have b3 : ((y * w : Nat) : Int) ≤ (((y + 1) * w : Nat) : Int) := by rw [e1]; omega
   have b4 : (((y + 1) * w : Nat) : Int) ≤ (xs.length : Int) := by rw [hx]; omega
   have hrow : (xs.take (y * w + w)).drop (y * w) = (xs.drop (y * w)).take w := by rw [List.drop_take, show y * w + w - y * w = w by omega]
   have hown := own_f ((xs.drop (y * w)).take w) (by have := List.length_take_le w (xs.drop (y * w)); omega)
   have ho9 : out.length < 5864062014805 := by omega
   have hn := ih (y + 1) (out ++ [(xs.drop (y * w)).take w]) (by omega) (by simp [ho])
   have e2 : (out ++ [(xs.drop (y * w)).take w]) ++ cutR w e (xs.drop ((y + 1) * w)) = out ++ cutR w (e + 1) (xs.drop (y * w)) := by
    rw [cutR, List.drop_drop, e1, List.append_assoc]; rfl
   rw [e2] at hn
   refine Ev.step (fun k => ?_) hn
   rw [spec_l03Cut.l0, if_pos b1, if_pos b2, hwr, if_pos b3, if_pos b4, Int.toNat_natCast, Int.toNat_natCast, e1, hrow, hown, Option.bind_some, if_pos ho9]
 have h0 := go h 0 [] (by omega) rfl
 rw [Nat.zero_mul, List.drop_zero, List.nil_append] at h0
 exact Ev.congr (fun k => by rw [spec_l03Cut.f]; rfl) h0
theorem rdL0 (x : List (List Int)) : rd_L1 x 0 = rowAt x 0 := rdL_nat x 0
theorem nil_map (xs : List (List Int)) : xs.map (([] : List Int) ++ ·) = xs := by
 have e : (([] : List Int) ++ ·) = (id : List Int → List Int) := by funext r; rfl
 rw [e, List.map_id]
end Go.Proofs.Ytcaikaflpmaocaa
namespace Go.Proofs.Ytcaikaflpmaocaa
open Go Go.RowKit Go.Proofs Go.Proofs.YtcaikaflpmaocaaW.PrintWords Go.Proofs.YtcaikaflpmaocaaW.PrintLast Go.Proofs.YtcaikaflpmaocaaW.PrintMore Go.Proofs.Ytcaikaflpmaocaa.Q
set_option linter.unusedVariables false
set_option linter.unusedSimpArgs false
def bordB (bs : List (List Int)) (k j : Nat) (v : Int) : Bool := decide (rowLen bs k = 0) || decide (ik (rowAt bs k) j = v)
set_option maxHeartbeats 4000000 in
set_option maxRecDepth 100000 in
theorem border_any (A2 : Option Addr) (bs : List (List Int)) (m2 c2 k j : Nat) (fb F tb : Nat) (v : Int) (w : World) (hm2 : m2 = bs.length) (hA2 : RR w A2 bs) (hm : m2 ≤ 1000) (hk : k < bs.length) (hj : rowLen bs k = 0 ∨ j < rowLen bs k)
 (hf : w.cell? ⟨fb, 0, none⟩ = some (.pointer (some ⟨F, 0, none⟩))) (hF : w.cell? ⟨F, 3, none⟩ = some (.slice A2 m2 c2)) (ht : w.cell? ⟨tb, k, none⟩ = some (.int .i64 v)) (h4 : k < 4) :
 Calls Try.prog 94 #[.int .i64 k, .int .i64 j, .pointer (some ⟨fb, 0, none⟩), .pointer (some ⟨tb, 0, none⟩)] w fun e w' => e = .returned (.bool (bordB bs k j v)) ∧ Below w.heap.size w w' := by
 obtain ⟨bb, bo, BA, bc, rfl, hbb, hb, hbr, -, -⟩ := hA2 k hk
 have lf := World.block_lt_of_cell? w _ hf
 have lF := World.block_lt_of_cell? w _ hF
 have lt := World.block_lt_of_cell? w _ ht
 simp only at lf lF lt
 have j1 : (k : Int) < m2 := by omega
 have j2 : (k : Int) < 4 := by omega
 have j3 : k < 4 := h4
 by_cases h0 : rowLen bs k = 0
 ·have H0 := Lib.hid h0
  rw [h0] at hb
  clear h0 hj hbr
  go_enter Try.func94, Try.ntmps94
  go_wp2_with fail
  refine wp_region_gro (by kernel_rfl) (by kernel_rfl) ?_
  repeat (first | go_big_quiet_step (fail) | quiet_step (fail))
  refine wpQuiet_nil ?_
  intro w5 hB5
  go_wp2_with fail
  go_ret
  exact ⟨congrArg (fun b_ => Ending.returned (.bool b_)) (by simp [bordB, H0.out]), hB5⟩
 ·obtain ⟨xb, xo, rfl, hxb, hx⟩ := hbr j (by show j < rowLen bs k; omega)
  have j4 : (j : Int) < rowLen bs k := by omega
  have v0 : (((rowLen bs k : Nat) : Int) == 0) = false := by simp; omega
  have v1 : (rowLen bs k == 0) = false := by simp; omega
  have v2 : decide (rowLen bs k = 0) = false := decide_eq_false h0
  have H0 := Lib.hid h0
  clear h0 hj hbr
  go_enter Try.func94, Try.ntmps94
  go_wp2_with fail
  refine wp_region_gro (by kernel_rfl) (by kernel_rfl) ?_
  repeat (first | go_big_quiet_step (fail) | quiet_step (fail))
  refine wpQuiet_nil ?_
  intro w5 hB5
  go_wp2_with fail
  go_ret
  exact ⟨congrArg (fun b_ => Ending.returned (.bool b_)) (by simp [bordB, H0.out]; try rfl), hB5⟩
theorem border_lit (kz : Int) {k : Nat} (hkz : kz = (k : Int)) (A2 : Option Addr) (bs : List (List Int)) (m2 c2 : Nat) (k' : Nat) (j : Nat) (fb F tb : Nat) (v : Int) (w : World) (hm2 : m2 = bs.length) (hA2 : RR w A2 bs) (hm : m2 ≤ 1000) (hk : k < bs.length) (hj : rowLen bs k = 0 ∨ j < rowLen bs k)
 (hf : w.cell? ⟨fb, 0, none⟩ = some (.pointer (some ⟨F, 0, none⟩))) (hF : w.cell? ⟨F, 3, none⟩ = some (.slice A2 m2 c2)) (ht : w.cell? ⟨tb, k, none⟩ = some (.int .i64 v)) (h4 : k < 4) :
 Calls Try.prog 94 #[.int .i64 kz, .int .i64 j, .pointer (some ⟨fb, 0, none⟩), .pointer (some ⟨tb, 0, none⟩)] w fun e w' => e = .returned (.bool (bordB bs k j v)) ∧ Below w.heap.size w w' := by
 subst hkz; exact border_any A2 bs m2 c2 k j fb F tb v w hm2 hA2 hm hk hj hf hF ht h4
set_option maxHeartbeats 4000000 in
set_option maxRecDepth 100000 in
theorem digit_any (A3 : Option Addr) (pw : List Int) (m3 c3 k : Nat) (sb fb F cb : Nat) (s C p : Int) (w : World) (hm3 : m3 = pw.length) (hA3 : RI w A3 pw) (hm : m3 ≤ 1000) (hk : k < pw.length)
 (hs : w.cell? ⟨sb, 0, none⟩ = some (.int .i64 s)) (hf : w.cell? ⟨fb, 0, none⟩ = some (.pointer (some ⟨F, 0, none⟩))) (hF : w.cell? ⟨F, 4, none⟩ = some (.slice A3 m3 c3)) (hC : w.cell? ⟨cb, 0, none⟩ = some (.int .i64 C))
 (hp : ik pw k = p) (hp0 : p ≠ 0) (hC0 : C ≠ 0) :
 Calls Try.prog 95 #[.int .i64 k, .pointer (some ⟨sb, 0, none⟩), .pointer (some ⟨fb, 0, none⟩), .pointer (some ⟨cb, 0, none⟩)] w fun e w' => e = .returned (.int .i64 (Int.tmod (wrap64 (Int.tdiv s p)) C)) ∧ Below w.heap.size w w' := by
 obtain ⟨bb, bo, rfl, hbb, hb⟩ := hA3 k hk
 have ls := World.block_lt_of_cell? w _ hs
 have lf := World.block_lt_of_cell? w _ hf
 have lF := World.block_lt_of_cell? w _ hF
 have lc := World.block_lt_of_cell? w _ hC
 simp only at ls lf lF lc
 rw [hp] at hb
 have j1 : (k : Int) < m3 := by omega
 have v1 : (p == 0) = false := by simp [hp0]
 have v2 : (C == 0) = false := by simp [hC0]
 clear hp
 go_enter Try.func95, Try.ntmps95
 go_wp2_with fail
 refine wp_region_gro (by kernel_rfl) (by kernel_rfl) ?_
 repeat (first | go_big_quiet_step (fail) | quiet_step (fail))
 refine wpQuiet_nil ?_
 intro w5 hB5
 go_wp2_with fail
 go_ret
 refine ⟨?_, hB5⟩
 rfl
end Go.Proofs.Ytcaikaflpmaocaa

/-
 Parts of the proof, in their order: FillC, Alv, NewW.
-/
import Derived.Test.YtcaikaflpmaocaaPk11
import Derived.Test.YtcaikaflpmaocaaPk10
import Derived.Test.YtcaikaflpmaocaaPk12
namespace Go.Proofs.Ytcaikaflpmaocaa
open Go Go.RowKit Go.Proofs Go.Proofs.YtcaikaflpmaocaaW.PrintWords Go.Proofs.YtcaikaflpmaocaaW.PrintLast Go.Proofs.YtcaikaflpmaocaaW.PrintMore Go.Proofs.Ytcaikaflpmaocaa.Q
set_option linter.unusedVariables false
set_option linter.unusedSimpArgs false
set_option maxHeartbeats 4000000 in
set_option maxRecDepth 100000 in
theorem size_any (A1 : Option Addr) (plan : List (List Int)) (m1 c1 F : Nat) (w : World) (hm1 : m1 = plan.length) (hA1 : RR w A1 plan) (h1 : 1 ≤ plan.length) (h5 : plan.length ≤ 5) (w5 : rowLen plan 0 ≤ 5)
 (hF : w.cell? ⟨F, 2, none⟩ = some (.slice A1 m1 c1)) :
 Calls Try.prog 74 #[.pointer (some ⟨F, 0, none⟩)] w fun e w' => e = .returned (.int .i64 (places plan : Nat)) ∧ Below w.heap.size w w' := by
 obtain ⟨pb, po, PA, pc, rfl, hpb, p0, -, -, -⟩ := hA1 0 (by omega)
 rw [Nat.add_zero] at p0
 have lF := World.block_lt_of_cell? w _ hF
 simp only at lF
 have j1 : (0 : Int) < m1 := by omega
 have j2 : 0 < m1 := by omega
 have HM := Lib.hid hm1
 have hmul : (m1 : Int) * ((rowLen plan 0 : Nat) : Int) = ((places plan : Nat) : Int) := by rw [hm1]; unfold places; push_cast; rfl
 have hb : (places plan : Int) ≤ 25 := by unfold places; exact Int.ofNat_le.2 (Nat.mul_le_mul h5 w5)
 clear hm1
 have m5 : m1 ≤ 5 := by have := HM.out; omega
 go_enter Try.func74, Try.ntmps74
 go_wp2_with fail
 refine wp_region_gro (by kernel_rfl) (by kernel_rfl) ?_
 repeat (first | go_big_quiet_step (fail) | quiet_step (fail))
 refine wpQuiet_nil ?_
 intro w5_ hB5
 go_wp2_with fail
 go_ret
 exact ⟨by first | rfl | simp [hmul], hB5⟩
theorem capSum_take (xs : List Int) (k : Nat) (h : k < xs.length) : capSum (xs.take (k + 1)) = cap (capSum (xs.take k) + ik xs k) := by
 unfold capSum
 rw [List.take_succ_eq_append_getElem h, List.foldl_append]
 simp [ik, List.getD_eq_getElem?_getD, List.getElem?_eq_getElem h]
theorem capSum_bnd {xs : List Int} (hb : Bd xs) (k : Nat) : 0 ≤ capSum (xs.take k) ∧ capSum (xs.take k) ≤ 1000000000000001 := by
 induction k with
 | zero => simp [capSum]
 | succ k ih =>
  by_cases h : k < xs.length
  ·rw [capSum_take xs k h]
   have h2 := hb k
   have e : ik xs k = xs.getD k 0 := rfl
   exact ⟨cap_nn (by rw [e]; omega), cap_le _⟩
  ·rw [List.take_of_length_le (by omega)]
   rw [List.take_of_length_le (by omega)] at ih
   exact ih
attribute [local go_sem] max2_int min2_int max_two min_two
set_option maxHeartbeats 4000000 in
set_option maxRecDepth 100000 in
theorem count_any (A1 : Option Addr) (plan : List (List Int)) (m1 c1 : Nat) (Ac : Option Addr) (cs : List (List Int)) (mc cc F : Nat) (w : World) (hm1 : m1 = plan.length) (hA1 : RR w A1 plan) (h1 : 1 ≤ plan.length) (h5 : plan.length ≤ 5) (w5 : rowLen plan 0 ≤ 5)
 (hmc : mc = cs.length) (hAc : RR w Ac cs) (hl : cs.length = places plan + 1) (hlen : rowLen cs (places plan) ≤ 1000000) (hbd : Bd (rowAt cs (places plan)))
 (hF : w.cell? ⟨F, 2, none⟩ = some (.slice A1 m1 c1)) (hF5 : w.cell? ⟨F, 5, none⟩ = some (.slice Ac mc cc)) :
 Calls Try.prog 53 #[.pointer (some ⟨F, 0, none⟩)] w fun e w' => e = .returned (.int .i64 (capSum (rowAt cs (places plan)))) ∧ Below w.heap.size w w' := by
 have HA1 := Lib.hid hA1
 have lF := World.block_lt_of_cell? w _ hF5
 simp only at lF
 obtain ⟨cb, co, CA, cap_, rfl, hcb, hrow, hri, -, -⟩ := hAc (places plan) (by omega)
 have j1 : ((places plan : Nat) : Int) < mc := by omega
 have hb : places plan ≤ 25 := by unfold places; exact Nat.mul_le_mul h5 w5
 have HRI := Lib.hid hri; have HBD := Lib.hid hbd; have HM1 := Lib.hid hm1
 generalize hN : places plan = N at *
 have HN := Lib.hid hN
 clear hA1 hAc hri hbd hm1 hN hl hmc
 go_enter Try.func53, Try.ntmps53
 go_wp2_with fail
 refine wp_region_gro (by kernel_rfl) (by kernel_rfl) ?_
 repeat (first | go_big_quiet_step (((go_at_call 74; exact quiet_call (by have h := size_any A1 plan m1 c1 F (gro w ‹GP›) HM1.out (HA1.out.below (gro_below w _)) h1 h5 w5 (cell_to (gro_below w _) hF); rw [HN.out] at h; exact h)))) | quiet_step (((go_at_call 74; exact quiet_call (by have h := size_any A1 plan m1 c1 F (gro w ‹GP›) HM1.out (HA1.out.below (gro_below w _)) h1 h5 w5 (cell_to (gro_below w _) hF); rw [HN.out] at h; exact h)))))
 refine wpQuiet_nil ?_
 intro W1 hB1
 have HB1 := Lib.hid hB1
 clear hB1
 go_wp2_with fail
 have hx9 : rowLen cs N ≤ 9223372036854775807 := by omega
 go_loopw [3, 5, 15] (fun s _ i wr => Below W1.heap.size W1 wr ∧ ∃ k : Nat, k ≤ rowLen cs N ∧ i = .int .i64 k ∧ s = .int .i64 (capSum ((rowAt cs N).take k))) (fun _ _ i _ => rowLen cs N - (intOf i).toNat)
 case atStart => exact ⟨Below.refl _ _, 0, by omega, rfl, rfl⟩
 case round =>
  obtain ⟨hB, k, hk, rfl, rfl⟩ := hrel
  have HE := Lib.hid (below_to HB1.out hB)
  have HB := Lib.hid hB; clear hB
  by_cases hlt : k < rowLen cs N
  ·have HLT := Lib.hid hlt
   obtain ⟨rb, ro, hRA, hrb, hx⟩ := (HRI.out.below HE.out) k hlt
   subst hRA
   have i1 : (k : Int) < rowLen cs N := by omega
   have h2 := capSum_bnd HBD.out k
   have h3 : 0 ≤ ik (rowAt cs N) k ∧ ik (rowAt cs N) k ≤ 1000000000000001 := HBD.out k
   have HS := Lib.hid (capSum_take (rowAt cs N) k hlt)
   go_wp2_with fail
   go_roundw
   case rel => exact ⟨HB.out, k + 1, by have := HLT.out; omega, by go_num, by rw [HS.out]; exact congrArg (Value.int .i64) (by unfold cap; split <;> split <;> omega)⟩
   case measure => simp [intOf]; omega
  ·have i1 : ¬ (k : Int) < rowLen cs N := by omega
   have e : k = rowLen cs N := by omega
   have HEQ := Lib.hid e; clear e
   go_wp2_with fail
   go_ret
   exact ⟨congrArg (fun x_ => Ending.returned (.int .i64 x_)) (by rw [HEQ.out, rowLen, List.take_length]), HE.out⟩
theorem S_put_row {e e2 base g n cap i : Nat} {W : World} {ok okg : Nat → Prop} {rows : List (List Bool)} {u : Value} {row : List Bool}
 (h : Kd.S (Kd.slice e Kd.bool) e2 W base (fun k => ok k ∧ ¬ okg k) (.slice (some ⟨g, 0, none⟩) n cap) rows) (hi : i < n) (hM : Kd.R Kd.bool e W base okg u row) (hg : ∀ k, okg k → ok k ∧ k ≠ g) :
 Kd.S (Kd.slice e Kd.bool) e2 (W.setCell ⟨g, i, none⟩ u) base ok (.slice (some ⟨g, 0, none⟩) n cap) (rows.set i row) ∧ W.grownBy (W.setCell ⟨g, i, none⟩ u) (some g) := by
 obtain ⟨oki, c, hcl, -, -, -, hH⟩ := Kd.S_lend h [] (i : Int) (by omega) (by omega)
 have hc1 : c.length = 1 := hcl
 have h2 := Kd.S_seg hH (by omega) (by omega) (seg := [u]) (j := 0) (x' := row) (okp := okg) (by show 0 + 1 ≤ 1; omega)
  (by
   have e : c.take 0 ++ [u] ++ c.drop (0 + [u].length) = [u] := by simp [List.drop_eq_nil_of_le (show c.length ≤ 1 by omega)]
   rw [e]
   exact Kd.M_row hM) (fun k hk => .inr hk) hg
 have e3 : (W.setCells g ((i : Int).toNat * (Kd.slice e Kd.bool).sz + 0) [u]) = W.setCell ⟨g, i, none⟩ u := by
  have e4 : (i : Int).toNat * (Kd.slice e Kd.bool).sz + 0 = i := by rw [Int.toNat_natCast]; show i * 1 + 0 = i; omega
  rw [e4]; rfl
 rw [e3, Int.toNat_natCast] at h2
 exact h2
theorem rdOf_getD {α : Type} (d : α) (xs : List α) (j : Nat) : rdOf d xs (j : Int) = xs.getD j d := by
 unfold rdOf
 simp
theorem S_put_cell {e e2 base g n cap i j : Nat} {W : World} {ok : Nat → Prop} {rows : List (List Bool)}
 (h : Kd.S (Kd.slice e Kd.bool) e2 W base ok (.slice (some ⟨g, 0, none⟩) n cap) rows) (hi : i < n) (hj : j < (rows.getD i []).length) :
 ∃ gr cr, W.cell? ⟨g, i, none⟩ = some (.slice (some ⟨gr, 0, none⟩) (rows.getD i []).length cr) ∧ W.cell? ⟨gr, j, none⟩ = some (.bool ((rows.getD i []).getD j false)) ∧ W.frozen? ⟨gr, j, none⟩ = false ∧ base ≤ gr ∧ gr < W.heap.size ∧ ok gr ∧
  ∀ b : Bool, Kd.S (Kd.slice e Kd.bool) e2 (W.setCell ⟨gr, j, none⟩ (.bool b)) base ok (.slice (some ⟨g, 0, none⟩) n cap) (rows.set i ((rows.getD i []).set j b)) := by
 obtain ⟨oki, c, hcl, hM, hcc, hoki, hback⟩ := Kd.S_borrow h [] (i : Int) (by omega) (by omega)
 obtain ⟨v, rfl, hR⟩ := hM
 rw [Int.toNat_natCast] at hR hcc hback
 obtain ⟨gr, cr, rfl, hb⟩ := Kd.R_form hR (by omega)
 have hz := hcc 0 _ (by rfl)
 have e4 : (⟨g, 0, none⟩ : Addr).add (i * (Kd.slice e Kd.bool).sz + 0) = ⟨g, i, none⟩ := by
  rw [add_at]
  exact congrArg (fun k => (⟨g, k, none⟩ : Addr)) (by show 0 + (i * 1 + 0) = i; omega)
 rw [e4] at hz
 obtain ⟨x1, x2⟩ := Kd.R_celln false hR (j : Int) (by omega) (by omega)
 rw [Int.toNat_natCast, rdOf_getD] at x1
 rw [Int.toNat_natCast] at x2
 have hown : some gr = (Value.slice (some ⟨gr, 0, none⟩) (rows.getD i []).length cr).ownBlock := by simp [Value.ownBlock]
 refine ⟨gr, cr, hz, x1, x2, Kd.R_base hR gr hown.symm, Kd.R_lt hR gr hown.symm, (hoki gr (hR.1 gr hown.symm)).1, fun b => ?_⟩
 obtain ⟨p1, p2⟩ := Kd.R_putg hR (j : Int) b
 rw [Int.toNat_natCast] at p1 p2
 exact hback p2 (fun k hk => by injection hk with hk; subst hk; exact hR.1 gr hown.symm) (Kd.M_row p1)
def RB (w : World) (g : Nat) (rows : List (List Bool)) : Prop :=
 ∀ i j, i < rows.length → j < (rows.getD i []).length → ∃ gr cr, g < w.heap.size ∧ gr < w.heap.size ∧ w.cell? ⟨g, i, none⟩ = some (.slice (some ⟨gr, 0, none⟩) (rows.getD i []).length cr) ∧ w.cell? ⟨gr, j, none⟩ = some (.bool ((rows.getD i []).getD j false))
theorem RB.below {w w' : World} {g : Nat} {rows : List (List Bool)} (h : RB w g rows) (hb : Below w.heap.size w w') : RB w' g rows := by
 intro i j hi hj
 obtain ⟨gr, cr, l1, l2, c1, c2⟩ := h i j hi hj
 have := hb.size
 exact ⟨gr, cr, by omega, by omega, cell_to hb c1, cell_to hb c2⟩
theorem rb_of_S {e e2 base g cap : Nat} {W : World} {ok : Nat → Prop} {rows : List (List Bool)} (h : Kd.S (Kd.slice e Kd.bool) e2 W base ok (.slice (some ⟨g, 0, none⟩) rows.length cap) rows) : RB W g rows := by
 intro i j hi hj
 obtain ⟨gr, cr, c1, c2, -, -, l2, -⟩ := S_put_cell h hi hj
 have hown : some g = (Value.slice (some ⟨g, 0, none⟩) rows.length cap).ownBlock := by simp [Value.ownBlock]
 exact ⟨gr, cr, Kd.S_lt h g hown.symm, l2, c1, c2⟩
def onB (T : Nx) (n P p s : Nat) : Bool := decide (0 < onw T n (P - p) p s)
def alvAt (T : Nx) (n sz P p s : Nat) : Bool := !decide (ik (fwd T n sz p) s = 0) && onB T n P p s
def alvTo (T : Nx) (n sz P p m : Nat) : List Bool := (List.range sz).map fun a => decide (a < m) && alvAt T n sz P p a
def alvRow (T : Nx) (n sz P p : Nat) : List Bool := (List.range sz).map fun a => alvAt T n sz P p a
def alvL (T : Nx) (n sz P p : Nat) : List (List Bool) := (List.range (P + 1)).map fun k => if k < p then [] else alvRow T n sz P k
theorem alvTo_len (T : Nx) (n sz P p m : Nat) : (alvTo T n sz P p m).length = sz := by simp [alvTo]
theorem alvRow_len (T : Nx) (n sz P p : Nat) : (alvRow T n sz P p).length = sz := by simp [alvRow]
theorem alvL_len (T : Nx) (n sz P p : Nat) : (alvL T n sz P p).length = P + 1 := by simp [alvL]
theorem alvTo_zero (T : Nx) (n sz P p : Nat) : alvTo T n sz P p 0 = List.replicate sz false := by
 apply List.ext_getElem
 ·simp [alvTo]
 ·intro i h1 h2; simp [alvTo]
theorem alvTo_all (T : Nx) (n sz P p : Nat) : alvTo T n sz P p sz = alvRow T n sz P p := by
 apply List.map_congr_left
 intro a ha
 rw [decide_eq_true (List.mem_range.1 ha), Bool.true_and]
theorem alvTo_set (T : Nx) (n sz P p s : Nat) : (alvTo T n sz P p s).set s (alvAt T n sz P p s) = alvTo T n sz P p (s + 1) := by
 apply List.ext_getElem
 ·simp [alvTo]
 ·intro i h1 h2
  rw [List.getElem_set]
  simp only [alvTo, List.getElem_map, List.getElem_range]
  by_cases hi : s = i
  ·subst hi; simp
  ·rw [if_neg hi]
   congr 1
   exact decide_eq_decide.2 (by omega)
theorem alvTo_dead (T : Nx) (n sz P p s : Nat) (h : ik (fwd T n sz p) s = 0) : alvTo T n sz P p s = alvTo T n sz P p (s + 1) := by
 apply List.map_congr_left
 intro a _
 by_cases hi : a = s
 ·subst hi; simp [alvAt, h]
 ·congr 1
  exact decide_eq_decide.2 (by omega)
theorem alvL_top (T : Nx) (n sz P : Nat) : alvL T n sz P (P + 1) = List.replicate (P + 1) [] := by
 apply List.ext_getElem
 ·simp [alvL]
 ·intro i h1 h2
  have h3 : i < P + 1 := by simpa [alvL] using h1
  simp [alvL, h3]
theorem alvL_set (T : Nx) (n sz P p : Nat) : (alvL T n sz P (p + 1)).set p (alvRow T n sz P p) = alvL T n sz P p := by
 apply List.ext_getElem
 ·simp [alvL]
 ·intro i h1 h2
  rw [List.getElem_set]
  simp only [alvL, List.getElem_map, List.getElem_range]
  by_cases hi : p = i
  ·subst hi; simp
  ·rw [if_neg hi]
   by_cases h : i < p
   ·rw [if_pos h, if_pos (by omega)]
   ·rw [if_neg h, if_neg (by omega)]
theorem alvL_get (T : Nx) (n sz P p k : Nat) (hk : k ≤ P) (h : p ≤ k) : (alvL T n sz P p).getD k [] = alvRow T n sz P k := by
 simp only [alvL, List.getD_eq_getElem?_getD, List.getElem?_map, List.getElem?_range (show k < P + 1 by omega), Option.map_some, Option.getD_some]
 rw [if_neg (by omega)]
theorem alvRow_get (T : Nx) (n sz P p s : Nat) (h : s < sz) : (alvRow T n sz P p).getD s false = alvAt T n sz P p s := by
 simp [alvRow, List.getD_eq_getElem?_getD, List.getElem?_range h]
def hit (T : Nx) (n sz P p : Nat) : Option Nat → Bool
 | none => false
 | some b => alvAt T n sz P (p + 1) b
def anyT (T : Nx) (n sz P p s j : Nat) : Bool := (List.range j).any fun i => hit T n sz P p (T p s i)
theorem anyT_zero (T : Nx) (n sz P p s : Nat) : anyT T n sz P p s 0 = false := rfl
theorem anyT_succ (T : Nx) (n sz P p s j : Nat) : anyT T n sz P p s (j + 1) = (anyT T n sz P p s j || hit T n sz P p (T p s j)) := by
 simp [anyT, List.range_succ, List.any_append]
theorem anyT_mono (T : Nx) (n sz P p s j m : Nat) (h : anyT T n sz P p s j = true) (hm : j ≤ m) : anyT T n sz P p s m = true := by
 unfold anyT at h ⊢
 rw [List.any_eq_true] at h ⊢
 obtain ⟨i, hi, h2⟩ := h
 exact ⟨i, List.mem_range.2 (by have := List.mem_range.1 hi; omega), h2⟩
theorem anyT_on (T : Nx) (n sz P p s : Nat) (hst : ∀ j, Stay T n sz j) (hs : s < sz) (hp : p < P) (h0 : ik (fwd T n sz p) s ≠ 0) : anyT T n sz P p s n = alvAt T n sz P p s := by
 have hpos : 0 < (fwd T n sz p).getD s 0 := by
  have h1 := (bd_fwd T n sz p (fun j _ => hst j)) s
  have e : ik (fwd T n sz p) s = (fwd T n sz p).getD s 0 := rfl
  rw [e] at h0
  omega
 have e1 : alvAt T n sz P p s = onB T n P p s := by simp [alvAt, h0]
 rw [e1, onB, show P - p = (P - (p + 1)) + 1 by omega, Bool.eq_iff_iff, decide_eq_true_eq, onw_pos]
 unfold anyT
 rw [List.any_eq_true]
 constructor
 ·rintro ⟨i, hi, h⟩
  refine ⟨i, List.mem_range.1 hi, ?_⟩
  cases hb : T p s i with
  | none => rw [hb] at h; cases h
  | some b =>
   rw [hb] at h
   simp only [hit, alvAt, Bool.and_eq_true] at h
   exact ⟨b, rfl, by simpa [onB] using h.2⟩
 ·rintro ⟨i, hi, b, hb, h⟩
  refine ⟨i, List.mem_range.2 hi, ?_⟩
  have h2 := fwd_pos T n sz p s i b (fun j _ => hst j) hs hi hb hpos
  have e : ik (fwd T n sz (p + 1)) b = (fwd T n sz (p + 1)).getD b 0 := rfl
  simp only [hb, hit, alvAt, onB, Bool.and_eq_true, Bool.not_eq_true', decide_eq_false_iff_not, decide_eq_true_eq]
  exact ⟨by rw [e]; omega, h⟩
theorem foldT_len (now : List Int) (L : List STile) : ∀ acc : List Int, (L.foldl (capT now) acc).length = acc.length := by
 induction L with
 | nil => intro acc; rfl
 | cons t L ih => intro acc; rw [List.foldl_cons, ih, capT_len]
theorem edgesOf_fine {T : Nx} {n c p s j : Nat} (hst : Stay T n c p) (hs : s < c) (hj : j ≤ n) : Fine c (edgesOf T p s (List.range j)) := by
 intro t ht
 simp only [edgesOf, List.mem_filterMap, List.mem_range, Option.map_eq_some_iff] at ht
 obtain ⟨i, hi, b, hb, rfl⟩ := ht
 have := hst s i b hs (by omega) hb
 simp only [edge]
 omega
theorem edgesOf_from {T : Nx} {p s : Nat} {js : List Nat} {t : STile} (ht : t ∈ edgesOf T p s js) : t.f0.toNat = s := by
 simp only [edgesOf, List.mem_filterMap, Option.map_eq_some_iff] at ht
 obtain ⟨i, hi, b, hb, rfl⟩ := ht
 simp [edge]
def uptoN (T : Nx) (n c p s j : Nat) : List Int := (edgesTo T n p s ++ edgesOf T p s (List.range j)).foldl (capT (fwd T n c p)) (List.replicate c 0)
theorem uptoN_zero (T : Nx) (n c p s : Nat) : uptoN T n c p s 0 = (edgesTo T n p s).foldl (capT (fwd T n c p)) (List.replicate c 0) := by simp [uptoN, edgesOf]
theorem uptoN_all (T : Nx) (n c p s : Nat) : uptoN T n c p s n = uptoN T n c p (s + 1) 0 := by rw [uptoN_zero, edgesTo_succ]; rfl
theorem uptoN_end (T : Nx) (n c p : Nat) : uptoN T n c p c 0 = fwd T n c (p + 1) := by rw [uptoN_zero, fwd_succ]; rfl
theorem uptoN_start (T : Nx) (n c p : Nat) : uptoN T n c p 0 0 = List.replicate c 0 := by simp [uptoN, edgesOf, edgesTo]
theorem uptoN_bd {T : Nx} {n c p s j : Nat} (hst : ∀ q, Stay T n c q) (hs : s < c) (hj : j ≤ n) : Bd (uptoN T n c p s j) := by
 refine bd_fold (c := c) (bd_fwd T n c p (fun q _ => hst q)) _ ?_ _ (bd_zero c) (by simp)
 intro t ht
 rcases List.mem_append.1 ht with h | h
 ·exact edgesTo_fine (hst p) (by omega) t h
 ·exact edgesOf_fine (hst p) hs hj t h
theorem uptoN_dead {T : Nx} {n c p s j : Nat} (hst : ∀ q, Stay T n c q) (hs : s < c) (hj : j ≤ n) (h0 : ik (fwd T n c p) s = 0) : uptoN T n c p s j = uptoN T n c p (s + 1) 0 := by
 have hn := bd_fwd T n c p (fun q _ => hst q)
 have hb := bd_fold (c := c) hn (edgesTo T n p s) (edgesTo_fine (hst p) (Nat.le_of_lt hs)) _ (bd_zero c) (by simp)
 have hl : ((edgesTo T n p s).foldl (capT (fwd T n c p)) (List.replicate c 0)).length = c := by rw [foldT_len, List.length_replicate]
 rw [uptoN_zero, edgesTo_succ, uptoN, List.foldl_append, List.foldl_append, fold_zero _ (edgesOf_fine (hst p) hs hj) (fun t ht => by rw [edgesOf_from ht]; exact h0) _ hb hl,
  fold_zero _ (edgesOf_fine (hst p) hs (Nat.le_refl n)) (fun t ht => by rw [edgesOf_from ht]; exact h0) _ hb hl]
theorem uptoN_none {T : Nx} {n c p s j : Nat} (h : T p s j = none) : uptoN T n c p s (j + 1) = uptoN T n c p s j := by
 have e : edgesOf T p s [j] = [] := by simp [edgesOf, h]
 rw [uptoN, uptoN, edgesOf_succ, e, List.append_nil]
theorem uptoN_some {T : Nx} {n c p s j b : Nat} (h : T p s j = some b) : uptoN T n c p s (j + 1) = (uptoN T n c p s j).set b (cap ((uptoN T n c p s j).getD b 0 + ik (fwd T n c p) s)) := by
 have e : edgesOf T p s [j] = [edge s b] := by simp [edgesOf, h]
 rw [uptoN, edgesOf_succ, e, ← List.append_assoc, List.foldl_append, List.foldl_cons, List.foldl_nil]
 show capT _ (uptoN T n c p s j) _ = _
 rw [capT, rd_at (by simp [edge]), rd_at (by simp [edge])]
 simp only [edge, Int.toNat_natCast]
 rfl
theorem onB_top (T : Nx) (n P s : Nat) : onB T n P P s = true := by
 unfold onB
 rw [Nat.sub_self]
 rfl
def nowT (T : Nx) (n sz P p s j : Nat) : Bool := decide (p = P) || anyT T n sz P p s j
theorem nowT_zero (T : Nx) (n sz P p s : Nat) : nowT T n sz P p s 0 = decide (p = P) := by rw [nowT, anyT_zero, Bool.or_false]
theorem nowT_succ (T : Nx) (n sz P p s j : Nat) : nowT T n sz P p s (j + 1) = (nowT T n sz P p s j || hit T n sz P p (T p s j)) := by rw [nowT, nowT, anyT_succ, Bool.or_assoc]
theorem nowT_top (T : Nx) (n sz P p s j : Nat) (h : p = P) : nowT T n sz P p s j = true := by rw [nowT, decide_eq_true h, Bool.true_or]
theorem alv_done {T : Nx} {n sz P p s j : Nat} (hst : ∀ q, Stay T n sz q) (hs : s < sz) (hp : p ≤ P) (h0 : ik (fwd T n sz p) s ≠ 0) (hj : j ≤ n) (hv : nowT T n sz P p s j = true ∨ j = n) :
 (alvTo T n sz P p s).set s (nowT T n sz P p s j) = alvTo T n sz P p (s + 1) := by
 rw [← alvTo_set]
 congr 1
 unfold nowT at hv ⊢
 by_cases h : p = P
 ·subst h; simp [alvAt, onB_top, h0]
 ·rw [decide_eq_false h, Bool.false_or] at hv ⊢
  have h2 := anyT_on T n sz P p s hst hs (by omega) h0
  rcases hv with hv | hv
  ·rw [hv, ← h2, anyT_mono T n sz P p s j n hv hj]
  ·rw [hv, h2]
structure PW (w0 W : World) (F : Nat) (C : Int) (A : Option Addr) (n c : Nat) (A1 : Option Addr) (m1 c1 : Nat) (A2 : Option Addr) (m2 c2 : Nat) (pv : Value) (pw : List Int) : Prop where
 be : Below w0.heap.size w0 W
 gF : w0.heap.size ≤ F
 bs : BK W w0.heap.size #[.int .i64 C, .slice A n c] 36
 bf : BK W F #[.int .i64 C, .slice A n c, .slice A1 m1 c1, .slice A2 m2 c2, pv, .slice none 0 0, .slice none 0 0] 65
 row : Kd.R (Kd.int .i64) 2 W w0.heap.size (fun _ => True) pv pw
theorem PW.to {w0 W W1 : World} {F : Nat} {C : Int} {A : Option Addr} {n c : Nat} {A1 : Option Addr} {m1 c1 : Nat} {A2 : Option Addr} {m2 c2 : Nat} {pv : Value} {pw : List Int} (h : PW w0 W F C A n c A1 m1 c1 A2 m2 c2 pv pw) (hb : Below W.heap.size W W1) : PW w0 W1 F C A n c A1 m1 c1 A2 m2 c2 pv pw :=
 ⟨below_to h.be hb, h.gF, (hb.block _ h.bs.lt).trans h.bs, (hb.block _ h.bf.lt).trans h.bf, Kd.R_below h.row hb⟩
theorem RI.keep {w w' : World} {A : Option Addr} {xs : List Int} (h : RI w A xs) (hk : ∀ k, k < w.heap.size → w'.heap[k]? = w.heap[k]?) (hs : w.heap.size ≤ w'.heap.size) : RI w' A xs := by
 intro k hx
 obtain ⟨b, o, e, hb, hc⟩ := h k hx
 refine ⟨b, o, e, by omega, ?_⟩
 unfold World.cell? at hc ⊢
 simp only at hc ⊢
 rw [hk b hb]
 exact hc
theorem one_row {W : World} {base g e : Nat} {x : Int} (h : BK W g #[.int .i64 x] e) (hb : base ≤ g) : Kd.R (Kd.int .i64) e W base (fun _ => True) (.slice (some ⟨g, 0, none⟩) 1 1) [x] :=
 Kd.R_of_own ⟨rfl, .inr ⟨g, 1, #[.int .i64 x], rfl, hb, h, Nat.le_refl 1, by decide, rfl, rfl⟩⟩ (fun _ _ => trivial)
structure FW (w0 W : World) (N M F : Nat) (C : Int) (A : Option Addr) (n c : Nat) (A1 : Option Addr) (m1 c1 : Nat) (A2 : Option Addr) (m2 c2 : Nat) (pv cv : Value) (pw : List Int) (cs : List (List Int)) : Prop where
 be : Below w0.heap.size w0 W
 gF : w0.heap.size ≤ F
 lF : F < N
 lN : N ≤ M
 lM : M ≤ W.heap.size
 bs : BK W w0.heap.size #[.int .i64 C, .slice A n c] 36
 bf : BK W F #[.int .i64 C, .slice A n c, .slice A1 m1 c1, .slice A2 m2 c2, pv, cv, .slice none 0 0] 65
 row : Kd.R (Kd.int .i64) 2 W w0.heap.size (fun k => k < N) pv pw
 cnt : Kd.S (Kd.slice 2 (Kd.int .i64)) 56 W N (fun k => k < M) cv cs
theorem FW.keep {w0 W W1 : World} {N M F : Nat} {C : Int} {A : Option Addr} {n c : Nat} {A1 : Option Addr} {m1 c1 : Nat} {A2 : Option Addr} {m2 c2 : Nat} {pv cv : Value} {pw : List Int} {cs : List (List Int)} (h : FW w0 W N M F C A n c A1 m1 c1 A2 m2 c2 pv cv pw cs)
 (hb : Below w0.heap.size w0 W1) (hk : ∀ k, k < M → W1.heap[k]? = W.heap[k]?) (hM : M ≤ W1.heap.size) : FW w0 W1 N M F C A n c A1 m1 c1 A2 m2 c2 pv cv pw cs :=
 have h1 := h.lF; have h2 := h.lN; have h3 := h.gF
 ⟨hb, h.gF, h.lF, h.lN, hM, (hk _ (by omega)).trans h.bs, (hk _ (by omega)).trans h.bf, Kd.R_move h.row (fun k hk2 => hk k (by omega)), Kd.S_move h.cnt hk⟩
theorem FW.to {w0 W W1 : World} {N M F : Nat} {C : Int} {A : Option Addr} {n c : Nat} {A1 : Option Addr} {m1 c1 : Nat} {A2 : Option Addr} {m2 c2 : Nat} {pv cv : Value} {pw : List Int} {cs : List (List Int)} (h : FW w0 W N M F C A n c A1 m1 c1 A2 m2 c2 pv cv pw cs)
 (hb : Below W.heap.size W W1) : FW w0 W1 N M F C A n c A1 m1 c1 A2 m2 c2 pv cv pw cs :=
 h.keep (below_to h.be hb) (fun k hk => hb.block k (by have := h.lM; omega)) (by have := h.lM; have := hb.size; omega)
theorem FW.rise {w0 W : World} {N M M' F : Nat} {C : Int} {A : Option Addr} {n c : Nat} {A1 : Option Addr} {m1 c1 : Nat} {A2 : Option Addr} {m2 c2 : Nat} {pv cv : Value} {pw : List Int} {cs : List (List Int)} (h : FW w0 W N M F C A n c A1 m1 c1 A2 m2 c2 pv cv pw cs)
 (h1 : M ≤ M') (h2 : M' ≤ W.heap.size) : FW w0 W N M' F C A n c A1 m1 c1 A2 m2 c2 pv cv pw cs :=
 ⟨h.be, h.gF, h.lF, by have := h.lN; omega, h2, h.bs, h.bf, h.row, Kd.S_mono h.cnt (fun k hk => by omega)⟩
theorem FW.far {w0 W : World} {N M F : Nat} {C : Int} {A : Option Addr} {n c : Nat} {A1 : Option Addr} {m1 c1 : Nat} {A2 : Option Addr} {m2 c2 : Nat} {pv cv : Value} {pw : List Int} {cs : List (List Int)} (h : FW w0 W N M F C A n c A1 m1 c1 A2 m2 c2 pv cv pw cs)
 {g : Nat} (hg : M ≤ g) (j : Nat) (u : Value) : FW w0 (W.setCell ⟨g, j, none⟩ u) N M F C A n c A1 m1 c1 A2 m2 c2 pv cv pw cs :=
 have h1 := h.lF; have h2 := h.lN; have h3 := h.gF
 have hb : Below w0.heap.size w0 (W.setCell ⟨g, j, none⟩ u) := h.be.setCell (by show w0.heap.size ≤ g; omega) u
 h.keep hb (fun k hk => Below.heap_setCell W ⟨g, j, none⟩ u k (by show k ≠ g; omega)) (by have := h.lM; simpa using this)
theorem FW.start {w0 W : World} {F : Nat} {C : Int} {A : Option Addr} {n c : Nat} {A1 : Option Addr} {m1 c1 : Nat} {A2 : Option Addr} {m2 c2 : Nat} {pv : Value} {pw : List Int} (h : PW w0 W F C A n c A1 m1 c1 A2 m2 c2 pv pw) :
 FW w0 W W.heap.size W.heap.size F C A n c A1 m1 c1 A2 m2 c2 pv (.slice none 0 0) pw [] :=
 ⟨h.be, h.gF, h.bf.lt, Nat.le_refl _, Nat.le_refl _, h.bs, h.bf, Kd.R_mono (Kd.R_bound h.row) (fun k hk => hk.2.2.1), Kd.S_nil _ _ _ _ _⟩
theorem int_types {q e : Nat} (h : q ∈ e :: (Kd.int .i64).E) : q = e := by
 have e : (Kd.int .i64).E = [] := rfl
 rw [e] at h; simpa using h
theorem FW.app {w0 W w1 : World} {N M F : Nat} {C : Int} {A : Option Addr} {n c : Nat} {A1 : Option Addr} {m1 c1 : Nat} {A2 : Option Addr} {m2 c2 : Nat} {pv cv v1 : Value} {pw row : List Int} {cs : List (List Int)} (h : FW w0 W N M F C A n c A1 m1 c1 A2 m2 c2 pv cv pw cs)
 (hb : Below N W w1) (ho : Kd.S (Kd.slice 2 (Kd.int .i64)) 56 w1 N (fun _ => True) v1 (cs ++ [row])) (hg : W.grownBy w1 cv.ownBlock) :
 FW w0 (w1.setCell ⟨F, 5, none⟩ v1) N w1.heap.size F C A n c A1 m1 c1 A2 m2 c2 pv v1 pw (cs ++ [row]) := by
 have h1 := h.lF; have h2 := h.lN; have h3 := h.gF; have h4 := h.lM
 have hbf : BK w1 F _ 65 := blk_grown h.bf hg (Kd.S_ne h.cnt h.bf (by decide))
 have hbs : BK w1 w0.heap.size _ 36 := blk_grown h.bs hg (Kd.S_ne h.cnt h.bs (by decide))
 have hrow : Kd.R (Kd.int .i64) 2 w1 w0.heap.size (fun k => k < N) pv pw := Kd.R_grown h.row hg (fun k hk e => by have := Kd.S_base h.cnt k e.symm; omega)
 have hty : ∀ q, q ∈ 56 :: (Kd.slice 2 (Kd.int .i64)).E → q ≠ 65 := by
  have e : (Kd.slice 2 (Kd.int .i64)).E = [2] := rfl
  rw [e]; decide
 refine ⟨(h.be.trans (hb.mono (by omega))).setCell h3 _, h3, h1, by have := hb.size; omega, by simp, hbs.set_ne (blk_ne hbs hbf (by decide)) 5 v1, hbf.set 5 v1, Kd.R_set hrow hbf (fun q hq => by rw [int_types hq]; decide) 5 v1, ?_⟩
 exact Kd.S_mono (Kd.S_set (Kd.S_bound ho) hbf hty 5 v1) (fun k hk => hk.2.2.1)
def powL (c k : Nat) : List Int := (List.range (k + 1)).map fun j => ((c ^ j : Nat) : Int)
theorem powL_len (c k : Nat) : (powL c k).length = k + 1 := by simp [powL]
theorem powL_succ (c k : Nat) : powL c (k + 1) = powL c k ++ [((c ^ (k + 1) : Nat) : Int)] := by simp [powL, List.range_succ]
theorem powL_at (c k j : Nat) (h : j ≤ k) : ik (powL c k) j = ((c ^ j : Nat) : Int) := by
 simp [powL, ik, List.getD_eq_getElem?_getD, List.getElem?_range (show j < k + 1 by omega)]
theorem wrapN (k : Nat) (h : k ≤ 35184372088832) : wrap64 (k : Int) = k := wrap_id (by omega) (by omega)
theorem pow_next (c k : Nat) (c6 : c ≤ 6) (hk : k + 1 ≤ 6) : wrap64 (((c ^ k : Nat) : Int) * (c : Int)) = ((c ^ (k + 1) : Nat) : Int) := by
 have h := pow_le c (k + 1) c6 hk
 rw [Nat.pow_succ] at h ⊢
 rw [← Int.natCast_mul]
 generalize c ^ k * c = q at h ⊢
 exact wrap_id (by omega) (by omega)
def cntL (c : Nat) (plan bs : List (List Int)) (l : List STile) (p : Nat) : List (List Int) := (List.range (p + 1)).map fun j => fwd (stepI c plan bs l) l.length (size c plan) j
theorem cntL_len (c : Nat) (plan bs : List (List Int)) (l : List STile) (p : Nat) : (cntL c plan bs l p).length = p + 1 := by simp [cntL]
theorem cntL_succ (c : Nat) (plan bs : List (List Int)) (l : List STile) (p : Nat) : cntL c plan bs l (p + 1) = cntL c plan bs l p ++ [fwd (stepI c plan bs l) l.length (size c plan) (p + 1)] := by simp [cntL, List.range_succ]
theorem cntL_zero (c : Nat) (plan bs : List (List Int)) (l : List STile) : cntL c plan bs l 0 = [(List.replicate (size c plan) 0).set 0 1] := rfl
theorem infoBools : (Try.prog.info? 62).map (fun i => (i.zero, i.size, i.bytes)) = some (some (.slice none 0 0), 1, 24) := by kernel_rfl
theorem infoBool : (Try.prog.info? 4).map (fun i => (i.zero, i.size, i.bytes)) = some (some (.bool false), 1, 1) := by kernel_rfl
structure AW (w0 W : World) (N M F : Nat) (C : Int) (A : Option Addr) (n c : Nat) (A1 : Option Addr) (m1 c1 : Nat) (A2 : Option Addr) (m2 c2 : Nat) (pv cv : Value) (pw : List Int) (cs : List (List Int)) (ga P1 ca : Nat) (rows : List (List Bool)) : Prop where
 be : Below w0.heap.size w0 W
 gF : w0.heap.size ≤ F
 lF : F < N
 lN : N ≤ M
 lM : M ≤ W.heap.size
 bs : BK W w0.heap.size #[.int .i64 C, .slice A n c] 36
 bf : BK W F #[.int .i64 C, .slice A n c, .slice A1 m1 c1, .slice A2 m2 c2, pv, cv, .slice (some ⟨ga, 0, none⟩) P1 ca] 65
 row : Kd.R (Kd.int .i64) 2 W w0.heap.size (fun k => k < N) pv pw
 cnt : Kd.S (Kd.slice 2 (Kd.int .i64)) 56 W N (fun k => k < M) cv cs
 alv : Kd.S (Kd.slice 4 Kd.bool) 62 W M (fun _ => True) (.slice (some ⟨ga, 0, none⟩) P1 ca) rows
section
variable {w0 W W1 : World} {N M F : Nat} {C : Int} {A : Option Addr} {n c : Nat} {A1 : Option Addr} {m1 c1 : Nat} {A2 : Option Addr} {m2 c2 : Nat} {pv cv : Value} {pw : List Int} {cs : List (List Int)} {ga P1 ca : Nat} {rows : List (List Bool)}
theorem AW.keep (h : AW w0 W N M F C A n c A1 m1 c1 A2 m2 c2 pv cv pw cs ga P1 ca rows) {rows1 : List (List Bool)} (hb : Below w0.heap.size w0 W1) (hk : ∀ k, k < M → W1.heap[k]? = W.heap[k]?) (hM : M ≤ W1.heap.size)
 (ha : Kd.S (Kd.slice 4 Kd.bool) 62 W1 M (fun _ => True) (.slice (some ⟨ga, 0, none⟩) P1 ca) rows1) : AW w0 W1 N M F C A n c A1 m1 c1 A2 m2 c2 pv cv pw cs ga P1 ca rows1 :=
 have h1 := h.lF; have h2 := h.lN; have h3 := h.gF
 ⟨hb, h.gF, h.lF, h.lN, hM, (hk _ (by omega)).trans h.bs, (hk _ (by omega)).trans h.bf, Kd.R_move h.row (fun k hk2 => hk k (by omega)), Kd.S_move h.cnt hk, ha⟩
theorem AW.to (h : AW w0 W N M F C A n c A1 m1 c1 A2 m2 c2 pv cv pw cs ga P1 ca rows) (hb : Below W.heap.size W W1) : AW w0 W1 N M F C A n c A1 m1 c1 A2 m2 c2 pv cv pw cs ga P1 ca rows :=
 h.keep (below_to h.be hb) (fun k hk => hb.block k (by have := h.lM; omega)) (by have := h.lM; have := hb.size; omega) (Kd.S_below h.alv hb)
theorem AW.start (h : FW w0 W N M F C A n c A1 m1 c1 A2 m2 c2 pv cv pw cs) {W1 : World} (hb : Below W.heap.size W W1) (ha : Kd.S (Kd.slice 4 Kd.bool) 62 W1 W.heap.size (fun _ => True) (.slice (some ⟨ga, 0, none⟩) P1 ca) rows) :
 AW w0 (W1.setCell ⟨F, 6, none⟩ (.slice (some ⟨ga, 0, none⟩) P1 ca)) N W.heap.size F C A n c A1 m1 c1 A2 m2 c2 pv cv pw cs ga P1 ca rows := by
 have h1 := h.lF; have h2 := h.lN; have h3 := h.gF; have h4 := h.lM
 have h6 := h.to hb
 have hs := hb.size
 have hty : ∀ q, q ∈ 62 :: (Kd.slice 4 Kd.bool).E → q ≠ 65 := by
  have e : (Kd.slice 4 Kd.bool).E = [4] := rfl
  rw [e]; decide
 have hty2 : ∀ q, q ∈ 56 :: (Kd.slice 2 (Kd.int .i64)).E → q ≠ 65 := by
  have e : (Kd.slice 2 (Kd.int .i64)).E = [2] := rfl
  rw [e]; decide
 exact ⟨h6.be.setCell h3 _, h3, h1, by omega, by simpa using hs, h6.bs.set_ne (blk_ne h6.bs h6.bf (by decide)) 6 _, h6.bf.set 6 _, Kd.R_set h6.row h6.bf (fun q hq => by rw [int_types hq]; decide) 6 _, Kd.S_mono (Kd.S_set h6.cnt h6.bf hty2 6 _) (fun k hk => by omega), Kd.S_set ha h6.bf hty 6 _⟩
theorem AW.put (h : AW w0 W N M F C A n c A1 m1 c1 A2 m2 c2 pv cv pw cs ga P1 ca rows) (hb : Below W.heap.size W W1) {u : Value} {row : List Bool} (hr : Kd.R Kd.bool 4 W1 W.heap.size (fun _ => True) u row) {i : Nat} (hi : i < P1) :
 AW w0 (W1.setCell ⟨ga, i, none⟩ u) N M F C A n c A1 m1 c1 A2 m2 c2 pv cv pw cs ga P1 ca (rows.set i row) := by
 have h2 := h.to hb
 have hown : some ga = (Value.slice (some ⟨ga, 0, none⟩) P1 ca).ownBlock := by simp [Value.ownBlock]
 have hga : M ≤ ga := Kd.S_base h.alv ga hown.symm
 have hgl : ga < W.heap.size := Kd.S_lt h.alv ga hown.symm
 have h4 := h.gF; have h5 := h.lF; have h6 := h.lN; have h7 := h.lM
 have h8 : Kd.S (Kd.slice 4 Kd.bool) 62 W1 M (fun k => True ∧ ¬ (W.heap.size ≤ k)) (.slice (some ⟨ga, 0, none⟩) P1 ca) rows := Kd.S_mono (Kd.S_old h.alv hb) (fun k hk => ⟨trivial, by omega⟩)
 have h9 := (S_put_row (okg := fun k => W.heap.size ≤ k) h8 hi (Kd.R_lower (Kd.R_mono (Kd.R_bound hr) (fun k hk => hk.2.1)) h7) (fun k hk => ⟨trivial, by omega⟩)).1
 exact h2.keep (h2.be.setCell (by show w0.heap.size ≤ ga; omega) _) (fun k hk => Below.heap_setCell W1 ⟨ga, i, none⟩ u k (by show k ≠ ga; omega)) (by simpa using h2.lM) h9
theorem AW.cell (h : AW w0 W N M F C A n c A1 m1 c1 A2 m2 c2 pv cv pw cs ga P1 ca rows) {i j : Nat} (hi : i < P1) (hj : j < (rows.getD i []).length) :
 ∃ gr cr, W.cell? ⟨F, 6, none⟩ = some (.slice (some ⟨ga, 0, none⟩) P1 ca) ∧ W.cell? ⟨ga, i, none⟩ = some (.slice (some ⟨gr, 0, none⟩) (rows.getD i []).length cr) ∧ W.cell? ⟨gr, j, none⟩ = some (.bool ((rows.getD i []).getD j false)) ∧ W.frozen? ⟨gr, j, none⟩ = false ∧
  F < W.heap.size ∧ ga < W.heap.size ∧ gr < W.heap.size ∧ ∀ b : Bool, AW w0 (W.setCell ⟨gr, j, none⟩ (.bool b)) N M F C A n c A1 m1 c1 A2 m2 c2 pv cv pw cs ga P1 ca (rows.set i ((rows.getD i []).set j b)) := by
 obtain ⟨gr, cr, c1_, c2_, c3_, hb, hl, -, hput⟩ := S_put_cell h.alv hi hj
 have hown : some ga = (Value.slice (some ⟨ga, 0, none⟩) P1 ca).ownBlock := by simp [Value.ownBlock]
 have h4 := h.gF; have h5 := h.lF; have h6 := h.lN; have h7 := h.lM
 exact ⟨gr, cr, h.bf.cell rfl, c1_, c2_, c3_, by omega, Kd.S_lt h.alv ga hown.symm, hl, fun b => h.keep (h.be.setCell (by show w0.heap.size ≤ gr; omega) _) (fun k hk => Below.heap_setCell W ⟨gr, j, none⟩ (.bool b) k (by show k ≠ gr; omega)) (by simpa using h7) (hput b)⟩
theorem AW.head (h : AW w0 W N M F C A n c A1 m1 c1 A2 m2 c2 pv cv pw cs ga P1 ca rows) {i : Nat} (hi : i < P1) :
 ∃ v, W.cell? ⟨F, 6, none⟩ = some (.slice (some ⟨ga, 0, none⟩) P1 ca) ∧ W.cell? ⟨ga, i, none⟩ = some v ∧ W.frozen? ⟨ga, i, none⟩ = false ∧ ga < W.heap.size := by
 obtain ⟨oki, c, hcl, ⟨v, rfl, -⟩, hcc, hfr, -, -⟩ := Kd.S_elem h.alv [] (i : Int) (by omega) (by omega)
 have e : (i : Int).toNat * (Kd.slice 4 Kd.bool).sz + 0 = i := by rw [Int.toNat_natCast]; show i * 1 + 0 = i; omega
 have h1 := hcc 0 v rfl
 have h2 := hfr 0
 rw [e] at h1 h2
 have hown : some ga = (Value.slice (some ⟨ga, 0, none⟩) P1 ca).ownBlock := by simp [Value.ownBlock]
 exact ⟨v, h.bf.cell rfl, h1, h2, Kd.S_lt h.alv ga hown.symm⟩
theorem AW.frozen (h : AW w0 W N M F C A n c A1 m1 c1 A2 m2 c2 pv cv pw cs ga P1 ca rows) {i j gr m cr : Nat} (hi : i < P1) (hj : j < (rows.getD i []).length) (hh : W.cell? ⟨ga, i, none⟩ = some (.slice (some ⟨gr, 0, none⟩) m cr)) :
 M ≤ gr ∧ W.frozen? ⟨gr, j, none⟩ = false ∧ W.cell? ⟨gr, j, none⟩ = some (.bool ((rows.getD i []).getD j false)) ∧ gr < W.heap.size ∧ ∀ b : Bool, AW w0 (W.setCell ⟨gr, j, none⟩ (.bool b)) N M F C A n c A1 m1 c1 A2 m2 c2 pv cv pw cs ga P1 ca (rows.set i ((rows.getD i []).set j b)) := by
 obtain ⟨gr', cr', -, k1, k2, k3, -, -, k4, k5⟩ := h.cell hi hj
 obtain ⟨gr2, cr2, q1, -, -, q2, -, -, -⟩ := S_put_cell h.alv hi hj
 rw [hh] at k1
 injection k1 with k1
 injection k1 with k1
 injection k1 with k1
 injection k1 with k1
 subst k1
 rw [hh] at q1
 injection q1 with q1
 injection q1 with q1
 injection q1 with q1
 injection q1 with q1
 subst q1
 exact ⟨q2, k3, k2, k4, k5⟩
theorem AW.len (h : AW w0 W N M F C A n c A1 m1 c1 A2 m2 c2 pv cv pw cs ga P1 ca rows) : P1 = rows.length := (Kd.S_reads' h.alv).1
end
def FIL (w : World) (F : Nat) (C : Int) (cn : Nat) (A : Option Addr) (ts : List T4) (n c : Nat) (A1 : Option Addr) (plan : List (List Int)) (m1 c1 : Nat) (A2 : Option Addr) (bs : List (List Int)) (m2 c2 : Nat) : Prop :=
 ∃ (Ap : Option Addr) (cp gc cc ga ca : Nat), (w.cell? ⟨F, 0, none⟩ = some (.int .i64 C) ∧ w.cell? ⟨F, 1, none⟩ = some (.slice A n c) ∧ w.cell? ⟨F, 2, none⟩ = some (.slice A1 m1 c1) ∧ w.cell? ⟨F, 3, none⟩ = some (.slice A2 m2 c2)) ∧
  w.cell? ⟨F, 4, none⟩ = some (.slice Ap (rowLen plan 0 + 1) cp) ∧ w.cell? ⟨F, 5, none⟩ = some (.slice (some ⟨gc, 0, none⟩) (places plan + 1) cc) ∧ w.cell? ⟨F, 6, none⟩ = some (.slice (some ⟨ga, 0, none⟩) (places plan + 1) ca) ∧
  RI w Ap (powL cn (rowLen plan 0)) ∧ RR w (some ⟨gc, 0, none⟩) (cntL cn plan bs (ts.map toS) (places plan)) ∧ RB w ga (alvL (stepI cn plan bs (ts.map toS)) (ts.map toS).length (size cn plan) (places plan) 0)
theorem FIL.below {w w' : World} {F : Nat} {C : Int} {cn : Nat} {A : Option Addr} {ts : List T4} {n c : Nat} {A1 : Option Addr} {plan : List (List Int)} {m1 c1 : Nat} {A2 : Option Addr} {bs : List (List Int)} {m2 c2 : Nat} (h : FIL w F C cn A ts n c A1 plan m1 c1 A2 bs m2 c2) (hb : Below w.heap.size w w') : FIL w' F C cn A ts n c A1 plan m1 c1 A2 bs m2 c2 := by
 obtain ⟨Ap, cp, gc, cc, ga, ca, ⟨k0, k1, k2, k3⟩, k4, k5, k6, k7, k8, k9⟩ := h
 exact ⟨Ap, cp, gc, cc, ga, ca, ⟨cell_to hb k0, cell_to hb k1, cell_to hb k2, cell_to hb k3⟩, cell_to hb k4, cell_to hb k5, cell_to hb k6, k7.below hb, k8.below hb, k9.below hb⟩
theorem AW.same {w0 W W1 : World} {N M F : Nat} {C : Int} {A : Option Addr} {n c : Nat} {A1 : Option Addr} {m1 c1 : Nat} {A2 : Option Addr} {m2 c2 : Nat} {pv : Value} {pw : List Int} {cs : List (List Int)} {ga P1 ca : Nat} {rows : List (List Bool)} {gc m cc : Nat}
 (h : AW w0 W N M F C A n c A1 m1 c1 A2 m2 c2 pv (.slice (some ⟨gc, 0, none⟩) m cc) pw cs ga P1 ca rows) (hk : ∀ k, k < M → W1.heap[k]? = W.heap[k]?) (o : Nat) : W1.cell? ⟨gc, o, none⟩ = W.cell? ⟨gc, o, none⟩ := by
 have h1 : gc < M := (Kd.S_R h.cnt).1 gc (by simp [Value.ownBlock])
 unfold World.cell?
 simp only
 rw [hk gc h1]
theorem rep_form {α : Type} {d : Kd α} {e b : Nat} {w : World} {ok : Nat → Prop} {v : Value} {x : α} {k m : Nat} (h : Kd.S d e w b ok v (List.replicate k x)) (hm : k = m) (hp : 0 < m) : ∃ g c, v = .slice (some ⟨g, 0, none⟩) m c := by
 obtain ⟨g, c_, e, -⟩ := Kd.S_form h (by rw [List.length_replicate]; omega)
 rw [List.length_replicate, hm] at e
 exact ⟨g, c_, e⟩
theorem repR_form {α : Type} {d : Kd α} {e b : Nat} {w : World} {ok : Nat → Prop} {v : Value} {x : α} {k m : Nat} (h : d.R e w b ok v (List.replicate k x)) (hm : k = m) (hp : 0 < m) : ∃ g c, v = .slice (some ⟨g, 0, none⟩) m c := by
 obtain ⟨g, c_, e, -⟩ := Kd.R_form h (by rw [List.length_replicate]; omega)
 rw [List.length_replicate, hm] at e
 exact ⟨g, c_, e⟩
theorem gset {xs : List (List Bool)} {p : Nat} {r : List Bool} (h : p < xs.length) : (xs.set p r).getD p [] = r := by
 simp [List.getD_eq_getElem?_getD, List.getElem?_set_self h]
theorem gset_ne {xs : List (List Bool)} {p q : Nat} {r : List Bool} (h : p ≠ q) : (xs.set p r).getD q [] = xs.getD q [] := by
 simp [List.getD_eq_getElem?_getD, List.getElem?_set_ne h]
theorem bget {xs : List Bool} {p : Nat} {r : Bool} (h : p < xs.length) : (xs.set p r).getD p false = r := by
 simp [List.getD_eq_getElem?_getD, List.getElem?_set_self h]
end Go.Proofs.Ytcaikaflpmaocaa

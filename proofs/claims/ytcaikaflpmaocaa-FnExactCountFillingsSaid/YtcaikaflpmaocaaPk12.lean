/-
  Parts of the proof, in their order: FitsC, FitsE.
-/
import Derived.Test.YtcaikaflpmaocaaPk11
import Derived.Test.YtcaikaflpmaocaaPk8
namespace Go.Proofs.Ytcaikaflpmaocaa
open Go Go.RowKit Go.Proofs Go.Proofs.YtcaikaflpmaocaaW.PrintWords Go.Proofs.YtcaikaflpmaocaaW.PrintLast Go.Proofs.YtcaikaflpmaocaaW.PrintMore Go.Proofs.Ytcaikaflpmaocaa.Q
set_option linter.unusedVariables false
set_option linter.unusedSimpArgs false
def bordB (bs : List (List Int)) (k j : Nat) (v : Int) : Bool := decide (rowLen bs k = 0) || decide (ik (rowAt bs k) j = v)
set_option maxHeartbeats 4000000 in
set_option maxRecDepth 100000 in
theorem border_any (A2 : Option Addr) (bs : List (List Int)) (m2 c2 k j : Nat) (fb F tb : Nat) (v : Int) (w : World) (hm2 : m2 = bs.length) (hA2 : RR w A2 bs) (hm : m2 ≤ 1000) (hk : k < bs.length) (hj : rowLen bs k = 0 ∨ j < rowLen bs k)
    (hf : w.cell? ⟨fb, 0, none⟩ = some (.pointer (some ⟨F, 0, none⟩))) (hF : w.cell? ⟨F, 3, none⟩ = some (.slice A2 m2 c2)) (ht : w.cell? ⟨tb, k, none⟩ = some (.int .i64 v)) (h4 : k < 4) :
    Calls Try.prog 94 #[.int .i64 k, .int .i64 j, .pointer (some ⟨fb, 0, none⟩), .pointer (some ⟨tb, 0, none⟩)] w fun e w' => e = .returned (.bool (bordB bs k j v)) ∧ Below w.heap.size w w' := by
  obtain ⟨bb, bo, BA, bc, rfl, hbb, hb, hbr, -, -⟩ := hA2 k hk
  have lf := World.block_lt_of_cell? w _ hf
  have lF := World.block_lt_of_cell? w _ hF
  have lt := World.block_lt_of_cell? w _ ht
  simp only at lf lF lt
  have j1 : (k : Int) < m2 := by omega
  have j2 : (k : Int) < 4 := by omega
  have j3 : k < 4 := h4
  by_cases h0 : rowLen bs k = 0
  · have H0 := Lib.hid h0
    rw [h0] at hb
    clear h0 hj hbr
    go_enter Try.func94, Try.ntmps94
    go_wp2_with fail
    refine wp_region_gro (by kernel_rfl) (by kernel_rfl) ?_
    repeat (first | go_big_quiet_step (fail) | quiet_step (fail))
    refine wpQuiet_nil ?_
    intro w5 hB5
    go_wp2_with fail
    go_ret
    exact ⟨congrArg (fun b_ => Ending.returned (.bool b_)) (by simp [bordB, H0.out]), hB5⟩
  · obtain ⟨xb, xo, rfl, hxb, hx⟩ := hbr j (by show j < rowLen bs k; omega)
    have j4 : (j : Int) < rowLen bs k := by omega
    have v0 : (((rowLen bs k : Nat) : Int) == 0) = false := by simp; omega
    have v1 : (rowLen bs k == 0) = false := by simp; omega
    have v2 : decide (rowLen bs k = 0) = false := decide_eq_false h0
    have H0 := Lib.hid h0
    clear h0 hj hbr
    go_enter Try.func94, Try.ntmps94
    go_wp2_with fail
    refine wp_region_gro (by kernel_rfl) (by kernel_rfl) ?_
    repeat (first | go_big_quiet_step (fail) | quiet_step (fail))
    refine wpQuiet_nil ?_
    intro w5 hB5
    go_wp2_with fail
    go_ret
    exact ⟨congrArg (fun b_ => Ending.returned (.bool b_)) (by simp [bordB, H0.out]; try rfl), hB5⟩
theorem border_lit (kz : Int) {k : Nat} (hkz : kz = (k : Int)) (A2 : Option Addr) (bs : List (List Int)) (m2 c2 : Nat) (k' : Nat) (j : Nat) (fb F tb : Nat) (v : Int) (w : World) (hm2 : m2 = bs.length) (hA2 : RR w A2 bs) (hm : m2 ≤ 1000) (hk : k < bs.length) (hj : rowLen bs k = 0 ∨ j < rowLen bs k)
    (hf : w.cell? ⟨fb, 0, none⟩ = some (.pointer (some ⟨F, 0, none⟩))) (hF : w.cell? ⟨F, 3, none⟩ = some (.slice A2 m2 c2)) (ht : w.cell? ⟨tb, k, none⟩ = some (.int .i64 v)) (h4 : k < 4) :
    Calls Try.prog 94 #[.int .i64 kz, .int .i64 j, .pointer (some ⟨fb, 0, none⟩), .pointer (some ⟨tb, 0, none⟩)] w fun e w' => e = .returned (.bool (bordB bs k j v)) ∧ Below w.heap.size w w' := by
  subst hkz; exact border_any A2 bs m2 c2 k j fb F tb v w hm2 hA2 hm hk hj hf hF ht h4
set_option maxHeartbeats 4000000 in
set_option maxRecDepth 100000 in
theorem digit_any (A3 : Option Addr) (pw : List Int) (m3 c3 k : Nat) (sb fb F cb : Nat) (s C p : Int) (w : World) (hm3 : m3 = pw.length) (hA3 : RI w A3 pw) (hm : m3 ≤ 1000) (hk : k < pw.length)
    (hs : w.cell? ⟨sb, 0, none⟩ = some (.int .i64 s)) (hf : w.cell? ⟨fb, 0, none⟩ = some (.pointer (some ⟨F, 0, none⟩))) (hF : w.cell? ⟨F, 4, none⟩ = some (.slice A3 m3 c3)) (hC : w.cell? ⟨cb, 0, none⟩ = some (.int .i64 C))
    (hp : ik pw k = p) (hp0 : p ≠ 0) (hC0 : C ≠ 0) :
    Calls Try.prog 95 #[.int .i64 k, .pointer (some ⟨sb, 0, none⟩), .pointer (some ⟨fb, 0, none⟩), .pointer (some ⟨cb, 0, none⟩)] w fun e w' => e = .returned (.int .i64 (Int.tmod (wrap64 (Int.tdiv s p)) C)) ∧ Below w.heap.size w w' := by
  obtain ⟨bb, bo, rfl, hbb, hb⟩ := hA3 k hk
  have ls := World.block_lt_of_cell? w _ hs
  have lf := World.block_lt_of_cell? w _ hf
  have lF := World.block_lt_of_cell? w _ hF
  have lc := World.block_lt_of_cell? w _ hC
  simp only at ls lf lF lc
  rw [hp] at hb
  have j1 : (k : Int) < m3 := by omega
  have v1 : (p == 0) = false := by simp [hp0]
  have v2 : (C == 0) = false := by simp [hC0]
  clear hp
  go_enter Try.func95, Try.ntmps95
  go_wp2_with fail
  refine wp_region_gro (by kernel_rfl) (by kernel_rfl) ?_
  repeat (first | go_big_quiet_step (fail) | quiet_step (fail))
  refine wpQuiet_nil ?_
  intro w5 hB5
  go_wp2_with fail
  go_ret
  refine ⟨?_, hB5⟩
  rfl
end Go.Proofs.Ytcaikaflpmaocaa
namespace Go.Proofs.Ytcaikaflpmaocaa
open Go Go.RowKit Go.Proofs Go.Proofs.YtcaikaflpmaocaaW.PrintWords Go.Proofs.Ytcaikaflpmaocaa.Q
set_option linter.unusedVariables false
set_option linter.unusedSimpArgs false
def shapeB (plan bs : List (List Int)) : Bool :=
  decide (1 ≤ plan.length) && decide (plan.length ≤ 5) && decide (1 ≤ rowLen plan 0) && decide (rowLen plan 0 ≤ 5) && (List.range plan.length).all (fun y => decide (rowLen plan y = rowLen plan 0)) && decide (bs.length = 4) &&
    (List.range 4).all (fun k => decide (rowLen bs k = 0) || decide (rowLen bs k = if k % 2 = 1 then rowLen plan 0 else plan.length))
theorem shape_of {plan bs : List (List Int)} (h : shapeB plan bs = true) : Shape plan bs := by
  simp only [shapeB, Bool.and_eq_true, decide_eq_true_eq, List.all_eq_true, List.mem_range, Bool.or_eq_true] at h
  obtain ⟨⟨⟨⟨⟨⟨h1, h5⟩, w1⟩, w5⟩, hl⟩, h4⟩, hb⟩ := h
  exact ⟨h1, h5, w1, w5, hl, h4, hb⟩
theorem shapeB_of {plan bs : List (List Int)} (h : Shape plan bs) : shapeB plan bs = true := by
  simp only [shapeB, Bool.and_eq_true, decide_eq_true_eq, List.all_eq_true, List.mem_range, Bool.or_eq_true]
  exact ⟨⟨⟨⟨⟨⟨h.h1, h.h5⟩, h.w1⟩, h.w5⟩, h.len⟩, h.four⟩, h.bl⟩
def placeB (n : Nat) (plan : List (List Int)) (y x i : Int) : Bool := decide (0 ≤ y ∧ y < plan.length) && decide (0 ≤ x ∧ x < rowLen plan 0) && decide (0 ≤ i ∧ i < n)
end Go.Proofs.Ytcaikaflpmaocaa
namespace Go.Proofs.Ytcaikaflpmaocaa.Q
open Go Go.RowKit Go.Proofs Go.Proofs.YtcaikaflpmaocaaW.PrintWords Go.Proofs.Ytcaikaflpmaocaa
set_option linter.unusedVariables false
set_option linter.unusedSimpArgs false
def spec_l03Fits.f (a0_0 : Int) (l0_1 : List STile) (l1 l2 : List (List Int)) (a3 a4 a5 : Int) : Option Bool :=
  if (decide (l0_1.length ≤ 1000000) && shapeB l1 l2 && placeB l0_1.length l1 a3 a4 a5) = true then some (fitB (l0_1.map toT) l1 l2 a3.toNat a4.toNat a5.toNat) else none
theorem spec_l03Fits.calls (a0_0 : Int) (A0_1 : Option Addr) (c0_1 : Nat) (l0_1 : List STile) (A1 : Option Addr) (c1 : Nat) (l1 : List (List Int)) (A2 : Option Addr) (c2 : Nat) (l2 : List (List Int)) (a3 a4 a5 : Int) (r : Bool) (w : World) (hr0_1 : Kd.C k85 w A0_1 l0_1.length l0_1) (hc0_1 : l0_1.length ≤ c0_1) (hr1 : Kd.C (Kd.slice 2 (Kd.int .i64)) w A1 l1.length l1) (hc1 : l1.length ≤ c1) (hr2 : Kd.C (Kd.slice 2 (Kd.int .i64)) w A2 l2.length l2) (hc2 : l2.length ≤ c2) (h : spec_l03Fits.f a0_0 l0_1 l1 l2 a3 a4 a5 = some r) :
    Calls Try.prog 77 #[.agg #[.int .i64 a0_0, .slice A0_1 l0_1.length c0_1], .slice A1 l1.length c1, .slice A2 l2.length c2, .int .i64 a3, .int .i64 a4, .int .i64 a5] w fun e w' => e = .returned (.bool r) ∧ Below w.heap.size w w' := by
  unfold spec_l03Fits.f at h
  split at h
  · rename_i hl
    simp only [Bool.and_eq_true, decide_eq_true_eq, placeB] at hl
    obtain ⟨⟨h1, h2⟩, ⟨⟨y0, y1⟩, x0, x1⟩, i0, i1⟩ := hl
    obtain rfl := Option.some.inj h
    have h3 := fits_any a0_0 A0_1 (l0_1.map toT) l0_1.length c0_1 A1 l1 l1.length c1 A2 l2 l2.length c2 a3.toNat a4.toNat a5.toNat w (by simp) (rt_of_C hr0_1) h1 rfl (rr_of_C hr1) rfl (rr_of_C hr2) (shape_of h2) (by omega) (by omega) (by simp; omega)
    rw [Int.toNat_of_nonneg y0, Int.toNat_of_nonneg x0, Int.toNat_of_nonneg i0] at h3
    exact h3
  · cases h
end Go.Proofs.Ytcaikaflpmaocaa.Q

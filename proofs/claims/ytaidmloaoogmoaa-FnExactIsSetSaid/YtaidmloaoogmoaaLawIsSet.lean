/-
  The walk of the law FnExactIsSet.
-/
import Derived.Test.YtaidmloaoogmoaaIsSet2
import Derived.Deep.RegionHeld3
namespace Go.Proofs.Ytaidmloaoogmoaa
open Go Go.RowKit Go.Proofs
set_option linter.unusedVariables false
set_option linter.unusedSimpArgs false

set_option maxHeartbeats 4000000 in
theorem lawIsSet_any (w : World) (C : Int) (A : Option Addr) (ts : List T4) (n c : Nat) (hn : n = ts.length) (hA : RT w A ts) (hnc : n ≤ c) (hl : n ≤ 35184372088832) (hC : -9223372036854775808 ≤ C ∧ C ≤ 9223372036854775807) :
    Calls Try.prog 4 #[.agg #[.int .i64 C, .slice A n c]] w fun e w' => e = .returned (.bool true) ∧ Below w.heap.size w w' := by
  have HA := Lib.hid hA; have HN := Lib.hid hn; clear hA hn
  by_cases hbig : (1048576 : Int) < n
  · go_enter Try.func4, Try.ntmps4
    go_wp2_with fail
    refine namec1 ?_
    intro W1 b1 hz hb0
    refine (szSet_any C A n c 1048576 W1 hl (by omega) (by omega)).mono ?_
    rintro e w1 ⟨rfl, hB1⟩
    rw [if_pos hbig]
    have HB := Lib.hid (below_to hb0 hB1); clear hB1 hb0 hz b1
    go_wp2_with fail
    go_ret
    exact ⟨rfl, HB.out⟩
  · have hs : ts.length ≤ 1048576 := by have := HN.out; omega
    have hs' : 0 ≤ 1048576 - (n : Int) := by omega
    go_enter Try.func4, Try.ntmps4
    go_wp2_with fail
    refine namec1 ?_
    intro W1 b1 hz hb0
    refine (szSet_any C A n c 1048576 W1 hl (by omega) (by omega)).mono ?_
    rintro e w1 ⟨rfl, hB1⟩
    rw [if_neg (show ¬ (1048576 : Int) < n by omega)]
    have b1a := b1.below hB1 b1.lt
    have HB1 := Lib.hid (below_to hb0 hB1); clear hB1 hb0 hz b1
    have a0 : w1.cell? ⟨w.heap.size, 0, none⟩ = some (.int .i64 C) := b1a.cell rfl
    have a1 : w1.cell? ⟨w.heap.size, 1, none⟩ = some (.slice A n c) := b1a.cell rfl
    go_wp2_with fail
    refine (toSet_any C A ts n c w1 HN.out (HA.out.below HB1.out) hs).mono ?_
    rintro e w2 ⟨v2, rfl, hO2, hB2⟩
    obtain ⟨A2, c2, rfl, hR2, -⟩ := hO2.reads
    have b1b := b1a.below hB2 b1a.lt
    have HB2 := Lib.hid (below_to HB1.out hB2); clear hB2 b1a a0 a1 hO2
    have a0 : w2.cell? ⟨w.heap.size, 0, none⟩ = some (.int .i64 C) := b1b.cell rfl
    have a1 : w2.cell? ⟨w.heap.size, 1, none⟩ = some (.slice A n c) := b1b.cell rfl
    go_wp2_with fail
    refine (specIsSet_any C A2 ts _ c2 w2 rfl hR2 (by omega)).mono ?_
    rintro e w3 ⟨rfl, hB3⟩
    have b1c := b1b.below hB3 b1b.lt
    have HB3 := Lib.hid (below_to HB2.out hB3); clear hB3 b1b a0 a1 hR2
    have a0 : w3.cell? ⟨w.heap.size, 0, none⟩ = some (.int .i64 C) := b1c.cell rfl
    have a1 : w3.cell? ⟨w.heap.size, 1, none⟩ = some (.slice A n c) := b1c.cell rfl
    go_wp2_with fail
    refine (toSet_any C A ts n c w3 HN.out (HA.out.below HB3.out) hs).mono ?_
    rintro e w4 ⟨v4, rfl, hO4, hB4⟩
    obtain ⟨A4, c4, rfl, hR4, -⟩ := hO4.reads
    have b1d := b1c.below hB4 b1c.lt
    have HB4 := Lib.hid (below_to HB3.out hB4); clear hB4 b1c a0 a1 hO4
    have a0 : w4.cell? ⟨w.heap.size, 0, none⟩ = some (.int .i64 C) := b1d.cell rfl
    have a1 : w4.cell? ⟨w.heap.size, 1, none⟩ = some (.slice A n c) := b1d.cell rfl
    generalize hv : isS C ts = bv
    have HV := Lib.hid hv; clear hv
    have hbv : (bv != bv) = false := by simp
    go_wp2_with fail
    refine namec1 ?_
    intro W5 b5 hz hB5
    have b1e := b1d.below hB5 b1d.lt
    have HR4 := Lib.hid (hR4.below hB5)
    have HB5 := Lib.hid (below_to HB4.out hB5); clear hB5 b1d a0 a1 hR4 hz
    refine (IsSet_any C A4 ts _ c4 W5 rfl HR4.out (by omega)).mono ?_
    rintro e w6 ⟨rfl, hB6⟩
    rw [HV.out]
    have b1f := b1e.below hB6 b1e.lt
    have b5f := b5.below hB6 b5.lt
    have HR6 := Lib.hid (HR4.out.below hB6)
    have HB6 := Lib.hid (below_to HB5.out hB6); clear hB6 b1e b5 HR4
    have a0 : w6.cell? ⟨w.heap.size, 0, none⟩ = some (.int .i64 C) := b1f.cell rfl
    have a1 : w6.cell? ⟨w.heap.size, 1, none⟩ = some (.slice A n c) := b1f.cell rfl
    have x0 : w6.cell? ⟨w4.heap.size, 0, none⟩ = some (.int .i64 C) := b5f.cell rfl
    have x1 : w6.cell? ⟨w4.heap.size, 1, none⟩ = some (.slice A4 ts.length c4) := b5f.cell rfl
    go_wp2_with fail
    go_region_held3 (fun w' => w'.cell? ⟨w.heap.size, 0, none⟩ = some (.int .i64 C) ∧ w'.cell? ⟨w.heap.size, 1, none⟩ = some (.slice A n c) ∧ w'.cell? ⟨w4.heap.size, 0, none⟩ = some (.int .i64 C) ∧ w'.cell? ⟨w4.heap.size, 1, none⟩ = some (.slice A4 ts.length c4)) (first | exact ⟨a0, a1, x0, x1⟩ | exact ⟨a08, a18, x08, x18⟩ | exact ⟨a07, a17, x07, x17⟩)
      (first
        | (go_at_call 17; refine (toSet_any C A ts n c _ HN.out (HA.out.below (by exact HB6.out.drew)) hs).mono ?_; rintro e w7 ⟨v7, rfl, hO7, hB7⟩; obtain ⟨A7, c7, rfl, hR7, -⟩ := hO7.reads; have a07 := cell_to hB7 a0; have a17 := cell_to hB7 a1; have x07 := cell_to hB7 x0; have x17 := cell_to hB7 x1; have HR7 := Lib.hid hR7; have HS7 := Lib.hid (HR6.out.below (w := w6.drew) hB7); have HB7 := Lib.hid (HB6.out.drew.trans (hB7.mono HB6.out.size)); clear hB7 hO7 hR7)
        | (go_at_call 19; refine (eqSet_any C C A4 A7 ts ts _ _ c4 c7 _ rfl rfl HS7.out HR7.out (by omega) (by omega)).mono ?_; rintro e w8 ⟨rfl, hB8⟩; have a08 := cell_to hB8 a07; have a18 := cell_to hB8 a17; have x08 := cell_to hB8 x07; have x18 := cell_to hB8 x17; have HB8 := Lib.hid (below_to HB7.out hB8); clear hB8; simp only [decide_true, Bool.and_self]))
    go_wp2_with fail
    go_ret
    exact ⟨rfl, HB8.out⟩
end Go.Proofs.Ytaidmloaoogmoaa

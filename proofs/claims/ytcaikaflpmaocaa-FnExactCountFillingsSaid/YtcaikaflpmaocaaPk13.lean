/-
  Parts of the proof, in their order: QSpecL03Layers.
-/
import Derived.Test.YtcaikaflpmaocaaPk7
import Derived.Test.YtcaikaflpmaocaaPk12
namespace Go.Proofs.Ytcaikaflpmaocaa.Q
open Go.RowKit Go.Proofs.YtcaikaflpmaocaaW.PrintWords Go.Proofs.YtcaikaflpmaocaaW.PrintLast Go.Proofs.YtcaikaflpmaocaaW.PrintMore
attribute [local go_sem] max2_int min2_int max_two min_two max_three min_three max_four min_four
set_option linter.unusedVariables false
set_option linter.unusedSimpArgs false
abbrev spec_l03Layers.z0 : Array Bool := #[false, false, false, false, false, false, false, false, false, false, false, false, false, false, false, false, false, false]
abbrev spec_l03Layers.z1 : Array Bool := #[true, false, false, false, false, false, false, false, false, false, false, false, false, false, false, false, false, false]
abbrev spec_l03Layers.z2 : Array Bool := #[true, true, false, false, false, false, false, false, false, false, false, false, false, false, false, false, false, false]
abbrev spec_l03Layers.z3 : Array Bool := #[false, false, false, false, false, false, false, false, false, false]
abbrev spec_l03Layers.z4 : Array Bool := #[true, true, true, false, false, false, false, false, false, false, false, false, false, false, false, false, false, false]
abbrev spec_l03Layers.z5 : Array Bool := #[true, true, true, true, false, false, false, false, false, false, false, false, false, false, false, false, false, false]
abbrev spec_l03Layers.z6 : Array Bool := #[true, false, false, false, false, false, false, false, false, false]
abbrev spec_l03Layers.z7 : Array Bool := #[true, true, true, true, true, false, false, false, false, false, false, false, false, false, false, false, false, false]
abbrev spec_l03Layers.z8 : Array Bool := #[true, true, true, true, true, false, true, false, false, false, false, false, false, false, false, false, false, false]
abbrev spec_l03Layers.z9 : Array Bool := #[true, true, false, false, false, false, false, false, false, false]
abbrev spec_l03Layers.z10 : Array Bool := #[true, true, true, true, true, false, true, true, false, false, false, false, false, false, false, false, false, false]
abbrev spec_l03Layers.z11 : Array Bool := #[true, true, true, false, false, false, false, false, false, false]
abbrev spec_l03Layers.z12 : Array Bool := #[true, true, true, true, true, false, true, true, true, false, false, false, false, false, false, false, false, false]
abbrev spec_l03Layers.z13 : Array Bool := #[true, true, true, true, true, false, true, true, true, true, false, false, false, false, false, false, false, false]
abbrev spec_l03Layers.z14 : Array Bool := #[true, true, true, true, false, false, false, false, false, false]
abbrev spec_l03Layers.z15 : Array Bool := #[true, true, true, true, true, false, true, true, true, true, false, true, false, false, false, false, false, false]
abbrev spec_l03Layers.z16 : Array Bool := #[true, true, true, true, true, true, true, true, true, true, false, true, false, false, false, false, false, false]
abbrev spec_l03Layers.z17 : Array Bool := #[true, true, true, true, true, false, false, false, false, false]
abbrev spec_l03Layers.z18 : Array Bool := #[true, true, true, true, true, true, true, true, true, true, true, true, false, false, false, false, false, false]
abbrev spec_l03Layers.z19 : Array Bool := #[true, true, true, true, true, true, true, true, true, true, true, true, true, false, false, false, false, false]
abbrev spec_l03Layers.z20 : Array Bool := #[true, true, true, true, true, true, false, false, false, false]
abbrev spec_l03Layers.z21 : Array Bool := #[true, true, true, true, true, true, true, true, true, true, true, true, true, true, false, false, false, false]
abbrev spec_l03Layers.z22 : Array Bool := #[true, true, true, true, true, true, true, false, false, false]
abbrev spec_l03Layers.z23 : Array Bool := #[true, true, true, true, true, true, true, true, true, true, true, true, true, true, true, false, false, false]
abbrev spec_l03Layers.z24 : Array Bool := #[true, true, true, true, true, true, true, true, true, true, true, true, true, true, true, true, false, false]
abbrev spec_l03Layers.z25 : Array Bool := #[true, true, true, true, true, true, true, true, false, false]
abbrev spec_l03Layers.z26 : Array Bool := #[true, true, true, true, true, true, true, true, true, true, true, true, true, true, true, true, true, false]
abbrev spec_l03Layers.z27 : Array Bool := #[true, true, true, true, true, true, true, true, true, true, true, true, true, true, true, true, true, true]
abbrev spec_l03Layers.z28 : Array Bool := #[true, true, true, true, true, true, true, true, true, false]
abbrev spec_l03Layers.z29 : Array Bool := #[true, true, true, true, true, true, true, true, true, true]
mutual
def spec_l03Layers.l0 : Nat → List (List Int) → List (List Int) → Int → Int → Int → Int → List Int → Int → Int → Int → List (S85) → Option ((List (List Int)))
 | 0, _, _, _, _, _, _, _, _, _, _, _ => none
 | k + 1, x1, x2, x7, x8, x9, x10, x11, x41, x42, x138000, x138001 => if x42 < x41 then (if 0 ≤ x42 then (if x42 < (x11.length : Int) then (spec_l03Layers.l0 k x1 x2 x7 x8 x9 x10 (x11.set (x42 : Int).toNat 1) x41 (wrap64 (x42 + 1)) x138000 x138001) else (none)) else (none)) else (if 0 ≤ (wrap64 ((wrap64 (x7 * x8)) + 1)) then (if (wrap64 ((wrap64 (x7 * x8)) + 1) : Int).toNat ≤ 11728124029610 then ((some (List.replicate (wrap64 ((wrap64 (x7 * x8)) + 1) : Int).toNat [] : List (List Int))).bind fun y144 => (if 0 ≤ (wrap64 (x7 * x8)) then (if (wrap64 (x7 * x8)) < (y144.length : Int) then ((spec_l03Power.f k x9 x8).bind fun t148 => (spec_l03Layers.l1 k x1 x2 x8 x9 x10 (y144.set ((wrap64 (x7 * x8)) : Int).toNat x11) t148 (wrap64 ((wrap64 (x7 * x8)) - 1)) x138000 x138001)) else (none)) else (none))) else (none)) else (none))
def spec_l03Layers.l1 : Nat → List (List Int) → List (List Int) → Int → Int → Int → List (List Int) → Int → Int → Int → List (S85) → Option ((List (List Int)))
 | 0, _, _, _, _, _, _, _, _, _, _ => none
 | k + 1, x1, x2, x8, x9, x10, x13, x14, x15, x138000, x138001 => if x15 ≥ 0 then (if x8 = 0 then (none) else (if 0 ≤ x10 then (if (x10 : Int).toNat ≤ 35184372088832 then ((spec_l03Power.f k x9 (Int.tmod x15 x8)).bind fun t152 => (spec_l03Layers.l2 k x1 x2 x8 x9 x10 x13 x14 x15 (wrap64 (Int.tdiv x15 x8)) (Int.tmod x15 x8) (List.replicate (x10 : Int).toNat 0) t152 0 x138000 x138001)) else (none)) else (none))) else (some x13)
def spec_l03Layers.l2 : Nat → List (List Int) → List (List Int) → Int → Int → Int → List (List Int) → Int → Int → Int → Int → List Int → Int → Int → Int → List (S85) → Option ((List (List Int)))
 | 0, _, _, _, _, _, _, _, _, _, _, _, _, _, _, _ => none
 | k + 1, x1, x2, x8, x9, x10, x13, x14, x15, x16, x17, x18, x19, x20, x138000, x138001 => if x20 < (x138001.length : Int) then ((spec_l03Fits.f x138000 x138001 x1 x2 x16 x17 x20).bind fun t154 => (if t154 = true then (if 0 ≤ x20 then (spec_l03Layers.l3 k x1 x2 x8 x9 x10 x13 x14 x15 x16 x17 x18 x19 x20 0 x138000 x138001 ((rd_T85 x138001 x20).f0) ((rd_T85 x138001 x20).f1) ((rd_T85 x138001 x20).f2) ((rd_T85 x138001 x20).f3)) else (none)) else (spec_l03Layers.l2 k x1 x2 x8 x9 x10 x13 x14 x15 x16 x17 x18 x19 (wrap64 (x20 + 1)) x138000 x138001))) else (if 0 ≤ x15 then (if x15 < (x13.length : Int) then (spec_l03Layers.l1 k x1 x2 x8 x9 x10 (x13.set (x15 : Int).toNat x18) x14 (wrap64 (x15 - 1)) x138000 x138001) else (none)) else (none))
def spec_l03Layers.l3 : Nat → List (List Int) → List (List Int) → Int → Int → Int → List (List Int) → Int → Int → Int → Int → List Int → Int → Int → Int → Int → List (S85) → Int → Int → Int → Int → Option ((List (List Int)))
 | 0, _, _, _, _, _, _, _, _, _, _, _, _, _, _, _, _, _, _, _, _ => none
 | k + 1, x1, x2, x8, x9, x10, x13, x14, x15, x16, x17, x18, x19, x20, x22, x138000, x138001, x157000, x157001, x157002, x157003 => if x22 < x10 then (if x19 = 0 then (none) else (if x9 = 0 then (none) else (if x14 = 0 then (none) else (if x16 > 0 then (if (Int.tmod (wrap64 (Int.tdiv x22 x19)) x9) = x157001 then (if x17 > 0 then (if (wrap64 (Int.tdiv x22 x14)) = x157000 then (if 0 ≤ x22 then (if x22 < (x18.length : Int) then (if 0 ≤ (wrap64 (x15 + 1)) then (if (wrap64 (x15 + 1)) < (x13.length : Int) then (if 0 ≤ (wrap64 ((wrap64 (x22 + (wrap64 ((wrap64 (x157003 - (Int.tmod (wrap64 (Int.tdiv x22 x19)) x9))) * x19)))) + (wrap64 ((wrap64 (x157002 - (wrap64 (Int.tdiv x22 x14)))) * x14)))) then (if (wrap64 ((wrap64 (x22 + (wrap64 ((wrap64 (x157003 - (Int.tmod (wrap64 (Int.tdiv x22 x19)) x9))) * x19)))) + (wrap64 ((wrap64 (x157002 - (wrap64 (Int.tdiv x22 x14)))) * x14)))) < ((rd_L1 x13 (wrap64 (x15 + 1))).length : Int) then (spec_l03Layers.l3 k x1 x2 x8 x9 x10 x13 x14 x15 x16 x17 (x18.set (x22 : Int).toNat (mn (wrap64 ((rd x18 x22) + (rd (rd_L1 x13 (wrap64 (x15 + 1))) (wrap64 ((wrap64 (x22 + (wrap64 ((wrap64 (x157003 - (Int.tmod (wrap64 (Int.tdiv x22 x19)) x9))) * x19)))) + (wrap64 ((wrap64 (x157002 - (wrap64 (Int.tdiv x22 x14)))) * x14))))))) 1000000000000001)) x19 x20 (wrap64 (x22 + 1)) x138000 x138001 x157000 x157001 x157002 x157003) else (none)) else (none)) else (none)) else (none)) else (none)) else (none)) else (spec_l03Layers.l3 k x1 x2 x8 x9 x10 x13 x14 x15 x16 x17 x18 x19 x20 (wrap64 (x22 + 1)) x138000 x138001 x157000 x157001 x157002 x157003)) else (if 0 ≤ x22 then (if x22 < (x18.length : Int) then (if 0 ≤ (wrap64 (x15 + 1)) then (if (wrap64 (x15 + 1)) < (x13.length : Int) then (if 0 ≤ (wrap64 ((wrap64 (x22 + (wrap64 ((wrap64 (x157003 - (Int.tmod (wrap64 (Int.tdiv x22 x19)) x9))) * x19)))) + (wrap64 ((wrap64 (x157002 - (wrap64 (Int.tdiv x22 x14)))) * x14)))) then (if (wrap64 ((wrap64 (x22 + (wrap64 ((wrap64 (x157003 - (Int.tmod (wrap64 (Int.tdiv x22 x19)) x9))) * x19)))) + (wrap64 ((wrap64 (x157002 - (wrap64 (Int.tdiv x22 x14)))) * x14)))) < ((rd_L1 x13 (wrap64 (x15 + 1))).length : Int) then (spec_l03Layers.l3 k x1 x2 x8 x9 x10 x13 x14 x15 x16 x17 (x18.set (x22 : Int).toNat (mn (wrap64 ((rd x18 x22) + (rd (rd_L1 x13 (wrap64 (x15 + 1))) (wrap64 ((wrap64 (x22 + (wrap64 ((wrap64 (x157003 - (Int.tmod (wrap64 (Int.tdiv x22 x19)) x9))) * x19)))) + (wrap64 ((wrap64 (x157002 - (wrap64 (Int.tdiv x22 x14)))) * x14))))))) 1000000000000001)) x19 x20 (wrap64 (x22 + 1)) x138000 x138001 x157000 x157001 x157002 x157003) else (none)) else (none)) else (none)) else (none)) else (none)) else (none))) else (spec_l03Layers.l3 k x1 x2 x8 x9 x10 x13 x14 x15 x16 x17 x18 x19 x20 (wrap64 (x22 + 1)) x138000 x138001 x157000 x157001 x157002 x157003)) else (if x17 > 0 then (if (wrap64 (Int.tdiv x22 x14)) = x157000 then (if 0 ≤ x22 then (if x22 < (x18.length : Int) then (if 0 ≤ (wrap64 (x15 + 1)) then (if (wrap64 (x15 + 1)) < (x13.length : Int) then (if 0 ≤ (wrap64 ((wrap64 (x22 + (wrap64 ((wrap64 (x157003 - (Int.tmod (wrap64 (Int.tdiv x22 x19)) x9))) * x19)))) + (wrap64 ((wrap64 (x157002 - (wrap64 (Int.tdiv x22 x14)))) * x14)))) then (if (wrap64 ((wrap64 (x22 + (wrap64 ((wrap64 (x157003 - (Int.tmod (wrap64 (Int.tdiv x22 x19)) x9))) * x19)))) + (wrap64 ((wrap64 (x157002 - (wrap64 (Int.tdiv x22 x14)))) * x14)))) < ((rd_L1 x13 (wrap64 (x15 + 1))).length : Int) then (spec_l03Layers.l3 k x1 x2 x8 x9 x10 x13 x14 x15 x16 x17 (x18.set (x22 : Int).toNat (mn (wrap64 ((rd x18 x22) + (rd (rd_L1 x13 (wrap64 (x15 + 1))) (wrap64 ((wrap64 (x22 + (wrap64 ((wrap64 (x157003 - (Int.tmod (wrap64 (Int.tdiv x22 x19)) x9))) * x19)))) + (wrap64 ((wrap64 (x157002 - (wrap64 (Int.tdiv x22 x14)))) * x14))))))) 1000000000000001)) x19 x20 (wrap64 (x22 + 1)) x138000 x138001 x157000 x157001 x157002 x157003) else (none)) else (none)) else (none)) else (none)) else (none)) else (none)) else (spec_l03Layers.l3 k x1 x2 x8 x9 x10 x13 x14 x15 x16 x17 x18 x19 x20 (wrap64 (x22 + 1)) x138000 x138001 x157000 x157001 x157002 x157003)) else (if 0 ≤ x22 then (if x22 < (x18.length : Int) then (if 0 ≤ (wrap64 (x15 + 1)) then (if (wrap64 (x15 + 1)) < (x13.length : Int) then (if 0 ≤ (wrap64 ((wrap64 (x22 + (wrap64 ((wrap64 (x157003 - (Int.tmod (wrap64 (Int.tdiv x22 x19)) x9))) * x19)))) + (wrap64 ((wrap64 (x157002 - (wrap64 (Int.tdiv x22 x14)))) * x14)))) then (if (wrap64 ((wrap64 (x22 + (wrap64 ((wrap64 (x157003 - (Int.tmod (wrap64 (Int.tdiv x22 x19)) x9))) * x19)))) + (wrap64 ((wrap64 (x157002 - (wrap64 (Int.tdiv x22 x14)))) * x14)))) < ((rd_L1 x13 (wrap64 (x15 + 1))).length : Int) then (spec_l03Layers.l3 k x1 x2 x8 x9 x10 x13 x14 x15 x16 x17 (x18.set (x22 : Int).toNat (mn (wrap64 ((rd x18 x22) + (rd (rd_L1 x13 (wrap64 (x15 + 1))) (wrap64 ((wrap64 (x22 + (wrap64 ((wrap64 (x157003 - (Int.tmod (wrap64 (Int.tdiv x22 x19)) x9))) * x19)))) + (wrap64 ((wrap64 (x157002 - (wrap64 (Int.tdiv x22 x14)))) * x14))))))) 1000000000000001)) x19 x20 (wrap64 (x22 + 1)) x138000 x138001 x157000 x157001 x157002 x157003) else (none)) else (none)) else (none)) else (none)) else (none)) else (none))))))) else (spec_l03Layers.l2 k x1 x2 x8 x9 x10 x13 x14 x15 x16 x17 x18 x19 (wrap64 (x20 + 1)) x138000 x138001)
end
def spec_l03Layers.f (k : Nat) (a0_0 : Int) (l0_1 : List (S85)) (l1 : List (List Int)) (l2 : List (List Int)) : Option ((List (List Int))) := if 0 < (l1.length : Int) then ((spec_l03Power.f k a0_0 (wrap64 (((rd_L1 l1 0).length : Int) + 1))).bind fun t139 => (if 0 ≤ t139 then (if (t139 : Int).toNat ≤ 35184372088832 then ((some (List.replicate (t139 : Int).toNat 0 : List Int)).bind fun y140 => (spec_l03Layers.l0 k l1 l2 (l1.length : Int) ((rd_L1 l1 0).length : Int) a0_0 t139 y140 (y140.length : Int) 0 a0_0 l0_1)) else (none)) else (none))) else (none)
theorem spec_l03Layers.mono_l : ∀ k, (∀ y0 y1 y2 y3 y4 y5 y6 y7 y8 y9 y10, LeO (spec_l03Layers.l0 k y0 y1 y2 y3 y4 y5 y6 y7 y8 y9 y10) (spec_l03Layers.l0 (k + 1) y0 y1 y2 y3 y4 y5 y6 y7 y8 y9 y10)) ∧ (∀ y0 y1 y2 y3 y4 y5 y6 y7 y8 y9, LeO (spec_l03Layers.l1 k y0 y1 y2 y3 y4 y5 y6 y7 y8 y9) (spec_l03Layers.l1 (k + 1) y0 y1 y2 y3 y4 y5 y6 y7 y8 y9)) ∧ (∀ y0 y1 y2 y3 y4 y5 y6 y7 y8 y9 y10 y11 y12 y13 y14, LeO (spec_l03Layers.l2 k y0 y1 y2 y3 y4 y5 y6 y7 y8 y9 y10 y11 y12 y13 y14) (spec_l03Layers.l2 (k + 1) y0 y1 y2 y3 y4 y5 y6 y7 y8 y9 y10 y11 y12 y13 y14)) ∧ (∀ y0 y1 y2 y3 y4 y5 y6 y7 y8 y9 y10 y11 y12 y13 y14 y15 y16 y17 y18 y19, LeO (spec_l03Layers.l3 k y0 y1 y2 y3 y4 y5 y6 y7 y8 y9 y10 y11 y12 y13 y14 y15 y16 y17 y18 y19) (spec_l03Layers.l3 (k + 1) y0 y1 y2 y3 y4 y5 y6 y7 y8 y9 y10 y11 y12 y13 y14 y15 y16 y17 y18 y19))
 | 0 => ⟨fun _ _ _ _ _ _ _ _ _ _ _ r h => by simp [spec_l03Layers.l0] at h, fun _ _ _ _ _ _ _ _ _ _ r h => by simp [spec_l03Layers.l1] at h, fun _ _ _ _ _ _ _ _ _ _ _ _ _ _ _ r h => by simp [spec_l03Layers.l2] at h, fun _ _ _ _ _ _ _ _ _ _ _ _ _ _ _ _ _ _ _ _ r h => by simp [spec_l03Layers.l3] at h⟩
 | k + 1 => by
  obtain ⟨ih0, ih1, ih2, ih3⟩ := spec_l03Layers.mono_l k
  refine ⟨?_, ?_, ?_, ?_⟩
  ·intro y0 y1 y2 y3 y4 y5 y6 y7 y8 y9 y10
   unfold spec_l03Layers.l0
   repeat' first
   | (with_reducible exact ih0 _ _ _ _ _ _ _ _ _ _ _)
   | (with_reducible exact ih1 _ _ _ _ _ _ _ _ _ _)
   | (with_reducible exact ih2 _ _ _ _ _ _ _ _ _ _ _ _ _ _ _)
   | (with_reducible exact ih3 _ _ _ _ _ _ _ _ _ _ _ _ _ _ _ _ _ _ _ _)
   | (with_reducible exact spec_l03Power.mono _ _ _)
   | (with_reducible exact LeO.refl _)
   | (with_reducible exact LeO.none _)
   | (with_reducible refine LeO.ite ?_ ?_)
   | (with_reducible refine LeO.bind ?_ (fun _ => ?_))
   | exact ih0 _ _ _ _ _ _ _ _ _ _ _
   | exact ih1 _ _ _ _ _ _ _ _ _ _
   | exact ih2 _ _ _ _ _ _ _ _ _ _ _ _ _ _ _
   | exact ih3 _ _ _ _ _ _ _ _ _ _ _ _ _ _ _ _ _ _ _ _
   | exact spec_l03Power.mono _ _ _
   | exact LeO.none _
   | refine LeO.ite ?_ ?_
   | refine LeO.bind ?_ (fun _ => ?_)
  ·intro y0 y1 y2 y3 y4 y5 y6 y7 y8 y9
   unfold spec_l03Layers.l1
   repeat' first
   | (with_reducible exact ih0 _ _ _ _ _ _ _ _ _ _ _)
   | (with_reducible exact ih1 _ _ _ _ _ _ _ _ _ _)
   | (with_reducible exact ih2 _ _ _ _ _ _ _ _ _ _ _ _ _ _ _)
   | (with_reducible exact ih3 _ _ _ _ _ _ _ _ _ _ _ _ _ _ _ _ _ _ _ _)
   | (with_reducible exact spec_l03Power.mono _ _ _)
   | (with_reducible exact LeO.refl _)
   | (with_reducible exact LeO.none _)
   | (with_reducible refine LeO.ite ?_ ?_)
   | (with_reducible refine LeO.bind ?_ (fun _ => ?_))
   | exact ih0 _ _ _ _ _ _ _ _ _ _ _
   | exact ih1 _ _ _ _ _ _ _ _ _ _
   | exact ih2 _ _ _ _ _ _ _ _ _ _ _ _ _ _ _
   | exact ih3 _ _ _ _ _ _ _ _ _ _ _ _ _ _ _ _ _ _ _ _
   | exact spec_l03Power.mono _ _ _
   | exact LeO.none _
   | refine LeO.ite ?_ ?_
   | refine LeO.bind ?_ (fun _ => ?_)
  ·intro y0 y1 y2 y3 y4 y5 y6 y7 y8 y9 y10 y11 y12 y13 y14
   unfold spec_l03Layers.l2
   repeat' first
   | (with_reducible exact ih0 _ _ _ _ _ _ _ _ _ _ _)
   | (with_reducible exact ih1 _ _ _ _ _ _ _ _ _ _)
   | (with_reducible exact ih2 _ _ _ _ _ _ _ _ _ _ _ _ _ _ _)
   | (with_reducible exact ih3 _ _ _ _ _ _ _ _ _ _ _ _ _ _ _ _ _ _ _ _)
   | (with_reducible exact spec_l03Power.mono _ _ _)
   | (with_reducible exact LeO.refl _)
   | (with_reducible exact LeO.none _)
   | (with_reducible refine LeO.ite ?_ ?_)
   | (with_reducible refine LeO.bind ?_ (fun _ => ?_))
   | exact ih0 _ _ _ _ _ _ _ _ _ _ _
   | exact ih1 _ _ _ _ _ _ _ _ _ _
   | exact ih2 _ _ _ _ _ _ _ _ _ _ _ _ _ _ _
   | exact ih3 _ _ _ _ _ _ _ _ _ _ _ _ _ _ _ _ _ _ _ _
   | exact spec_l03Power.mono _ _ _
   | exact LeO.none _
   | refine LeO.ite ?_ ?_
   | refine LeO.bind ?_ (fun _ => ?_)
  ·intro y0 y1 y2 y3 y4 y5 y6 y7 y8 y9 y10 y11 y12 y13 y14 y15 y16 y17 y18 y19
   unfold spec_l03Layers.l3
   repeat' first
   | (with_reducible exact ih0 _ _ _ _ _ _ _ _ _ _ _)
   | (with_reducible exact ih1 _ _ _ _ _ _ _ _ _ _)
   | (with_reducible exact ih2 _ _ _ _ _ _ _ _ _ _ _ _ _ _ _)
   | (with_reducible exact ih3 _ _ _ _ _ _ _ _ _ _ _ _ _ _ _ _ _ _ _ _)
   | (with_reducible exact spec_l03Power.mono _ _ _)
   | (with_reducible exact LeO.refl _)
   | (with_reducible exact LeO.none _)
   | (with_reducible refine LeO.ite ?_ ?_)
   | (with_reducible refine LeO.bind ?_ (fun _ => ?_))
   | exact ih0 _ _ _ _ _ _ _ _ _ _ _
   | exact ih1 _ _ _ _ _ _ _ _ _ _
   | exact ih2 _ _ _ _ _ _ _ _ _ _ _ _ _ _ _
   | exact ih3 _ _ _ _ _ _ _ _ _ _ _ _ _ _ _ _ _ _ _ _
   | exact spec_l03Power.mono _ _ _
   | exact LeO.none _
   | refine LeO.ite ?_ ?_
   | refine LeO.bind ?_ (fun _ => ?_)
theorem spec_l03Layers.mono : ∀ a0 a1 a2 a3 k, LeO (spec_l03Layers.f k a0 a1 a2 a3) (spec_l03Layers.f (k + 1) a0 a1 a2 a3) := by
 intro a0 a1 a2 a3 k
 obtain ⟨ih0, ih1, ih2, ih3⟩ := spec_l03Layers.mono_l k
 unfold spec_l03Layers.f
 repeat' first
   | (with_reducible exact ih0 _ _ _ _ _ _ _ _ _ _ _)
   | (with_reducible exact ih1 _ _ _ _ _ _ _ _ _ _)
   | (with_reducible exact ih2 _ _ _ _ _ _ _ _ _ _ _ _ _ _ _)
   | (with_reducible exact ih3 _ _ _ _ _ _ _ _ _ _ _ _ _ _ _ _ _ _ _ _)
   | (with_reducible exact spec_l03Power.mono _ _ _)
   | (with_reducible exact LeO.refl _)
   | (with_reducible exact LeO.none _)
   | (with_reducible refine LeO.ite ?_ ?_)
   | (with_reducible refine LeO.bind ?_ (fun _ => ?_))
   | exact ih0 _ _ _ _ _ _ _ _ _ _ _
   | exact ih1 _ _ _ _ _ _ _ _ _ _
   | exact ih2 _ _ _ _ _ _ _ _ _ _ _ _ _ _ _
   | exact ih3 _ _ _ _ _ _ _ _ _ _ _ _ _ _ _ _ _ _ _ _
   | exact spec_l03Power.mono _ _ _
   | exact LeO.none _
   | refine LeO.ite ?_ ?_
   | refine LeO.bind ?_ (fun _ => ?_)
def spec_l03Layers.T1 : Bool × List (List Nat × List Nat) := (true, [([], []), ([0], [0]), ([], []), ([2], [2]), ([3], [3]), ([4], [4]), ([], []), ([6], [6]), ([1, 0, 1], [1]), ([5, 8, 0, 1, 2, 3, 4, 5, 8], [5]), ([7, 9, 0, 1, 2, 3, 4, 5, 6, 7, 8, 9], [7])])
def spec_l03Layers.B1 : List Nat := [0, 1, 0, 4, 12, 28, 0, 64, 3, 319, 1023]
theorem spec_l03Layers.tab1 : rtab .any (opsOf Try.f57 1) = spec_l03Layers.T1 := by kernel_rfl
theorem spec_l03Layers.bits1 : waitsOk spec_l03Layers.T1.2 spec_l03Layers.B1 = true := by kernel_rfl
def spec_l03Layers.T15 : Bool × List (List Nat × List Nat) := (true, [([], []), ([], []), ([0, 1], [0, 1]), ([], []), ([], []), ([3, 4], [3, 4]), ([], []), ([6, 6], [6]), ([2, 0, 1, 2], [2]), ([5, 8, 0, 1, 2, 3, 4, 5, 8], [5]), ([7, 9, 0, 1, 2, 3, 4, 5, 6, 7, 8, 9], [7])])
def spec_l03Layers.B15 : List Nat := [0, 0, 3, 0, 0, 24, 0, 64, 7, 319, 1023]
theorem spec_l03Layers.tab15 : rtab .any (opsOf Try.f57 15) = spec_l03Layers.T15 := by kernel_rfl
theorem spec_l03Layers.bits15 : waitsOk spec_l03Layers.T15.2 spec_l03Layers.B15 = true := by kernel_rfl
def spec_l03Layers.T25 : Bool × List (List Nat × List Nat) := (true, [([], []), ([], []), ([0, 1], [0, 1]), ([], []), ([2, 3], [2, 3]), ([], []), ([], []), ([5, 6], [5, 6]), ([4, 0, 1, 2, 3, 4], [4]), ([7, 8, 0, 1, 2, 3, 4, 5, 6, 7, 8], [7])])
def spec_l03Layers.B25 : List Nat := [0, 0, 3, 0, 15, 0, 0, 96, 31, 511]
theorem spec_l03Layers.tab25 : rtab .any (opsOf Try.f57 25) = spec_l03Layers.T25 := by kernel_rfl
theorem spec_l03Layers.bits25 : waitsOk spec_l03Layers.T25.2 spec_l03Layers.B25 = true := by kernel_rfl
def spec_l03Layers.T28 : Bool × List (List Nat × List Nat) := (true, [([], []), ([], []), ([], []), ([], []), ([2, 3], [2, 3]), ([4], [4]), ([], []), ([], []), ([7], [7]), ([6, 8], [6, 8]), ([9], [9]), ([], []), ([10, 11], [10, 11]), ([12], [12]), ([5, 13], [5, 13]), ([14], [14]), ([0, 1, 0, 1, 2, 3, 4, 5, 6, 7, 8, 9, 10, 11, 12, 13, 14, 15], [0, 1]), ([16, 15, 0, 1, 2, 3, 4, 5, 6, 7, 8, 9, 10, 11, 12, 13, 14, 15], [15, 16])])
def spec_l03Layers.B28 : List Nat := [0, 0, 0, 0, 12, 28, 0, 0, 128, 448, 960, 0, 4032, 8128, 16380, 32764, 65535, 131071]
theorem spec_l03Layers.tab28 : rtab .any (opsOf Try.f57 28) = spec_l03Layers.T28 := by kernel_rfl
theorem spec_l03Layers.bits28 : waitsOk spec_l03Layers.T28.2 spec_l03Layers.B28 = true := by kernel_rfl
set_option maxHeartbeats 8000000 in
set_option maxRecDepth 100000 in
theorem spec_l03Layers.calls (k : Nat) (a0_0 : Int) (A0_1 : Option Addr) (c0_1 : Nat) (l0_1 : List (S85)) (A1 : Option Addr) (c1 : Nat) (l1 : List (List Int)) (A2 : Option Addr) (c2 : Nat) (l2 : List (List Int)) (r : List (List Int)) (w : World) (hr0_1 : Kd.C k85 w A0_1 l0_1.length l0_1) (hc0_1 : l0_1.length ≤ c0_1) (hr1 : Kd.C (Kd.slice 2 (Kd.int .i64)) w A1 l1.length l1) (hc1 : l1.length ≤ c1) (hr2 : Kd.C (Kd.slice 2 (Kd.int .i64)) w A2 l2.length l2) (hc2 : l2.length ≤ c2) (h : spec_l03Layers.f k a0_0 l0_1 l1 l2 = some r) :
  Calls Try.prog 57 #[.agg #[.int .i64 a0_0, .slice A0_1 l0_1.length c0_1], .slice A1 l1.length c1, .slice A2 l2.length c2] w fun e w' => ∃ v0_ : Value, e = .returned (v0_) ∧ Kd.S (Kd.slice 2 (Kd.int .i64)) 56 w' w.heap.size (fun _ => True) v0_ r ∧ Below w.heap.size w w' := by
 have hu36 := Try.underlying36
 have hu85 := Try.underlying85
 have HR0_1 := Aside0.mk hr0_1
 have HC0_1 := Aside0.mk hc0_1
 clear hr0_1 hc0_1
 have HR1 := Aside0.mk hr1
 have HC1 := Aside0.mk hc1
 clear hr1 hc1
 have HR2 := Aside0.mk hr2
 have HC2 := Aside0.mk hc2
 clear hr2 hc2
 have HB := Aside0.mk (Below.refl w.heap.size w)
 have H : (if 0 < (l1.length : Int) then ((spec_l03Power.f k a0_0 (wrap64 (((rd_L1 l1 0).length : Int) + 1))).bind fun t139 => (if 0 ≤ t139 then (if (t139 : Int).toNat ≤ 35184372088832 then ((some (List.replicate (t139 : Int).toNat 0 : List Int)).bind fun y140 => (spec_l03Layers.l0 k l1 l2 (l1.length : Int) ((rd_L1 l1 0).length : Int) a0_0 t139 y140 (y140.length : Int) 0 a0_0 l0_1)) else (none)) else (none))) else (none)) = some r := h
 clear h
 by_cases c4 : 0 < (l1.length : Int)
 rotate_left
 ·rw [if_neg c4] at H
  exact absurd H (by simp)
 rw [if_pos c4] at H
 have c4b0 : decide (0 < (l1.length : Int)) = true := decide_eq_true c4
 have c4b1 : decide (0 < l1.length) = true := decide_eq_true (by omega)
 clear c4
 replace H := Option.bind_eq_some_iff.mp H
 obtain ⟨t139, A50, H⟩ := H
 replace H : (if 0 ≤ t139 then (if (t139 : Int).toNat ≤ 35184372088832 then ((some (List.replicate (t139 : Int).toNat 0 : List Int)).bind fun y140 => (spec_l03Layers.l0 k l1 l2 (l1.length : Int) ((rd_L1 l1 0).length : Int) a0_0 t139 y140 (y140.length : Int) 0 a0_0 l0_1)) else (none)) else (none)) = some r := H
 have A5 := Aside0.mk A50
 clear A50
 by_cases c6 : 0 ≤ t139
 rotate_left
 ·rw [if_neg c6] at H
  exact absurd H (by simp)
 rw [if_pos c6] at H
 have c6b0 := eq_true c6
 have c6b1 : decide (0 ≤ t139) = true := decide_eq_true c6
 clear c6
 by_cases c7 : (t139 : Int).toNat ≤ 35184372088832
 rotate_left
 ·rw [if_neg c7] at H
  exact absurd H (by simp)
 rw [if_pos c7] at H
 have c7b0 := eq_true c7
 have c7b1 : decide ((t139 : Int).toNat ≤ 35184372088832) = true := decide_eq_true c7
 clear c7
 obtain ⟨y140, hy140⟩ : ∃ y_ : List Int, y_ = (List.replicate (t139 : Int).toNat 0) := ⟨_, rfl⟩
 replace H : (spec_l03Layers.l0 k l1 l2 (l1.length : Int) ((rd_L1 l1 0).length : Int) a0_0 t139 y140 (y140.length : Int) 0 a0_0 l0_1) = some r := by first | (rw [hy140]; with_reducible exact H) | (have H2_ := (Option.bind_some _ _).symm.trans H; rw [hy140]; with_reducible exact H2_) | (have H2_ := (Option.bind_some _ _).symm.trans H; with_reducible exact H2_) | with_reducible exact H | (rw [hy140]; exact H) | exact H
 have Ny140 := Aside0.mk hy140
 clear hy140
 have H' := Aside0.mk H
 clear H
 go_enter Try.func57, Try.ntmps57
 try go_wp2_with (first | ((with_reducible refine gate_dst (N := 3) rfl ?_); refine box_event ?hg (N := 3) ?hd (cs := #[.int .i64 a0_0, .slice A0_1 l0_1.length c0_1]) (t := 36) ?hr ?_; (case hd => rfl); (case hg => rfl); (case hr => first | (go_simp; done) | (go_simp; rfl)); intro gb137 hg w8 hbox hb; have n0_ := Aside0.mk (below_step (by repeat (first | (with_reducible first | exact HB.out | apply lA_ | apply lN_ | apply lD_) | exact HB.out)) hb); have n1_ := Aside0.mk (hbox); have n2_ := Aside0.mk ((by rw [hg]; exact (below_size (by repeat (first | (with_reducible first | exact HB.out | apply lA_ | apply lN_ | apply lD_) | exact HB.out))) : w.heap.size ≤ gb137)); have n3_ := Aside0.mk ((by rw [hg]; exact (below_size (by repeat (first | (with_reducible first | exact HB.out | apply lA_ | apply lN_ | apply lD_) | exact HB.out))) : w.heap.size ≤ gb137)); clear HB; have HB := n0_; have BK137 := n1_; have GW137 := n2_; have GE137 := n3_; clear n0_ n1_ n2_ n3_; clear hb hbox hg))
 have n0_ := Aside0.mk (blk_drew BK137.out)
 have n1_ := Aside0.mk (below_drew1 HB.out)
 clear BK137
 clear HB
 have BK137 := n0_
 have HB := n1_
 clear n0_ n1_
 have p138 : 0 ≤ (0 : Int) := (by omega)
 have q138 : 0 < (l1.length : Int) := of_decide_eq_true (by first | (with_reducible assumption) | assumption)
 obtain ⟨ad138, A138_0, c138_0, e138, hx138_0, hl138_0, hi138_0⟩ := at_L1 HR1.out 0 p138 q138
 have hw138_0 := hx138_0
 (try rw [show ((0 : Int)).toNat = 0 from rfl] at hw138_0)
 (try rw [show 0 * 1 = 0 from rfl] at hw138_0)
 (try rw [Addr.add_zero'] at hw138_0)
 cases e138
 have qi138 : (0 < l1.length) = True := eq_true (by omega)
 (try rw [show ((0 : Int)).toNat = 0 from rfl] at hx138_0)
 (try rw [Addr.add_zero'] at hx138_0)
 replace hx138_0 := (HB.out.cell (World.block_lt_of_cell? w _ hx138_0)).trans hx138_0
 have HR138_0 := Aside0.mk hi138_0
 have HC138_0 := Aside0.mk hl138_0
 clear hi138_0 hl138_0
 replace p138 := eq_true p138
 replace q138 := eq_true q138
 refine start_ (n := 11) (S := fun w' => w'.cell? ⟨gb137, 0, none⟩ = some (.int .i64 a0_0) ∧ w'.cell? ⟨gb137, 1, none⟩ = some (.slice A0_1 l0_1.length c0_1) ∧ w'.cell? ad138 = some (.slice A138_0 (rd_L1 l1 0).length c138_0)) (ds := []) #[false, false, false, false, false, false, false, false, false, false, false] (by kernel_rfl) rfl rfl ⟨(blk_cell BK137.out 0).trans rfl, (blk_cell BK137.out 1).trans rfl, ((HB.out.cell (World.block_lt_of_cell? w _ hw138_0)).trans hw138_0)⟩ (fun hHeld => ?_); refine with_tabW spec_l03Layers.tab1 spec_l03Layers.bits1 (fun HT_ HW_ => ?_)
 generalize w8.drew = w9 at BK137 HB HR138_0 hx138_0 hHeld ⊢
 refine pure_ (i := 0) (N := some 26) (v := ?_) (a' := ?_) #[true, false, false, false, false, false, false, false, false, false, false] rfl rfl (any_of HT_.out (by kernel_rfl)) (fun _ _ _ h => h) (Or.inl ⟨by rfl, ?_⟩) ?_ ?_
 rotate_left
 ·intro w'
  go_simp
  with_reducible rfl
 rotate_left
 ·simp only [Act.put, q1_, q2_, q3_, i64_w, i32_w]
  rfl
 refine pure_ (i := 1) (N := some 27) (v := ?_) (a' := ?_) #[true, true, false, false, false, false, false, false, false, false, false] rfl rfl (any_of HT_.out (by kernel_rfl)) (fun _ _ _ h => h) (Or.inl ⟨by rfl, ?_⟩) ?_ ?_
 rotate_left
 ·intro w'
  go_simp
  with_reducible rfl
 rotate_left
 ·simp only [Act.put, q1_, q2_, q3_, i64_w, i32_w]
  rfl
 refine pure_ (i := 2) (N := some 28) (v := ?_) (a' := ?_) #[true, true, true, false, false, false, false, false, false, false, false] rfl rfl (any_of HT_.out (by kernel_rfl)) (fun _ _ _ h => h) (Or.inl ⟨by rfl, ?_⟩) ?_ ?_
 rotate_left
 ·intro w'
  go_simp
  with_reducible rfl
 rotate_left
 ·simp only [Act.put, q1_, q2_, q3_, i64_w, i32_w]
  rfl
 refine pure_ (i := 3) (N := some 29) (v := ?_) (a' := ?_) #[true, true, true, true, false, false, false, false, false, false, false] rfl rfl (any_of HT_.out (by kernel_rfl)) (fun _ _ _ h => h) (Or.inl ⟨by rfl, ?_⟩) ?_ ?_
 rotate_left
 ·intro w'
  go_simp
  with_reducible rfl
 rotate_left
 ·simp only [Act.put, q1_, q2_, q3_, i64_w, i32_w]
  rfl
 refine pure_ (i := 6) (N := some 32) (v := ?_) (a' := ?_) #[true, true, true, true, false, false, true, false, false, false, false] rfl rfl (any_of HT_.out (by kernel_rfl)) (fun _ _ _ h => h) (Or.inl ⟨by rfl, ?_⟩) ?_ ?_
 rotate_left
 ·intro w'
  go_simp
  with_reducible rfl
 rotate_left
 ·simp only [Act.put, q1_, q2_, q3_, i64_w, i32_w]
  rfl
 refine pure_ (i := 8) (N := some 7) (v := ?_) (a' := ?_) #[true, true, true, true, false, false, true, false, true, false, false] rfl rfl (any_of HT_.out (by kernel_rfl)) (fun _ _ _ h => h) (Or.inl ⟨by rfl, ?_⟩) ?_ ?_
 rotate_left
 ·intro w'
  go_simp
  with_reducible rfl
 rotate_left
 ·simp only [Act.put, q1_, q2_, q3_, i64_w, i32_w]
  rfl
 refine take_ (i := 4) (N := some 30) (v := ?_) (a' := ?_) #[true, true, true, true, true, false, true, false, true, false, false] rfl rfl (take_ofW HT_.out HW_.out (by kernel_rfl)) (fun _ _ _ h => h) (Or.inl ⟨by rfl, ?_⟩) hHeld ?_ ?_
 rotate_left
 ·rintro w' ⟨s0, s1, s2⟩
  go_simp
  with_reducible rfl
 rotate_left
 ·simp only [Act.put, q1_, q2_, q3_, i64_w, i32_w]
  rfl
 refine pure_ (i := 5) (N := some 31) (v := ?_) (a' := ?_) #[true, true, true, true, true, true, true, false, true, false, false] rfl rfl (any_of HT_.out (by kernel_rfl)) (fun _ _ _ h => h) (Or.inl ⟨by rfl, ?_⟩) ?_ ?_
 rotate_left
 ·intro w'
  go_simp
  with_reducible rfl
 rotate_left
 ·simp only [Act.put, q1_, q2_, q3_, i64_w, i32_w]
  rfl
 refine pure_ (i := 9) (N := some 8) (v := ?_) (a' := ?_) #[true, true, true, true, true, true, true, false, true, true, false] rfl rfl (any_of HT_.out (by kernel_rfl)) (fun _ _ _ h => h) (Or.inl ⟨by rfl, ?_⟩) ?_ ?_
 rotate_left
 ·intro w'
  go_simp
  with_reducible rfl
 rotate_left
 ·simp only [Act.put, q1_, q2_, q3_, i64_w, i32_w]
  rfl
 refine take_ (i := 7) (N := some 33) (v := ?_) (a' := ?_) #[true, true, true, true, true, true, true, true, true, true, false] rfl rfl (take_ofW HT_.out HW_.out (by kernel_rfl)) (fun _ _ _ h => h) (Or.inl ⟨by rfl, ?_⟩) hHeld ?_ ?_
 rotate_left
 ·rintro w' ⟨s0, s1, s2⟩
  go_simp
  with_reducible rfl
 rotate_left
 ·simp only [Act.put, q1_, q2_, q3_, i64_w, i32_w]
  rfl
 refine pure_ (i := 10) (N := some 9) (v := ?_) (a' := ?_) #[true, true, true, true, true, true, true, true, true, true, true] rfl rfl (any_of HT_.out (by kernel_rfl)) (fun _ _ _ h => h) (Or.inl ⟨by rfl, ?_⟩) ?_ ?_
 rotate_left
 ·intro w'
  go_simp
  with_reducible rfl
 rotate_left
 ·simp only [Act.put, q1_, q2_, q3_, i64_w, i32_w]
  rfl
 refine done_ (done_of HT_.out (by kernel_rfl)) ?_
 try go_wp2_with (first | ((with_reducible refine gate_callee (f := 76) rfl ?_); refine goesL_ (some 37) rfl rfl Try.func76 (by kernel_rfl) rfl #[.int .i64 a0_0, .int .i64 (wrap64 (((rd_L1 l1 0).length : Int) + 1))] rfl (by (try simp only [List.map_toArray, List.map_cons, List.map_nil]); first | done | rfl | (simp only [List.length_drop, List.length_take]; rfl)) ?_; (with_reducible refine (spec_l03Power.calls k a0_0 (wrap64 (((rd_L1 l1 0).length : Int) + 1)) t139 _ A5.out).mono ?_); rintro e w' ⟨rfl, ⟨nd, rfl⟩⟩; refine ⟨_, rfl, ?_⟩) | ((with_reducible refine gate_dst (N := 39) rfl ?_); refine Kd.R_make (Kd.int .i64) _ 2 rfl (N := 39) rfl 56 _ _ rfl t139 rfl rfl Try.underlying56 (.int .i64 0) 8 info2 rfl (by decide) (by omega) 0 (ok := fun _ => True) (okp := fun _ => True) rfl (fun _ hk => hk) trivial (of_decide_eq_true (by first | (with_reducible assumption) | assumption)) (Nat.le_trans (Nat.mul_le_mul_right _ (of_decide_eq_true (by first | (with_reducible assumption) | assumption) : t139.toNat ≤ 35184372088832)) (by omega)) (Below.refl _ _) (Nat.le_refl _) ?_; intro v141 w10 ho11 hb hg_ hnew_; clear hg_ hnew_; (first | rw [← Ny140.out] at ho11 | (simp only [Int.reduceToNat] at ho11; rw [← Ny140.out] at ho11)); have n0_ := Aside0.mk (Kd.R_lower ho11 (below_size (by repeat (first | (with_reducible first | exact HB.out | apply lA_ | apply lN_ | apply lD_ | refine lS_ ?_ GE137.out) | exact HB.out)))); have n1_ := Aside0.mk (blk_below (g := gb137) (o := .cells #[.int .i64 a0_0, .slice A0_1 l0_1.length c0_1] 36 (0, 0)) (by (with_reducible repeat (first | apply bN_ | apply bD_ | apply bA_)); exact BK137.out) hb); have n2_ := Aside0.mk (below_step (by repeat (first | (with_reducible first | exact HB.out | apply lA_ | apply lN_ | apply lD_ | refine lS_ ?_ GE137.out) | exact HB.out)) hb); clear BK137; clear HB; have HO142 := n0_; have BK137 := n1_; have HB := n2_; clear n0_ n1_ n2_; clear hb ho11; obtain ⟨Ao12, co12, eo12⟩ := Kd.R_slice HO142.out; subst eo12))
 go_loopg [42] k (fun kq v42 w' => ∃ (x11_1 : List Int) (x42_1 : Int), v42 = .int .i64 x42_1 ∧ Aside0 (spec_l03Layers.l0 kq l1 l2 (l1.length : Int) ((rd_L1 l1 0).length : Int) a0_0 t139 x11_1 (y140.length : Int) x42_1 a0_0 l0_1 = some r) ∧ Aside0 (kq ≤ k) ∧ Aside0 (Kd.R (Kd.int .i64) 2 w' w.heap.size (fun _ => True) (.slice Ao12 y140.length co12) x11_1) ∧ Aside0 (w'.heap[gb137]? = some (.cells #[.int .i64 a0_0, (.slice A0_1 l0_1.length c0_1)] 36 (0, 0))) ∧ Aside0 (Below w.heap.size w w'))
 case atStart => exact ⟨(y140), (0), (by first | rfl | (simp; done) | (simp [*]; done) | (simp; decide +kernel)), H', ⟨Nat.le_refl _⟩, ⟨by (with_reducible repeat (first | apply Kd.R_alloc | apply Kd.R_drewN | apply Kd.R_drew)); exact HO142.out⟩, ⟨by (with_reducible repeat (first | apply bN_ | apply bD_ | apply bA_)); exact BK137.out⟩, ⟨by repeat (first | (with_reducible first | exact HB.out | apply lA_ | apply lN_ | apply lD_ | refine lS_ ?_ GE137.out) | exact HB.out)⟩⟩
 case round =>
  clear H'
  try clear c1
  try clear p1
  try clear q1
  try clear hx1
  try clear qi1
  try clear c2
  try clear p2
  try clear c4
  try clear c4b0
  try clear c4b1
  try clear c5
  try clear c6
  try clear c6b0
  try clear c6b1
  try clear p6
  try clear c7
  try clear c7b0
  try clear c7b1
  try clear hx138_0
  try clear p138
  try clear q138
  obtain ⟨x11_1, x42_1, rfl, HA, HK1, HO_11, BK137, HB⟩ := hrel
  have hl11_1 := (Kd.R_reads' HO_11.out).1
  rw [hl11_1] at HO_11
  (try simp only [hl11_1])
  (try simp only [hl11_1] at BK137)
  cases gk with
  | zero => exact absurd HA.out (by simp [spec_l03Layers.l0])
  | succ k1 =>
   have H := HA.out
   clear HA
   simp only [spec_l03Layers.l0] at H
   by_cases c13 : x42_1 < (y140.length : Int)
   rotate_left
   ·rw [if_neg c13] at H
    have c13b0 : decide (x42_1 < (y140.length : Int)) = false := decide_eq_false c13
    (try (have c13b0_hl11_1 := c13b0; rw [hl11_1] at c13b0_hl11_1))
    clear c13
    obtain ⟨ji19, hji19⟩ : ∃ j_ : Int, (wrap64 ((wrap64 ((l1.length : Int) * ((rd_L1 l1 0).length : Int))) + 1)) = j_ := ⟨_, rfl⟩
    replace H : (if 0 ≤ (ji19) then (if (ji19 : Int).toNat ≤ 11728124029610 then ((some (List.replicate (ji19 : Int).toNat [] : List (List Int))).bind fun y144 => (if 0 ≤ (wrap64 ((l1.length : Int) * ((rd_L1 l1 0).length : Int))) then (if (wrap64 ((l1.length : Int) * ((rd_L1 l1 0).length : Int))) < (y144.length : Int) then ((spec_l03Power.f k1 a0_0 ((rd_L1 l1 0).length : Int)).bind fun t148 => (spec_l03Layers.l1 k1 l1 l2 ((rd_L1 l1 0).length : Int) a0_0 t139 (y144.set ((wrap64 ((l1.length : Int) * ((rd_L1 l1 0).length : Int))) : Int).toNat x11_1) t148 (wrap64 ((wrap64 ((l1.length : Int) * ((rd_L1 l1 0).length : Int))) - 1)) a0_0 l0_1)) else (none)) else (none))) else (none)) else (none)) = some r := by first | (rw [hji19] at H; exact H) | (simp only [hji19] at H ⊢; exact H)
    have hji19w : (IntKind.i64.wrap ((wrap64 ((l1.length : Int) * ((rd_L1 l1 0).length : Int))) + 1)) = ji19 := (i64_w _).trans hji19
    by_cases c20 : 0 ≤ (ji19)
    rotate_left
    ·rw [if_neg c20] at H
     exact absurd H (by simp)
    rw [if_pos c20] at H
    have c20b0 := eq_true c20
    have c20b1 : decide (0 ≤ (ji19)) = true := decide_eq_true c20
    clear c20
    by_cases c21 : (ji19 : Int).toNat ≤ 11728124029610
    rotate_left
    ·rw [if_neg c21] at H
     exact absurd H (by simp)
    rw [if_pos c21] at H
    have c21b0 := eq_true c21
    have c21b1 : decide ((ji19 : Int).toNat ≤ 11728124029610) = true := decide_eq_true c21
    clear c21
    obtain ⟨y144, hy144⟩ : ∃ y_ : List (List Int), y_ = (List.replicate (ji19 : Int).toNat []) := ⟨_, rfl⟩
    replace H : (if 0 ≤ (wrap64 ((l1.length : Int) * ((rd_L1 l1 0).length : Int))) then (if (wrap64 ((l1.length : Int) * ((rd_L1 l1 0).length : Int))) < (y144.length : Int) then ((spec_l03Power.f k1 a0_0 ((rd_L1 l1 0).length : Int)).bind fun t148 => (spec_l03Layers.l1 k1 l1 l2 ((rd_L1 l1 0).length : Int) a0_0 t139 (y144.set ((wrap64 ((l1.length : Int) * ((rd_L1 l1 0).length : Int))) : Int).toNat x11_1) t148 (wrap64 ((wrap64 ((l1.length : Int) * ((rd_L1 l1 0).length : Int))) - 1)) a0_0 l0_1)) else (none)) else (none)) = some r := by first | (rw [hy144]; with_reducible exact H) | (have H2_ := (Option.bind_some _ _).symm.trans H; rw [hy144]; with_reducible exact H2_) | (have H2_ := (Option.bind_some _ _).symm.trans H; with_reducible exact H2_) | with_reducible exact H | (rw [hy144]; exact H) | exact H
    have Ny144 := Aside0.mk hy144
    clear hy144
    obtain ⟨ji22, hji22⟩ : ∃ j_ : Int, (wrap64 ((l1.length : Int) * ((rd_L1 l1 0).length : Int))) = j_ := ⟨_, rfl⟩
    replace H : (if 0 ≤ (ji22) then (if (ji22) < (y144.length : Int) then ((spec_l03Power.f k1 a0_0 ((rd_L1 l1 0).length : Int)).bind fun t148 => (spec_l03Layers.l1 k1 l1 l2 ((rd_L1 l1 0).length : Int) a0_0 t139 (y144.set ((ji22) : Int).toNat x11_1) t148 (wrap64 ((ji22) - 1)) a0_0 l0_1)) else (none)) else (none)) = some r := by first | (rw [hji22] at H; exact H) | (simp only [hji22] at H ⊢; exact H)
    have hji22w : (IntKind.i64.wrap ((l1.length : Int) * ((rd_L1 l1 0).length : Int))) = ji22 := (i64_w _).trans hji22
    have hji19_ji22 : (wrap64 ((ji22) + 1)) = ji19 := by rw [← hji22]; exact hji19
    have hji19_ji22w : (IntKind.i64.wrap ((ji22) + 1)) = ji19 := (i64_w _).trans hji19_ji22
    by_cases c23 : 0 ≤ (ji22)
    rotate_left
    ·rw [if_neg c23] at H
     exact absurd H (by simp)
    rw [if_pos c23] at H
    have c23b0 : decide (0 ≤ (ji22)) = true := decide_eq_true c23
    clear c23
    by_cases c24 : (ji22) < (y144.length : Int)
    rotate_left
    ·rw [if_neg c24] at H
     exact absurd H (by simp)
    rw [if_pos c24] at H
    have c24b0 : decide ((ji22) < (y144.length : Int)) = true := decide_eq_true c24
    clear c24
    obtain ⟨y147, hy147⟩ : ∃ y_ : List (List Int), y_ = (y144.set ((ji22) : Int).toNat x11_1) := ⟨_, rfl⟩
    replace H : ((spec_l03Power.f k1 a0_0 ((rd_L1 l1 0).length : Int)).bind fun t148 => (spec_l03Layers.l1 k1 l1 l2 ((rd_L1 l1 0).length : Int) a0_0 t139 y147 t148 (wrap64 ((ji22) - 1)) a0_0 l0_1)) = some r := by first | (rw [hy147]; with_reducible exact H) | (have H2_ := (Option.bind_some _ _).symm.trans H; rw [hy147]; with_reducible exact H2_) | (have H2_ := (Option.bind_some _ _).symm.trans H; with_reducible exact H2_) | with_reducible exact H | (rw [hy147]; exact H) | exact H
    have Ny147 := Aside0.mk hy147
    clear hy147
    replace H := Option.bind_eq_some_iff.mp H
    obtain ⟨t148, A260, H⟩ := H
    replace H : (spec_l03Layers.l1 k1 l1 l2 ((rd_L1 l1 0).length : Int) a0_0 t139 y147 t148 (wrap64 ((ji22) - 1)) a0_0 l0_1) = some r := H
    have A26 := Aside0.mk A260
    clear A260
    have H' := Aside0.mk H
    clear H
    go_wp2_with (first | ((with_reducible refine gate_dst (N := 53) rfl ?_); refine Kd.S_make (Kd.slice 2 (Kd.int .i64)) _ 56 rfl (N := 53) rfl 22 _ _ rfl ji19 rfl rfl Try.underlying22 (.slice none 0 0) 24 info56 rfl (by decide) (by omega) [] (ok := fun _ => True) (okp := fun _ => True) ⟨_, rfl, Kd.R_nil _ _ _ _ _⟩ (fun _ hk => hk) trivial (of_decide_eq_true (by first | (with_reducible assumption) | assumption)) (Nat.le_trans (Nat.mul_le_mul_right _ (of_decide_eq_true (by first | (with_reducible assumption) | assumption) : ji19.toNat ≤ 11728124029610)) (by omega)) (Below.refl _ _) (Nat.le_refl _) ?_; intro v145 w27 ho28 hb hg_ hnew_; clear hg_ hnew_; (first | rw [← Ny144.out] at ho28 | (simp only [Int.reduceToNat] at ho28; rw [← Ny144.out] at ho28)); have n0_ := Aside0.mk (Kd.R_below (by (with_reducible repeat (first | apply Kd.R_alloc | apply Kd.R_drewN | apply Kd.R_drew)); exact HO_11.out) hb); have n1_ := Aside0.mk (Kd.S_lower (Kd.S_new' ho28 (Kd.R_lt (by (with_reducible repeat (first | apply Kd.R_alloc | apply Kd.R_drewN | apply Kd.R_drew)); exact HO_11.out))) (below_size (by repeat (first | (with_reducible first | exact HB.out | apply lA_ | apply lN_ | apply lD_ | refine lS_ ?_ GE137.out) | exact HB.out)))); have n2_ := Aside0.mk (blk_below (g := gb137) (o := .cells #[.int .i64 a0_0, .slice A0_1 l0_1.length c0_1] 36 (0, 0)) (by (with_reducible repeat (first | apply bN_ | apply bD_ | apply bA_)); exact BK137.out) hb); have n3_ := Aside0.mk (below_step (by repeat (first | (with_reducible first | exact HB.out | apply lA_ | apply lN_ | apply lD_ | refine lS_ ?_ GE137.out) | exact HB.out)) hb); clear HO_11; clear BK137; clear HB; have HO_11 := n0_; have HO146 := n1_; have BK137 := n2_; have HB := n3_; clear n0_ n1_ n2_ n3_; clear hb ho28; have p25 : 0 ≤ ((ji22) : Int) := of_decide_eq_true (by first | (with_reducible assumption) | assumption); have q25 : ((ji22) : Int) < ((y144.length : Int) : Int) := of_decide_eq_true (by first | (with_reducible assumption) | assumption); obtain ⟨go25, co25, eo25, gb25, gl25, cl25, HG25⟩ := Kd.S_form HO146.out (by omega); (first | cases eo25 | (injection eo25 with ea_ en_ ec_; (first | subst ea_ | (injection ea_ with ea_; subst ea_)); subst ec_; clear en_)); have GB25 := Aside0.mk gb25; have GG25 := Aside0.mk HG25; clear gb25 gl25 HG25; obtain ⟨_, ce25, hcl25, hM25, hcc25, hfr25, _, _⟩ := Kd.S_elem HO146.out [] ((ji22) : Int) p25 q25; obtain ⟨ve25_0, rfl, ge25_0⟩ := hM25; have hx25_0 := hcc25 0 _ rfl; have hf25_0 := hfr25 0; (try simp only [show ((Kd.slice 2 (Kd.int .i64))).sz = 1 from rfl, Nat.mul_one, Nat.add_zero] at hx25_0); (try simp only [show ((Kd.slice 2 (Kd.int .i64))).sz = 1 from rfl, Nat.mul_one, Nat.add_zero] at hf25_0); clear hcl25 hcc25 hfr25; (try clear hM25); replace p25 := eq_true p25; replace q25 := eq_true q25; have n_ := Aside0.mk (Kd.S_mono (ok' := (fun k_ => some k_ ≠ (.slice Ao12 x11_1.length co12 : Value).ownBlock)) HO146.out (fun k_ hk => hk.2)); clear HO146; have HO146 := n_; clear n_; have HX29 := Aside0.mk (show Kd.S (Kd.slice 2 (Kd.int .i64)) 56 w27 w.heap.size (fun k_ => ((fun _ => True)) k_ ∧ ¬ ((fun k_ => some k_ = (.slice Ao12 x11_1.length co12 : Value).ownBlock)) k_) (.slice (some ⟨go25, 0, none⟩) y144.length co25) y144 from (by (with_reducible repeat (first | apply Kd.S_alloc | apply Kd.S_drewN | apply Kd.S_drew)); exact Kd.S_mono HO146.out (fun k_ hk => ⟨trivial, fun e_ => hk e_⟩))); obtain ⟨oki29, ce29, hcl29, hM29, hcc29, hfr29, hoki29, hH29⟩ := Kd.S_elem HX29.out [] ((ji22) : Int) (of_decide_eq_true (by first | (with_reducible assumption) | assumption)) (by have h_ : ((ji22) : Int) < ((y144.length : Int) : Int) := of_decide_eq_true (by first | (with_reducible assumption) | assumption); first | exact h_ | (have e_ := (Kd.S_reads' HO146.out).1; omega) | simpa using h_); obtain ⟨ve29_0, rfl, ge29_0⟩ := hM29; have HP29 := Kd.S_seg hH29 (of_decide_eq_true (by first | (with_reducible assumption) | assumption)) (by have h_ : ((ji22) : Int) < ((y144.length : Int) : Int) := of_decide_eq_true (by first | (with_reducible assumption) | assumption); first | exact h_ | (have e_ := (Kd.S_reads' HO146.out).1; omega) | simpa using h_) (seg := [.slice Ao12 x11_1.length co12]) (j := 0) (show 1 ≤ 1 from by decide) (x' := x11_1) (Kd.M_row (Kd.R_mono (Kd.R_tight rfl (Kd.R_mono (ok' := fun k_ => ((fun _ => True)) k_ ∧ k_ ≠ go25) (Kd.R_apart' (HO_11.out) (Kd.S_typed HO146.out) (by decide)) (fun k_ hk => ⟨trivial, fun e_ => (hk.2) (by rw [e_]; rfl)⟩))) (fun _ h_ => Or.inr (h_)))) (fun _ hk => hk) (fun k_ hk_ => ((Kd.R_mono (ok' := fun k_ => ((fun _ => True)) k_ ∧ k_ ≠ go25) (Kd.R_apart' (HO_11.out) (Kd.S_typed HO146.out) (by decide)) (fun k_ hk => ⟨trivial, fun e_ => (hk.2) (by rw [e_]; rfl)⟩))).1 k_ hk_.symm); have hx29_0 := hcc29 0 _ rfl; (try simp only [show ((Kd.slice 2 (Kd.int .i64))).sz = 1 from rfl, Nat.mul_one, Nat.add_zero] at hx29_0); have hf29_0 := hfr29 0; (try simp only [show ((Kd.slice 2 (Kd.int .i64))).sz = 1 from rfl, Nat.mul_one, Nat.add_zero] at hf29_0); clear hcl29 hcc29 hfr29 hoki29 hH29; (try clear hM29); (try simp only [show ((Kd.slice 2 (Kd.int .i64))).sz = 1 from rfl, Nat.mul_one, Nat.add_zero] at HP29)) | ((with_reducible refine gate_store (t := 56) (p := 59) rfl ?_); refine store_event (t := 56) (p := 59) (v := ?vo_w30) (w1 := (w27.setCell ⟨go25, ((ji22) : Int).toNat, none⟩ (.slice Ao12 x11_1.length co12))) ?hg ?ho ?hn ?hr ?_; (case ho => rfl); (case hg => rfl); (case hn => rfl); (case hr => first | (go_simp; done) | (go_simp; rfl)); intro w30 hw; have hg : w27.grownBy w30 (some go25) := (by rw [hw]; exact HP29.2); have hp_ : Kd.S (Kd.slice 2 (Kd.int .i64)) 56 w30 w.heap.size (fun _ => True) (.slice (some ⟨go25, 0, none⟩) y144.length co25) y147 := (by rw [hw, Ny147.out]; exact HP29.1); clear HP29; have n0_ := Aside0.mk (blk_grown (g := gb137) (o := .cells #[.int .i64 a0_0, .slice A0_1 l0_1.length c0_1] 36 (0, 0)) (by (with_reducible repeat (first | apply bN_ | apply bD_ | apply bA_)); exact BK137.out) hg (Kd.S_ne HO146.out BK137.out (by decide))); have n1_ := Aside0.mk (hp_); have n2_ := Aside0.mk ((by rw [hw]; exact below_set (HB.out) GB25.out : Below w.heap.size w w30)); clear BK137; clear HO146; clear HB; clear HO_11; have BK137 := n0_; have HO146 := n1_; have HB := n2_; clear n0_ n1_ n2_; clear hg hw hp_) | ((with_reducible refine gate_callee (f := 76) rfl ?_); refine goesL_ (some 62) rfl rfl Try.func76 (by kernel_rfl) rfl #[.int .i64 a0_0, .int .i64 ((rd_L1 l1 0).length : Int)] rfl (by (try simp only [List.map_toArray, List.map_cons, List.map_nil]); first | done | rfl | (simp only [List.length_drop, List.length_take]; rfl)) ?_; (with_reducible refine (spec_l03Power.calls k1 a0_0 ((rd_L1 l1 0).length : Int) t148 _ A26.out).mono ?_); rintro e w' ⟨rfl, ⟨nd, rfl⟩⟩; refine ⟨_, rfl, ?_⟩))
    go_loopg [15] k1 (fun kq v15 w' => ∃ (x13_2 : List (List Int)) (x15_2 : Int), v15 = .int .i64 x15_2 ∧ Aside0 (spec_l03Layers.l1 kq l1 l2 ((rd_L1 l1 0).length : Int) a0_0 t139 x13_2 t148 x15_2 a0_0 l0_1 = some r) ∧ Aside0 (kq ≤ k1) ∧ Aside0 (Kd.S (Kd.slice 2 (Kd.int .i64)) 56 w' w.heap.size (fun _ => True) (.slice (some ⟨go25, 0, none⟩) y144.length co25) x13_2) ∧ Aside0 (w'.heap[gb137]? = some (.cells #[.int .i64 a0_0, (.slice A0_1 l0_1.length c0_1)] 36 (0, 0))) ∧ Aside0 (Below w.heap.size w w'))
    case atStart => exact ⟨(y147), (wrap64 ((ji22) - 1)), (by first | rfl | (simp; done) | (simp only [← hji22] <;> (first | rfl | simp)) | (simp [*]; done)), H', ⟨Nat.le_refl _⟩, ⟨by (try simp only [hl11_1]); (with_reducible repeat (first | apply Kd.S_alloc | apply Kd.S_drewN | apply Kd.S_drew)); exact HO146.out⟩, ⟨by (try simp only [hl11_1]); (with_reducible repeat (first | apply bN_ | apply bD_ | apply bA_)); exact BK137.out⟩, ⟨by repeat (first | (with_reducible first | exact HB.out | apply lA_ | apply lN_ | apply lD_ | refine lS_ ?_ GE137.out) | exact HB.out)⟩⟩
    case round =>
     clear H'
     try clear c1
     try clear p1
     try clear q1
     try clear hx1
     try clear qi1
     try clear c2
     try clear p2
     try clear q2
     try clear hx2
     try clear c4
     try clear c4b0
     try clear c4b1
     try clear c5
     try clear c6
     try clear c6b0
     try clear c6b1
     try clear p6
     try clear c7
     try clear c7b0
     try clear c7b1
     try clear c13
     try clear c13b0
     try clear p13
     try clear q13
     try clear hx13
     try clear qi13
     try clear c14
     try clear c14b0
     try clear c15
     try clear c15b0
     try clear p16
     try clear q16
     try clear hx16
     try clear hf16
     try clear c20
     try clear c20b0
     try clear c20b1
     try clear c21
     try clear c21b0
     try clear c21b1
     try clear c23
     try clear c23b0
     try clear c24
     try clear c24b0
     try clear c25
     try clear p25
     try clear q25
     try clear hx25
     try clear hf25
     try clear c29
     try clear hx29
     try clear hf29
     try clear hx138_0
     try clear hx16_0
     try clear hx25_0
     try clear hx29_0
     try clear p1
     try clear p138
     try clear p16
     try clear p2
     try clear p25
     try clear p6
     try clear q1
     try clear q138
     try clear q16
     try clear q25
     obtain ⟨x13_2, x15_2, rfl, HA, HK2, HO_13, BK137, HB⟩ := hrel
     have hl13_2 := (Kd.S_reads' HO_13.out).1
     rw [hl13_2] at HO_13
     (try simp only [hl13_2])
     (try simp only [hl13_2] at BK137)
     cases gk with
     | zero => exact absurd HA.out (by simp [spec_l03Layers.l1])
     | succ k2 =>
      have H := HA.out
      clear HA
      simp only [spec_l03Layers.l1] at H
      by_cases c31 : x15_2 ≥ 0
      rotate_left
      ·rw [if_neg c31] at H
       have c31b0 : decide (0 ≤ x15_2) = false := decide_eq_false c31
       clear c31
       obtain rfl := Option.some.inj H
       go_wp2
       go_ret
       exact ⟨_, by first | rfl | (simp [errW_none, errW_some] <;> rfl) | (simp only [← hji19, ← hji22]; first | rfl | (simp [errW_none, errW_some] <;> rfl)) | (simp [*, errW_none, errW_some] <;> rfl), by (with_reducible repeat (first | apply Kd.S_alloc | apply Kd.S_drewN | apply Kd.S_drew)); exact HO_13.out, by repeat (first | (with_reducible first | exact HB.out | apply lA_ | apply lN_ | apply lD_ | refine lS_ ?_ GE137.out) | exact HB.out)⟩
      rw [if_pos c31] at H
      have c31b0 : decide (0 ≤ x15_2) = true := decide_eq_true c31
      clear c31
      by_cases c32 : ((rd_L1 l1 0).length : Int) = 0
      rotate_left
      ·rw [if_neg c32] at H
       have c32b0 : (((rd_L1 l1 0).length : Int) == 0) = false := beq_eq_false_iff_ne.mpr c32
       have c32b1 : (((rd_L1 l1 0).length : Int) != 0) = true := bne_iff_ne.mpr c32
       have c32b2 : ¬ ((rd_L1 l1 0) = []) := fun h_ => c32 (by rw [h_]; rfl)
       by_cases c33 : 0 ≤ t139
       rotate_left
       ·rw [if_neg c33] at H
        exact absurd H (by simp)
       rw [if_pos c33] at H
       have c33b0 := eq_true c33
       have c33b1 : decide (0 ≤ t139) = true := decide_eq_true c33
       clear c33
       by_cases c34 : (t139 : Int).toNat ≤ 35184372088832
       rotate_left
       ·rw [if_neg c34] at H
        exact absurd H (by simp)
       rw [if_pos c34] at H
       have c34b0 := eq_true c34
       have c34b1 : decide ((t139 : Int).toNat ≤ 35184372088832) = true := decide_eq_true c34
       clear c34
       obtain ⟨y149, hy149⟩ : ∃ y_ : List Int, y_ = (List.replicate (t139 : Int).toNat 0) := ⟨_, rfl⟩
       replace H : ((spec_l03Power.f k2 a0_0 (Int.tmod x15_2 ((rd_L1 l1 0).length : Int))).bind fun t152 => (spec_l03Layers.l2 k2 l1 l2 ((rd_L1 l1 0).length : Int) a0_0 t139 x13_2 t148 x15_2 (wrap64 (Int.tdiv x15_2 ((rd_L1 l1 0).length : Int))) (Int.tmod x15_2 ((rd_L1 l1 0).length : Int)) y149 t152 0 a0_0 l0_1)) = some r := by first | (rw [hy149]; with_reducible exact H) | (have H2_ := (Option.bind_some _ _).symm.trans H; rw [hy149]; with_reducible exact H2_) | (have H2_ := (Option.bind_some _ _).symm.trans H; with_reducible exact H2_) | with_reducible exact H | (rw [hy149]; exact H) | exact H
       have Ny149 := Aside0.mk hy149
       clear hy149
       replace H := Option.bind_eq_some_iff.mp H
       obtain ⟨t152, A350, H⟩ := H
       replace H : (spec_l03Layers.l2 k2 l1 l2 ((rd_L1 l1 0).length : Int) a0_0 t139 x13_2 t148 x15_2 (wrap64 (Int.tdiv x15_2 ((rd_L1 l1 0).length : Int))) (Int.tmod x15_2 ((rd_L1 l1 0).length : Int)) y149 t152 0 a0_0 l0_1) = some r := H
       have A35 := Aside0.mk A350
       clear A350
       have H' := Aside0.mk H
       clear H
       try go_wp2
       have n0_ := Aside0.mk (Kd.S_drew HO_13.out)
       have n1_ := Aside0.mk (blk_drew BK137.out)
       have n2_ := Aside0.mk (below_drew1 HB.out)
       clear HO_13
       clear BK137
       clear HB
       have HO_13 := n0_
       have BK137 := n1_
       have HB := n2_
       clear n0_ n1_ n2_
       refine start_ (n := 11) (S := fun w' => True) (ds := []) #[false, false, false, false, false, false, false, false, false, false, false] (by kernel_rfl) rfl rfl trivial (fun hHeld => ?_); refine with_tabW spec_l03Layers.tab15 spec_l03Layers.bits15 (fun HT_ HW_ => ?_)
       generalize wr.drew = w36 at HO_13 BK137 HB hHeld ⊢
       refine pure_ (i := 0) (N := some 71) (v := ?_) (a' := ?_) #[true, false, false, false, false, false, false, false, false, false, false] rfl rfl (any_of HT_.out (by kernel_rfl)) (fun _ _ _ h => h) (Or.inl ⟨by rfl, ?_⟩) ?_ ?_
       rotate_left
       ·intro w'
        go_simp
        with_reducible rfl
       rotate_left
       ·simp only [Act.put, q1_, q2_, q3_, i64_w, i32_w]
        rfl
       refine pure_ (i := 1) (N := some 72) (v := ?_) (a' := ?_) #[true, true, false, false, false, false, false, false, false, false, false] rfl rfl (any_of HT_.out (by kernel_rfl)) (fun _ _ _ h => h) (Or.inl ⟨by rfl, ?_⟩) ?_ ?_
       rotate_left
       ·intro w'
        go_simp
        with_reducible rfl
       rotate_left
       ·simp only [Act.put, q1_, q2_, q3_, i64_w, i32_w]
        rfl
       refine pure_ (i := 2) (N := some 73) (v := ?_) (a' := ?_) #[true, true, true, false, false, false, false, false, false, false, false] rfl rfl (any_of HT_.out (by kernel_rfl)) (fun _ _ _ h => h) (Or.inl ⟨by rfl, ?_⟩) ?_ ?_
       rotate_left
       ·intro w'
        go_simp
        with_reducible rfl
       rotate_left
       ·simp only [Act.put, q1_, q2_, q3_, i64_w, i32_w]
        rfl
       refine pure_ (i := 3) (N := some 74) (v := ?_) (a' := ?_) #[true, true, true, true, false, false, false, false, false, false, false] rfl rfl (any_of HT_.out (by kernel_rfl)) (fun _ _ _ h => h) (Or.inl ⟨by rfl, ?_⟩) ?_ ?_
       rotate_left
       ·intro w'
        go_simp
        with_reducible rfl
       rotate_left
       ·simp only [Act.put, q1_, q2_, q3_, i64_w, i32_w]
        rfl
       refine pure_ (i := 4) (N := some 75) (v := ?_) (a' := ?_) #[true, true, true, true, true, false, false, false, false, false, false] rfl rfl (any_of HT_.out (by kernel_rfl)) (fun _ _ _ h => h) (Or.inl ⟨by rfl, ?_⟩) ?_ ?_
       rotate_left
       ·intro w'
        go_simp
        with_reducible rfl
       rotate_left
       ·simp only [Act.put, q1_, q2_, q3_, i64_w, i32_w]
        rfl
       refine pure_ (i := 5) (N := some 76) (v := ?_) (a' := ?_) #[true, true, true, true, true, true, false, false, false, false, false] rfl rfl (any_of HT_.out (by kernel_rfl)) (fun _ _ _ h => h) (Or.inl ⟨by rfl, ?_⟩) ?_ ?_
       rotate_left
       ·intro w'
        go_simp
        with_reducible rfl
       rotate_left
       ·simp only [Act.put, q1_, q2_, q3_, i64_w, i32_w]
        rfl
       refine pure_ (i := 6) (N := some 77) (v := ?_) (a' := ?_) #[true, true, true, true, true, true, true, false, false, false, false] rfl rfl (any_of HT_.out (by kernel_rfl)) (fun _ _ _ h => h) (Or.inl ⟨by rfl, ?_⟩) ?_ ?_
       rotate_left
       ·intro w'
        go_simp
        with_reducible rfl
       rotate_left
       ·simp only [Act.put, q1_, q2_, q3_, i64_w, i32_w]
        rfl
       refine pure_ (i := 8) (N := some 16) (v := ?_) (a' := ?_) #[true, true, true, true, true, true, true, false, true, false, false] rfl rfl (any_of HT_.out (by kernel_rfl)) (fun _ _ _ h => h) (Or.inl ⟨by rfl, ?_⟩) ?_ ?_
       rotate_left
       ·intro w'
        go_simp
        with_reducible rfl
       rotate_left
       ·simp only [Act.put, q1_, q2_, q3_, i64_w, i32_w]
        rfl
       refine pure_ (i := 9) (N := some 17) (v := ?_) (a' := ?_) #[true, true, true, true, true, true, true, false, true, true, false] rfl rfl (any_of HT_.out (by kernel_rfl)) (fun _ _ _ h => h) (Or.inl ⟨by rfl, ?_⟩) ?_ ?_
       rotate_left
       ·intro w'
        go_simp
        with_reducible rfl
       rotate_left
       ·simp only [Act.put, q1_, q2_, q3_, i64_w, i32_w]
        rfl
       refine one_ (i := 7) (N := some 78) #[true, true, true, true, true, true, true, true, true, true, false] rfl rfl (one_of HT_.out (by kernel_rfl)) (by decide) (fun K hK => ?_)
       refine Kd.R_make_step (Kd.int .i64) _ 2 (by rfl) (N := 78) rfl 56 _ _ rfl t139 rfl rfl Try.underlying56 (.int .i64 0) 8 info2 rfl (by decide) (by omega) 0 (ok := fun _ => True) (okp := fun _ => True) rfl (fun _ hk => hk) trivial (of_decide_eq_true (by first | (with_reducible assumption) | assumption)) (Nat.le_trans (Nat.mul_le_mul_right _ (of_decide_eq_true (by first | (with_reducible assumption) | assumption) : t139.toNat ≤ 35184372088832)) (by omega)) (Below.refl _ _) (Nat.le_refl _) ?_
       intro v150 w37 ho38 hb hg_ hnew_
       clear hg_ hnew_
       (first | rw [← Ny149.out] at ho38 | (simp only [Int.reduceToNat] at ho38; rw [← Ny149.out] at ho38))
       have n0_ := Aside0.mk (Kd.S_elder' (by (with_reducible repeat (first | apply Kd.S_alloc | apply Kd.S_drewN | apply Kd.S_drew)); exact HO_13.out) (Kd.R_base ho38) hb)
       have n1_ := Aside0.mk (Kd.R_lower ho38 (below_size (by repeat (first | (with_reducible first | exact HB.out | apply lA_ | apply lN_ | apply lD_ | refine lS_ ?_ GE137.out) | exact HB.out))))
       have n2_ := Aside0.mk (blk_below (g := gb137) (o := .cells #[.int .i64 a0_0, .slice A0_1 l0_1.length c0_1] 36 (0, 0)) (by (with_reducible repeat (first | apply bN_ | apply bD_ | apply bA_)); exact BK137.out) hb)
       have n3_ := Aside0.mk (below_step (by repeat (first | (with_reducible first | exact HB.out | apply lA_ | apply lN_ | apply lD_ | refine lS_ ?_ GE137.out) | exact HB.out)) hb)
       clear HO_13
       clear BK137
       clear HB
       have HO_13 := n0_
       have HO151 := n1_
       have BK137 := n2_
       have HB := n3_
       clear n0_ n1_ n2_ n3_
       clear hb ho38
       refine hK.out _ _ trivial (fun hHeld => ?_)
       clear hK K
       refine norm_ (a' := ?_) ?_ ?_
       rotate_left
       ·show Act.put _ (some 78) _ = _
        simp only [Act.put, q1_, q2_, q3_, i64_w, i32_w]
        rfl
       refine pure_ (i := 10) (N := some 18) (v := ?_) (a' := ?_) #[true, true, true, true, true, true, true, true, true, true, true] rfl rfl (any_of HT_.out (by kernel_rfl)) (fun _ _ _ h => h) (Or.inl ⟨by rfl, ?_⟩) ?_ ?_
       rotate_left
       ·intro w'
        go_simp
        with_reducible rfl
       rotate_left
       ·simp only [Act.put, q1_, q2_, q3_, i64_w, i32_w]
        rfl
       refine done_ (done_of HT_.out (by kernel_rfl)) ?_
       try go_wp2_with (first | ((with_reducible refine gate_callee (f := 76) rfl ?_); refine goesL_ (some 81) rfl rfl Try.func76 (by kernel_rfl) rfl #[.int .i64 a0_0, .int .i64 (Int.tmod x15_2 ((rd_L1 l1 0).length : Int))] rfl (by (try simp only [List.map_toArray, List.map_cons, List.map_nil]); first | done | rfl | (simp only [List.length_drop, List.length_take]; rfl)) ?_; (with_reducible refine (spec_l03Power.calls k2 a0_0 (Int.tmod x15_2 ((rd_L1 l1 0).length : Int)) t152 _ A35.out).mono ?_); rintro e w' ⟨rfl, ⟨nd, rfl⟩⟩; refine ⟨_, rfl, ?_⟩))
       go_loopg [20] k2 (fun kq v20 w' => ∃ (x18_3 : List Int) (x20_3 : Int), v20 = .int .i64 x20_3 ∧ Aside0 (spec_l03Layers.l2 kq l1 l2 ((rd_L1 l1 0).length : Int) a0_0 t139 x13_2 t148 x15_2 (wrap64 (Int.tdiv x15_2 ((rd_L1 l1 0).length : Int))) (Int.tmod x15_2 ((rd_L1 l1 0).length : Int)) x18_3 t152 x20_3 a0_0 l0_1 = some r) ∧ Aside0 (kq ≤ k2) ∧ Aside0 (Kd.S (Kd.slice 2 (Kd.int .i64)) 56 w' w.heap.size (fun k_ => some k_ ≠ (v150 : Value).ownBlock) (.slice (some ⟨go25, 0, none⟩) x13_2.length co25) x13_2) ∧ Aside0 (Kd.R (Kd.int .i64) 2 w' w.heap.size (fun _ => True) v150 x18_3) ∧ Aside0 (w'.heap[gb137]? = some (.cells #[.int .i64 a0_0, (.slice A0_1 l0_1.length c0_1)] 36 (0, 0))) ∧ Aside0 (Below w.heap.size w w'))
       case atStart => exact ⟨(y149), (0), (by first | rfl | (simp; done) | (simp [*]; done) | (simp; decide +kernel)), H', ⟨Nat.le_refl _⟩, ⟨by (try simp only [hl11_1]); (try simp only [hl13_2]); (with_reducible repeat (first | apply Kd.S_alloc | apply Kd.S_drewN | apply Kd.S_drew)); exact Kd.S_mono HO_13.out (fun _ hk => hk.2)⟩, ⟨by (try simp only [hl11_1]); (try simp only [hl13_2]); (with_reducible repeat (first | apply Kd.R_alloc | apply Kd.R_drewN | apply Kd.R_drew)); exact HO151.out⟩, ⟨by (try simp only [hl11_1]); (try simp only [hl13_2]); (with_reducible repeat (first | apply bN_ | apply bD_ | apply bA_)); exact BK137.out⟩, ⟨by repeat (first | (with_reducible first | exact HB.out | apply lA_ | apply lN_ | apply lD_ | refine lS_ ?_ GE137.out) | exact HB.out)⟩⟩
       case round =>
        clear H'
        try clear c1
        try clear p1
        try clear q1
        try clear hx1
        try clear qi1
        try clear c2
        try clear p2
        try clear q2
        try clear hx2
        try clear c3
        try clear c4
        try clear c4b0
        try clear c4b1
        try clear c5
        try clear c6
        try clear c6b0
        try clear c6b1
        try clear p6
        try clear c7
        try clear c7b0
        try clear c7b1
        try clear c13
        try clear c13b0
        try clear p13
        try clear q13
        try clear hx13
        try clear qi13
        try clear c14
        try clear c14b0
        try clear c15
        try clear c15b0
        try clear p16
        try clear q16
        try clear hx16
        try clear hf16
        try clear c20
        try clear c20b0
        try clear c20b1
        try clear c21
        try clear c21b0
        try clear c21b1
        try clear c23
        try clear c23b0
        try clear c24
        try clear c24b0
        try clear c25
        try clear p25
        try clear q25
        try clear hx25
        try clear hf25
        try clear c29
        try clear hx29
        try clear hf29
        try clear c31
        try clear c31b0
        try clear c32
        try clear c32b0
        try clear c32b1
        try clear c32b2
        try clear c33
        try clear c33b0
        try clear c33b1
        try clear c34
        try clear c34b0
        try clear c34b1
        try clear hx138_0
        try clear hx16_0
        try clear hx25_0
        try clear hx29_0
        try clear p1
        try clear p13
        try clear p138
        try clear p16
        try clear p2
        try clear p25
        try clear p6
        try clear q1
        try clear q13
        try clear q138
        try clear q16
        try clear q2
        try clear q25
        obtain ⟨x18_3, x20_3, rfl, HA, HK3, HO_13, HO_18, BK137, HB⟩ := hrel
        cases gk with
        | zero => exact absurd HA.out (by simp [spec_l03Layers.l2])
        | succ k3 =>
         have H := HA.out
         clear HA
         simp only [spec_l03Layers.l2] at H
         by_cases c39 : x20_3 < (l0_1.length : Int)
         rotate_left
         ·rw [if_neg c39] at H
          have c39b0 : decide (x20_3 < (l0_1.length : Int)) = false := decide_eq_false c39
          (try (have c39b0_hl11_1 := c39b0; rw [hl11_1] at c39b0_hl11_1))
          (try (have c39b0_hl13_2 := c39b0; rw [hl13_2] at c39b0_hl13_2))
          clear c39
          by_cases c134 : 0 ≤ x15_2
          rotate_left
          ·rw [if_neg c134] at H
           exact absurd H (by simp)
          rw [if_pos c134] at H
          have c134b0 : decide (0 ≤ x15_2) = true := decide_eq_true c134
          clear c134
          by_cases c135 : x15_2 < (x13_2.length : Int)
          rotate_left
          ·rw [if_neg c135] at H
           exact absurd H (by simp)
          rw [if_pos c135] at H
          have c135b0 : decide (x15_2 < (x13_2.length : Int)) = true := decide_eq_true c135
          clear c135
          obtain ⟨y153, hy153⟩ : ∃ y_ : List (List Int), y_ = (x13_2.set (x15_2 : Int).toNat x18_3) := ⟨_, rfl⟩
          replace H : (spec_l03Layers.l1 k3 l1 l2 ((rd_L1 l1 0).length : Int) a0_0 t139 y153 t148 (wrap64 (x15_2 - 1)) a0_0 l0_1) = some r := by first | (rw [hy153]; with_reducible exact H) | (have H2_ := (Option.bind_some _ _).symm.trans H; rw [hy153]; with_reducible exact H2_) | (have H2_ := (Option.bind_some _ _).symm.trans H; with_reducible exact H2_) | with_reducible exact H | (rw [hy153]; exact H) | exact H
          have Ny153 := Aside0.mk hy153
          clear hy153
          have H' := Aside0.mk H
          clear H
          have hcz137_0 : wr.cell? ⟨gb137, 0, none⟩ = some (.int .i64 a0_0) := (blk_cell BK137.out 0).trans rfl
          have hcz137_1 : wr.cell? ⟨gb137, 1, none⟩ = some (.slice A0_1 l0_1.length c0_1) := (blk_cell BK137.out 1).trans rfl
          have hfz137_0 := blk_frozen BK137.out 0
          have hfz137_1 := blk_frozen BK137.out 1
          have p136 : 0 ≤ (x15_2 : Int) := of_decide_eq_true (by first | (with_reducible assumption) | assumption)
          have q136 : (x15_2 : Int) < ((x13_2.length : Int) : Int) := of_decide_eq_true (by first | (with_reducible assumption) | assumption)
          obtain ⟨_, ce136, hcl136, hM136, hcc136, hfr136, _, _⟩ := Kd.S_elem HO_13.out [] (x15_2 : Int) p136 q136
          obtain ⟨ve136_0, rfl, ge136_0⟩ := hM136
          have hx136_0 := hcc136 0 _ rfl
          have hf136_0 := hfr136 0
          (try simp only [show ((Kd.slice 2 (Kd.int .i64))).sz = 1 from rfl, Nat.mul_one, Nat.add_zero] at hx136_0)
          (try simp only [show ((Kd.slice 2 (Kd.int .i64))).sz = 1 from rfl, Nat.mul_one, Nat.add_zero] at hf136_0)
          clear hcl136 hcc136 hfr136
          (try clear hM136)
          replace p136 := eq_true p136
          replace q136 := eq_true q136
          obtain ⟨Ao140, co140, eo140⟩ := Kd.R_slice HO_18.out
          subst eo140
          have HX138 := Aside0.mk (show Kd.S (Kd.slice 2 (Kd.int .i64)) 56 wr w.heap.size (fun k_ => ((fun _ => True)) k_ ∧ ¬ ((fun k_ => some k_ = (.slice Ao140 x18_3.length co140 : Value).ownBlock)) k_) (.slice (some ⟨go25, 0, none⟩) x13_2.length co25) x13_2 from (by (with_reducible repeat (first | apply Kd.S_alloc | apply Kd.S_drewN | apply Kd.S_drew)); exact Kd.S_mono HO_13.out (fun k_ hk => ⟨trivial, fun e_ => hk e_⟩)))
          obtain ⟨oki138, ce138, hcl138, hM138, hcc138, hfr138, hoki138, hH138⟩ := Kd.S_elem HX138.out [] (x15_2 : Int) (of_decide_eq_true (by first | (with_reducible assumption) | assumption)) (by have h_ : (x15_2 : Int) < ((x13_2.length : Int) : Int) := of_decide_eq_true (by first | (with_reducible assumption) | assumption); first | exact h_ | (have e_ := (Kd.S_reads' HO_13.out).1; omega) | simpa using h_)
          obtain ⟨ve138_0, rfl, ge138_0⟩ := hM138
          have HP138 := Kd.S_seg hH138 (of_decide_eq_true (by first | (with_reducible assumption) | assumption)) (by have h_ : (x15_2 : Int) < ((x13_2.length : Int) : Int) := of_decide_eq_true (by first | (with_reducible assumption) | assumption); first | exact h_ | (have e_ := (Kd.S_reads' HO_13.out).1; omega) | simpa using h_) (seg := [.slice Ao140 x18_3.length co140]) (j := 0) (show 1 ≤ 1 from by decide) (x' := x18_3) (Kd.M_row (Kd.R_mono (Kd.R_tight rfl (Kd.R_mono (ok' := fun k_ => ((fun _ => True)) k_ ∧ k_ ≠ go25) (Kd.R_apart' (HO_18.out) (Kd.S_typed HO_13.out) (by decide)) (fun k_ hk => ⟨trivial, fun e_ => (hk.2) (by rw [e_]; rfl)⟩))) (fun _ h_ => Or.inr (h_)))) (fun _ hk => hk) (fun k_ hk_ => ((Kd.R_mono (ok' := fun k_ => ((fun _ => True)) k_ ∧ k_ ≠ go25) (Kd.R_apart' (HO_18.out) (Kd.S_typed HO_13.out) (by decide)) (fun k_ hk => ⟨trivial, fun e_ => (hk.2) (by rw [e_]; rfl)⟩))).1 k_ hk_.symm)
          have hx138_0 := hcc138 0 _ rfl
          (try simp only [show ((Kd.slice 2 (Kd.int .i64))).sz = 1 from rfl, Nat.mul_one, Nat.add_zero] at hx138_0)
          have hf138_0 := hfr138 0
          (try simp only [show ((Kd.slice 2 (Kd.int .i64))).sz = 1 from rfl, Nat.mul_one, Nat.add_zero] at hf138_0)
          clear hcl138 hcc138 hfr138 hoki138 hH138
          (try clear hM138)
          (try simp only [show ((Kd.slice 2 (Kd.int .i64))).sz = 1 from rfl, Nat.mul_one, Nat.add_zero] at HP138)
          go_wp2_with (first | ((with_reducible refine gate_store (t := 56) (p := 168) rfl ?_); refine store_event (t := 56) (p := 168) (v := ?vo_w139) (w1 := (wr.setCell ⟨go25, (x15_2 : Int).toNat, none⟩ (.slice Ao140 x18_3.length co140))) ?hg ?ho ?hn ?hr ?_; (case ho => rfl); (case hg => rfl); (case hn => rfl); (case hr => first | (go_simp; done) | (go_simp; rfl)); intro w139 hw; have hg : wr.grownBy w139 (some go25) := (by rw [hw]; exact HP138.2); have hp_ : Kd.S (Kd.slice 2 (Kd.int .i64)) 56 w139 w.heap.size (fun _ => True) (.slice (some ⟨go25, 0, none⟩) x13_2.length co25) y153 := (by rw [hw, Ny153.out]; exact HP138.1); clear HP138; have n0_ := Aside0.mk (hp_); have n1_ := Aside0.mk (blk_grown (g := gb137) (o := .cells #[.int .i64 a0_0, .slice A0_1 l0_1.length c0_1] 36 (0, 0)) (by (with_reducible repeat (first | apply bN_ | apply bD_ | apply bA_)); exact BK137.out) hg (Kd.S_ne HO_13.out BK137.out (by decide))); have n2_ := Aside0.mk ((by rw [hw]; exact below_set (HB.out) GB25.out : Below w.heap.size w w139)); clear HO_13; clear BK137; clear HB; clear HO_18; have HO_13 := n0_; have BK137 := n1_; have HB := n2_; clear n0_ n1_ n2_; clear hg hw hp_))
          (try simp only [← hl13_2])
          go_roundg k3
          case measure => have := HK1.out; have := HK2.out; have := HK3.out; omega
          case rel => exact ⟨(y153), (wrap64 (x15_2 - 1)), (by first | rfl | (simp; done) | (simp [*]; done) | (simp; decide +kernel)), H', ⟨by have := HK1.out; have := HK2.out; have := HK3.out; omega⟩, ⟨by (try simp only [hl11_1]); (try simp only [hl13_2]); (with_reducible repeat (first | apply Kd.S_alloc | apply Kd.S_drewN | apply Kd.S_drew)); exact HO_13.out⟩, ⟨by (try simp only [hl11_1]); (try simp only [hl13_2]); (with_reducible repeat (first | apply bN_ | apply bD_ | apply bA_)); exact BK137.out⟩, ⟨by repeat (first | (with_reducible first | exact HB.out | apply lA_ | apply lN_ | apply lD_ | refine lS_ ?_ GE137.out) | exact HB.out)⟩⟩
         rw [if_pos c39] at H
         have c39b0 : decide (x20_3 < (l0_1.length : Int)) = true := decide_eq_true c39
         clear c39
         replace H := Option.bind_eq_some_iff.mp H
         obtain ⟨t154, A400, H⟩ := H
         replace H : (if t154 = true then (if 0 ≤ x20_3 then (spec_l03Layers.l3 k3 l1 l2 ((rd_L1 l1 0).length : Int) a0_0 t139 x13_2 t148 x15_2 (wrap64 (Int.tdiv x15_2 ((rd_L1 l1 0).length : Int))) (Int.tmod x15_2 ((rd_L1 l1 0).length : Int)) x18_3 t152 x20_3 0 a0_0 l0_1 ((rd_T85 l0_1 x20_3).f0) ((rd_T85 l0_1 x20_3).f1) ((rd_T85 l0_1 x20_3).f2) ((rd_T85 l0_1 x20_3).f3)) else (none)) else (spec_l03Layers.l2 k3 l1 l2 ((rd_L1 l1 0).length : Int) a0_0 t139 x13_2 t148 x15_2 (wrap64 (Int.tdiv x15_2 ((rd_L1 l1 0).length : Int))) (Int.tmod x15_2 ((rd_L1 l1 0).length : Int)) x18_3 t152 (wrap64 (x20_3 + 1)) a0_0 l0_1)) = some r := H
         have A40 := Aside0.mk A400
         clear A400
         by_cases c41 : t154 = true
         rotate_left
         ·replace c41 := Bool.eq_false_iff.mpr c41
          subst c41
          have H1 : (spec_l03Layers.l2 k3 l1 l2 ((rd_L1 l1 0).length : Int) a0_0 t139 x13_2 t148 x15_2 (wrap64 (Int.tdiv x15_2 ((rd_L1 l1 0).length : Int))) (Int.tmod x15_2 ((rd_L1 l1 0).length : Int)) x18_3 t152 (wrap64 (x20_3 + 1)) a0_0 l0_1) = some r := by rw [if_neg (show ¬ (false = true) by decide)] at H; exact H
          clear H
          have H := H1
          clear H1
          have H' := Aside0.mk H
          clear H
          have hcz132_0 : wr.cell? ⟨gb137, 0, none⟩ = some (.int .i64 a0_0) := (blk_cell BK137.out 0).trans rfl
          have hcz132_1 : wr.cell? ⟨gb137, 1, none⟩ = some (.slice A0_1 l0_1.length c0_1) := (blk_cell BK137.out 1).trans rfl
          have hfz132_0 := blk_frozen BK137.out 0
          have hfz132_1 := blk_frozen BK137.out 1
          go_wp2_with (first | ((with_reducible refine gate_callee (f := 77) rfl ?_); refine goesL_ (some 95) rfl rfl Try.func77 (by kernel_rfl) rfl #[.agg #[.int .i64 a0_0, .slice A0_1 l0_1.length c0_1], .slice (some ad138) l1.length c1, .slice A2 l2.length c2, .int .i64 (wrap64 (Int.tdiv x15_2 ((rd_L1 l1 0).length : Int))), .int .i64 (Int.tmod x15_2 ((rd_L1 l1 0).length : Int)), .int .i64 x20_3] rfl (by (try simp only [List.map_toArray, List.map_cons, List.map_nil]); first | done | rfl | (simp only [List.length_drop, List.length_take]; rfl)) ?_; (with_reducible refine (spec_l03Fits.calls a0_0 _ _ l0_1 _ _ l1 _ _ l2 (wrap64 (Int.tdiv x15_2 ((rd_L1 l1 0).length : Int))) (Int.tmod x15_2 ((rd_L1 l1 0).length : Int)) x20_3 false _ ?side1 ?side2 ?side3 ?side4 ?side5 ?side6 A40.out).mono ?_); (case side1 => repeat (first | exact (Kd.C_below HR0_1.out HB.out) | (with_reducible refine Kd.C_alloc ?_ _) | (with_reducible refine Kd.C_drewN ?_ _) | (with_reducible refine Kd.C_drew ?_))); (case side2 => exact HC0_1.out); (case side3 => repeat (first | exact (Kd.C_below HR1.out HB.out) | (with_reducible refine Kd.C_alloc ?_ _) | (with_reducible refine Kd.C_drewN ?_ _) | (with_reducible refine Kd.C_drew ?_))); (case side4 => exact HC1.out); (case side5 => repeat (first | exact (Kd.C_below HR2.out HB.out) | (with_reducible refine Kd.C_alloc ?_ _) | (with_reducible refine Kd.C_drewN ?_ _) | (with_reducible refine Kd.C_drew ?_))); (case side6 => exact HC2.out); rintro e w133 ⟨rfl, hb⟩; refine ⟨_, rfl, ?_⟩; have n0_ := Aside0.mk (Kd.S_below (by (with_reducible repeat (first | apply Kd.S_alloc | apply Kd.S_drewN | apply Kd.S_drew)); exact HO_13.out) hb); have n1_ := Aside0.mk (Kd.R_below (by (with_reducible repeat (first | apply Kd.R_alloc | apply Kd.R_drewN | apply Kd.R_drew)); exact HO_18.out) hb); have n2_ := Aside0.mk (blk_below (g := gb137) (o := .cells #[.int .i64 a0_0, .slice A0_1 l0_1.length c0_1] 36 (0, 0)) (by (with_reducible repeat (first | apply bN_ | apply bD_ | apply bA_)); exact BK137.out) hb); have n3_ := Aside0.mk (below_step (by repeat (first | (with_reducible first | exact HB.out | apply lA_ | apply lN_ | apply lD_ | refine lS_ ?_ GE137.out) | exact HB.out)) hb); clear HO_13; clear HO_18; clear BK137; clear HB; have HO_13 := n0_; have HO_18 := n1_; have BK137 := n2_; have HB := n3_; clear n0_ n1_ n2_ n3_; (try clear hb); (try clear hb2); (try clear hk); (try clear hi)))
          go_roundg k3
          case measure => have := HK1.out; have := HK2.out; have := HK3.out; omega
          case rel => exact ⟨(x18_3), (wrap64 (x20_3 + 1)), (by first | rfl | (simp; done) | (simp [*]; done) | (simp; decide +kernel)), H', ⟨by have := HK1.out; have := HK2.out; have := HK3.out; omega⟩, ⟨by (try simp only [hl11_1]); (try simp only [hl13_2]); (with_reducible repeat (first | apply Kd.S_alloc | apply Kd.S_drewN | apply Kd.S_drew)); exact HO_13.out⟩, ⟨by (try simp only [hl11_1]); (try simp only [hl13_2]); (with_reducible repeat (first | apply Kd.R_alloc | apply Kd.R_drewN | apply Kd.R_drew)); exact HO_18.out⟩, ⟨by (try simp only [hl11_1]); (try simp only [hl13_2]); (with_reducible repeat (first | apply bN_ | apply bD_ | apply bA_)); exact BK137.out⟩, ⟨by repeat (first | (with_reducible first | exact HB.out | apply lA_ | apply lN_ | apply lD_ | refine lS_ ?_ GE137.out) | exact HB.out)⟩⟩
         subst c41
         have H1 : (if 0 ≤ x20_3 then (spec_l03Layers.l3 k3 l1 l2 ((rd_L1 l1 0).length : Int) a0_0 t139 x13_2 t148 x15_2 (wrap64 (Int.tdiv x15_2 ((rd_L1 l1 0).length : Int))) (Int.tmod x15_2 ((rd_L1 l1 0).length : Int)) x18_3 t152 x20_3 0 a0_0 l0_1 ((rd_T85 l0_1 x20_3).f0) ((rd_T85 l0_1 x20_3).f1) ((rd_T85 l0_1 x20_3).f2) ((rd_T85 l0_1 x20_3).f3)) else (none)) = some r := by rw [if_pos rfl] at H; exact H
         clear H
         have H := H1
         clear H1
         by_cases c42 : 0 ≤ x20_3
         rotate_left
         ·rw [if_neg c42] at H
          exact absurd H (by simp)
         rw [if_pos c42] at H
         have c42b0 : decide (0 ≤ x20_3) = true := decide_eq_true c42
         clear c42
         have H' := Aside0.mk H
         clear H
         have hcz43_0 : wr.cell? ⟨gb137, 0, none⟩ = some (.int .i64 a0_0) := (blk_cell BK137.out 0).trans rfl
         have hcz43_1 : wr.cell? ⟨gb137, 1, none⟩ = some (.slice A0_1 l0_1.length c0_1) := (blk_cell BK137.out 1).trans rfl
         have hfz43_0 := blk_frozen BK137.out 0
         have hfz43_1 := blk_frozen BK137.out 1
         go_wp2_with (first | ((with_reducible refine gate_callee (f := 77) rfl ?_); refine goesL_ (some 95) rfl rfl Try.func77 (by kernel_rfl) rfl #[.agg #[.int .i64 a0_0, .slice A0_1 l0_1.length c0_1], .slice (some ad138) l1.length c1, .slice A2 l2.length c2, .int .i64 (wrap64 (Int.tdiv x15_2 ((rd_L1 l1 0).length : Int))), .int .i64 (Int.tmod x15_2 ((rd_L1 l1 0).length : Int)), .int .i64 x20_3] rfl (by (try simp only [List.map_toArray, List.map_cons, List.map_nil]); first | done | rfl | (simp only [List.length_drop, List.length_take]; rfl)) ?_; (with_reducible refine (spec_l03Fits.calls a0_0 _ _ l0_1 _ _ l1 _ _ l2 (wrap64 (Int.tdiv x15_2 ((rd_L1 l1 0).length : Int))) (Int.tmod x15_2 ((rd_L1 l1 0).length : Int)) x20_3 true _ ?side1 ?side2 ?side3 ?side4 ?side5 ?side6 A40.out).mono ?_); (case side1 => repeat (first | exact (Kd.C_below HR0_1.out HB.out) | (with_reducible refine Kd.C_alloc ?_ _) | (with_reducible refine Kd.C_drewN ?_ _) | (with_reducible refine Kd.C_drew ?_))); (case side2 => exact HC0_1.out); (case side3 => repeat (first | exact (Kd.C_below HR1.out HB.out) | (with_reducible refine Kd.C_alloc ?_ _) | (with_reducible refine Kd.C_drewN ?_ _) | (with_reducible refine Kd.C_drew ?_))); (case side4 => exact HC1.out); (case side5 => repeat (first | exact (Kd.C_below HR2.out HB.out) | (with_reducible refine Kd.C_alloc ?_ _) | (with_reducible refine Kd.C_drewN ?_ _) | (with_reducible refine Kd.C_drew ?_))); (case side6 => exact HC2.out); rintro e w44 ⟨rfl, hb⟩; refine ⟨_, rfl, ?_⟩; have n0_ := Aside0.mk (Kd.S_below (by (with_reducible repeat (first | apply Kd.S_alloc | apply Kd.S_drewN | apply Kd.S_drew)); exact HO_13.out) hb); have n1_ := Aside0.mk (Kd.R_below (by (with_reducible repeat (first | apply Kd.R_alloc | apply Kd.R_drewN | apply Kd.R_drew)); exact HO_18.out) hb); have n2_ := Aside0.mk (blk_below (g := gb137) (o := .cells #[.int .i64 a0_0, .slice A0_1 l0_1.length c0_1] 36 (0, 0)) (by (with_reducible repeat (first | apply bN_ | apply bD_ | apply bA_)); exact BK137.out) hb); have n3_ := Aside0.mk (below_step (by repeat (first | (with_reducible first | exact HB.out | apply lA_ | apply lN_ | apply lD_ | refine lS_ ?_ GE137.out) | exact HB.out)) hb); clear HO_13; clear HO_18; clear BK137; clear HB; have HO_13 := n0_; have HO_18 := n1_; have BK137 := n2_; have HB := n3_; clear n0_ n1_ n2_ n3_; (try clear hb); (try clear hb2); (try clear hk); (try clear hi); have hcz45_0 : w44.cell? ⟨gb137, 0, none⟩ = some (.int .i64 a0_0) := (blk_cell BK137.out 0).trans rfl; have hcz45_1 : w44.cell? ⟨gb137, 1, none⟩ = some (.slice A0_1 l0_1.length c0_1) := (blk_cell BK137.out 1).trans rfl; have hfz45_0 := blk_frozen BK137.out 0; have hfz45_1 := blk_frozen BK137.out 1; have p155 : 0 ≤ (x20_3 : Int) := of_decide_eq_true (by first | (with_reducible assumption) | assumption); have q155 : x20_3 < (l0_1.length : Int) := of_decide_eq_true (by first | (with_reducible assumption) | assumption); obtain ⟨ad155, e155, hx155_0, hx155_1, hx155_2, hx155_3⟩ := at_T85 HR0_1.out x20_3 p155 q155; cases e155; replace hx155_0 := (HB.out.cell (World.block_lt_of_cell? w _ hx155_0)).trans hx155_0; replace hx155_1 := (HB.out.cell (World.block_lt_of_cell? w _ hx155_1)).trans hx155_1; replace hx155_2 := (HB.out.cell (World.block_lt_of_cell? w _ hx155_2)).trans hx155_2; replace hx155_3 := (HB.out.cell (World.block_lt_of_cell? w _ hx155_3)).trans hx155_3; replace p155 := eq_true p155; replace q155 := eq_true q155) | ((with_reducible refine gate_dst (N := 21) rfl ?_); refine box_event ?hg (N := 21) ?hd (cs := #[.int .i64 0, .int .i64 0, .int .i64 0, .int .i64 0]) (t := 85) ?hr ?_; (case hd => rfl); (case hg => rfl); (case hr => first | (go_simp; done) | (go_simp; rfl)); intro gb156 hg w46 hbox hb; have n0_ := Aside0.mk (Kd.S_below (by (with_reducible repeat (first | apply Kd.S_alloc | apply Kd.S_drewN | apply Kd.S_drew)); exact HO_13.out) hb); have n1_ := Aside0.mk (Kd.R_below (by (with_reducible repeat (first | apply Kd.R_alloc | apply Kd.R_drewN | apply Kd.R_drew)); exact HO_18.out) hb); have n2_ := Aside0.mk (blk_below (g := gb137) (o := .cells #[.int .i64 a0_0, .slice (some ad155) l0_1.length c0_1] 36 (0, 0)) (by (with_reducible repeat (first | apply bN_ | apply bD_ | apply bA_)); exact BK137.out) hb); have n3_ := Aside0.mk (below_step (by repeat (first | (with_reducible first | exact HB.out | apply lA_ | apply lN_ | apply lD_ | refine lS_ ?_ GE137.out) | exact HB.out)) hb); have n4_ := Aside0.mk (hbox); have n5_ := Aside0.mk ((by rw [hg]; exact (below_size (by repeat (first | (with_reducible first | exact HB.out | apply lA_ | apply lN_ | apply lD_ | refine lS_ ?_ GE137.out) | exact HB.out))) : w.heap.size ≤ gb156)); have n6_ := Aside0.mk ((by rw [hg]; exact (below_size (by repeat (first | (with_reducible first | exact HB.out | apply lA_ | apply lN_ | apply lD_ | refine lS_ ?_ GE137.out) | exact HB.out))) : w.heap.size ≤ gb156)); have n7_ := Aside0.mk ((by rw [hg]; exact Nat.ne_of_lt (blk_lt (g := gb137) (o := .cells #[.int .i64 a0_0, .slice (some ad155) l0_1.length c0_1] 36 (0, 0)) (by (with_reducible repeat (first | apply bN_ | apply bD_ | apply bA_)); exact BK137.out)) : gb137 ≠ gb156)); have n8_ := Aside0.mk ((by rw [hg]; exact Nat.ne_of_gt (blk_lt (g := gb137) (o := .cells #[.int .i64 a0_0, .slice (some ad155) l0_1.length c0_1] 36 (0, 0)) (by (with_reducible repeat (first | apply bN_ | apply bD_ | apply bA_)); exact BK137.out)) : gb156 ≠ gb137)); clear HO_13; clear HO_18; clear BK137; clear HB; have HO_13 := n0_; have HO_18 := n1_; have BK137 := n2_; have HB := n3_; have BK156 := n4_; have GW156 := n5_; have GE156 := n6_; have NB137_156 := n7_; have NB156_137 := n8_; clear n0_ n1_ n2_ n3_ n4_ n5_ n6_ n7_ n8_; clear hb hbox hg; have hnb47 := NB156_137.out; have hnc47 := NB137_156.out; have hcz48_0 : w46.cell? ⟨gb156, 0, none⟩ = some (.int .i64 0) := (blk_cell BK156.out 0).trans rfl; have hcz48_1 : w46.cell? ⟨gb156, 1, none⟩ = some (.int .i64 0) := (blk_cell BK156.out 1).trans rfl; have hcz48_2 : w46.cell? ⟨gb156, 2, none⟩ = some (.int .i64 0) := (blk_cell BK156.out 2).trans rfl; have hcz48_3 : w46.cell? ⟨gb156, 3, none⟩ = some (.int .i64 0) := (blk_cell BK156.out 3).trans rfl; have hfz48_0 := blk_frozen BK156.out 0; have hfz48_1 := blk_frozen BK156.out 1; have hfz48_2 := blk_frozen BK156.out 2; have hfz48_3 := blk_frozen BK156.out 3))
         go_loopg [22] k3 (fun kq v22 w' => ∃ (x18_4 : List Int) (x22_4 : Int), v22 = .int .i64 x22_4 ∧ Aside0 (spec_l03Layers.l3 kq l1 l2 ((rd_L1 l1 0).length : Int) a0_0 t139 x13_2 t148 x15_2 (wrap64 (Int.tdiv x15_2 ((rd_L1 l1 0).length : Int))) (Int.tmod x15_2 ((rd_L1 l1 0).length : Int)) x18_4 t152 x20_3 x22_4 a0_0 l0_1 ((rd_T85 l0_1 x20_3).f0) ((rd_T85 l0_1 x20_3).f1) ((rd_T85 l0_1 x20_3).f2) ((rd_T85 l0_1 x20_3).f3) = some r) ∧ Aside0 (kq ≤ k3) ∧ Aside0 (Kd.S (Kd.slice 2 (Kd.int .i64)) 56 w' w.heap.size (fun k_ => some k_ ≠ (v150 : Value).ownBlock) (.slice (some ⟨go25, 0, none⟩) x13_2.length co25) x13_2) ∧ Aside0 (Kd.R (Kd.int .i64) 2 w' w.heap.size (fun _ => True) v150 x18_4) ∧ Aside0 (w'.heap[gb137]? = some (.cells #[.int .i64 a0_0, (.slice (some ad155) l0_1.length c0_1)] 36 (0, 0))) ∧ Aside0 (w'.heap[gb156]? = some (.cells #[.int .i64 ((rd_T85 l0_1 x20_3).f0), .int .i64 ((rd_T85 l0_1 x20_3).f1), .int .i64 ((rd_T85 l0_1 x20_3).f2), .int .i64 ((rd_T85 l0_1 x20_3).f3)] 85 (0, 0))) ∧ Aside0 (Below w.heap.size w w'))
         case atStart => exact ⟨(x18_3), (0), (by first | rfl | (simp; done) | (simp [*]; done) | (simp; decide +kernel)), H', ⟨Nat.le_refl _⟩, ⟨by (try simp only [hl11_1]); (try simp only [hl13_2]); (with_reducible repeat (first | apply Kd.S_alloc | apply Kd.S_drewN | apply Kd.S_drew)); exact Kd.S_mono (Kd.S_far (p := ⟨gb156, 3, none⟩) (Kd.S_far (p := ⟨gb156, 2, none⟩) (Kd.S_far (p := ⟨gb156, 1, none⟩) (Kd.S_far (p := ⟨gb156, 0, none⟩) (Kd.S_types HO_13.out BK156.out (by decide)) (fun _ hk => hk.2) (.int .i64 ((rd_T85 l0_1 x20_3).f0))) (fun _ hk => hk.2) (.int .i64 ((rd_T85 l0_1 x20_3).f1))) (fun _ hk => hk.2) (.int .i64 ((rd_T85 l0_1 x20_3).f2))) (fun _ hk => hk.2) (.int .i64 ((rd_T85 l0_1 x20_3).f3))) (fun _ hk => hk.1)⟩, ⟨by (try simp only [hl11_1]); (try simp only [hl13_2]); (with_reducible repeat (first | apply Kd.R_alloc | apply Kd.R_drewN | apply Kd.R_drew)); exact Kd.R_mono (Kd.R_far (p := ⟨gb156, 3, none⟩) (Kd.R_far (p := ⟨gb156, 2, none⟩) (Kd.R_far (p := ⟨gb156, 1, none⟩) (Kd.R_far (p := ⟨gb156, 0, none⟩) (Kd.R_types HO_18.out BK156.out (by decide)) (fun _ hk => hk.2) (.int .i64 ((rd_T85 l0_1 x20_3).f0))) (fun _ hk => hk.2) (.int .i64 ((rd_T85 l0_1 x20_3).f1))) (fun _ hk => hk.2) (.int .i64 ((rd_T85 l0_1 x20_3).f2))) (fun _ hk => hk.2) (.int .i64 ((rd_T85 l0_1 x20_3).f3))) (fun _ hk => trivial)⟩, ⟨by (try simp only [hl11_1]); (try simp only [hl13_2]); (with_reducible repeat (first | apply bN_ | apply bD_ | apply bA_)); refine blk_far ?_ NB137_156.out _; (with_reducible repeat (first | apply bN_ | apply bD_ | apply bA_)); refine blk_far ?_ NB137_156.out _; (with_reducible repeat (first | apply bN_ | apply bD_ | apply bA_)); refine blk_far ?_ NB137_156.out _; (with_reducible repeat (first | apply bN_ | apply bD_ | apply bA_)); refine blk_far ?_ NB137_156.out _; (with_reducible repeat (first | apply bN_ | apply bD_ | apply bA_)); exact BK137.out⟩, ⟨by (try simp only [hl11_1]); (try simp only [hl13_2]); (with_reducible repeat (first | apply bN_ | apply bD_ | apply bA_)); refine blk_put (cs := #[.int .i64 ((rd_T85 l0_1 x20_3).f0), .int .i64 ((rd_T85 l0_1 x20_3).f1), .int .i64 ((rd_T85 l0_1 x20_3).f2), .int .i64 0]) ?_ 3 _ rfl; (with_reducible repeat (first | apply bN_ | apply bD_ | apply bA_)); refine blk_put (cs := #[.int .i64 ((rd_T85 l0_1 x20_3).f0), .int .i64 ((rd_T85 l0_1 x20_3).f1), .int .i64 0, .int .i64 0]) ?_ 2 _ rfl; (with_reducible repeat (first | apply bN_ | apply bD_ | apply bA_)); refine blk_put (cs := #[.int .i64 ((rd_T85 l0_1 x20_3).f0), .int .i64 0, .int .i64 0, .int .i64 0]) ?_ 1 _ rfl; (with_reducible repeat (first | apply bN_ | apply bD_ | apply bA_)); refine blk_put (cs := #[.int .i64 0, .int .i64 0, .int .i64 0, .int .i64 0]) ?_ 0 _ rfl; (with_reducible repeat (first | apply bN_ | apply bD_ | apply bA_)); exact BK156.out⟩, ⟨by repeat (first | (with_reducible first | exact HB.out | apply lA_ | apply lN_ | apply lD_ | refine lS_ ?_ GE137.out | refine lS_ ?_ GE156.out) | exact HB.out)⟩⟩
         case round =>
          clear H'
          try clear c1
          try clear p1
          try clear q1
          try clear hx1
          try clear qi1
          try clear c2
          try clear p2
          try clear q2
          try clear hx2
          try clear c3
          try clear c4
          try clear c4b0
          try clear c4b1
          try clear c5
          try clear c6
          try clear c6b0
          try clear c6b1
          try clear p6
          try clear c7
          try clear c7b0
          try clear c7b1
          try clear c13
          try clear c13b0
          try clear p13
          try clear q13
          try clear hx13
          try clear qi13
          try clear c14
          try clear c14b0
          try clear c15
          try clear c15b0
          try clear p15
          try clear q15
          try clear hx15
          try clear p16
          try clear q16
          try clear hx16
          try clear hf16
          try clear c20
          try clear c20b0
          try clear c20b1
          try clear c21
          try clear c21b0
          try clear c21b1
          try clear c23
          try clear c23b0
          try clear c24
          try clear c24b0
          try clear c25
          try clear p25
          try clear q25
          try clear hx25
          try clear hf25
          try clear c29
          try clear hx29
          try clear hf29
          try clear c31
          try clear c31b0
          try clear c32
          try clear c32b0
          try clear c32b1
          try clear c32b2
          try clear c33
          try clear c33b0
          try clear c33b1
          try clear c34
          try clear c34b0
          try clear c34b1
          try clear c39
          try clear c39b0
          try clear c41
          try clear c42
          try clear c42b0
          try clear c47
          try clear hcz43_0
          try clear hcz43_1
          try clear hcz45_0
          try clear hcz45_1
          try clear hcz48_0
          try clear hcz48_1
          try clear hcz48_2
          try clear hcz48_3
          try clear hfz43_0
          try clear hfz43_1
          try clear hfz45_0
          try clear hfz45_1
          try clear hfz48_0
          try clear hfz48_1
          try clear hfz48_2
          try clear hfz48_3
          try clear hx138_0
          try clear hx155_0
          try clear hx155_1
          try clear hx155_2
          try clear hx155_3
          try clear hx16_0
          try clear hx25_0
          try clear hx29_0
          try clear p1
          try clear p13
          try clear p138
          try clear p155
          try clear p16
          try clear p2
          try clear p25
          try clear p6
          try clear q1
          try clear q13
          try clear q138
          try clear q155
          try clear q16
          try clear q2
          try clear q25
          obtain ⟨x18_4, x22_4, rfl, HA, HK4, HO_13, HO_18, BK137, BK156, HB⟩ := hrel
          cases gk with
          | zero => exact absurd HA.out (by simp [spec_l03Layers.l3])
          | succ k4 =>
           have H := HA.out
           clear HA
           simp only [spec_l03Layers.l3] at H
           by_cases c49 : x22_4 < t139
           rotate_left
           ·rw [if_neg c49] at H
            have c49b0 : decide (x22_4 < t139) = false := decide_eq_false c49
            clear c49
            have H' := Aside0.mk H
            clear H
            go_wp2
            go_roundg k4
            case measure => have := HK1.out; have := HK2.out; have := HK3.out; have := HK4.out; omega
            case rel => exact ⟨(x18_4), (wrap64 (x20_3 + 1)), (by first | rfl | (simp; done) | (simp [*]; done) | (simp; decide +kernel)), H', ⟨by have := HK1.out; have := HK2.out; have := HK3.out; have := HK4.out; omega⟩, ⟨by (try simp only [hl11_1]); (try simp only [hl13_2]); (with_reducible repeat (first | apply Kd.S_alloc | apply Kd.S_drewN | apply Kd.S_drew)); exact HO_13.out⟩, ⟨by (try simp only [hl11_1]); (try simp only [hl13_2]); (with_reducible repeat (first | apply Kd.R_alloc | apply Kd.R_drewN | apply Kd.R_drew)); exact HO_18.out⟩, ⟨by (try simp only [hl11_1]); (try simp only [hl13_2]); (with_reducible repeat (first | apply bN_ | apply bD_ | apply bA_)); exact BK137.out⟩, ⟨by repeat (first | (with_reducible first | exact HB.out | apply lA_ | apply lN_ | apply lD_ | refine lS_ ?_ GE137.out | refine lS_ ?_ GE156.out) | exact HB.out)⟩⟩
           rw [if_pos c49] at H
           have c49b0 : decide (x22_4 < t139) = true := decide_eq_true c49
           clear c49
           by_cases c50 : t152 = 0
           rotate_left
           ·rw [if_neg c50] at H
            have c50b0 : (t152 == 0) = false := beq_eq_false_iff_ne.mpr c50
            have c50b1 : (t152 != 0) = true := bne_iff_ne.mpr c50
            by_cases c51 : a0_0 = 0
            rotate_left
            ·rw [if_neg c51] at H
             have c51b0 : (a0_0 == 0) = false := beq_eq_false_iff_ne.mpr c51
             have c51b1 : (a0_0 != 0) = true := bne_iff_ne.mpr c51
             by_cases c52 : t148 = 0
             rotate_left
             ·rw [if_neg c52] at H
              have c52b0 : (t148 == 0) = false := beq_eq_false_iff_ne.mpr c52
              have c52b1 : (t148 != 0) = true := bne_iff_ne.mpr c52
              by_cases c53 : (wrap64 (Int.tdiv x15_2 ((rd_L1 l1 0).length : Int))) > 0
              rotate_left
              ·rw [if_neg c53] at H
               have c53b0 : decide (0 < (wrap64 (Int.tdiv x15_2 ((rd_L1 l1 0).length : Int)))) = false := decide_eq_false c53
               (try (have c53b0_hl11_1 := c53b0; rw [hl11_1] at c53b0_hl11_1))
               (try (have c53b0_hl13_2 := c53b0; rw [hl13_2] at c53b0_hl13_2))
               clear c53
               by_cases c95 : (Int.tmod x15_2 ((rd_L1 l1 0).length : Int)) > 0
               rotate_left
               ·rw [if_neg c95] at H
                have c95b0 : decide (0 < (Int.tmod x15_2 ((rd_L1 l1 0).length : Int))) = false := decide_eq_false c95
                (try (have c95b0_hl11_1 := c95b0; rw [hl11_1] at c95b0_hl11_1))
                (try (have c95b0_hl13_2 := c95b0; rw [hl13_2] at c95b0_hl13_2))
                clear c95
                by_cases c116 : 0 ≤ x22_4
                rotate_left
                ·rw [if_neg c116] at H
                 exact absurd H (by simp)
                rw [if_pos c116] at H
                have c116b0 : decide (0 ≤ x22_4) = true := decide_eq_true c116
                clear c116
                by_cases c117 : x22_4 < (x18_4.length : Int)
                rotate_left
                ·rw [if_neg c117] at H
                 exact absurd H (by simp)
                rw [if_pos c117] at H
                have c117b0 : decide (x22_4 < (x18_4.length : Int)) = true := decide_eq_true c117
                clear c117
                obtain ⟨ji118, hji118⟩ : ∃ j_ : Int, (wrap64 (x15_2 + 1)) = j_ := ⟨_, rfl⟩
                replace H : (if 0 ≤ (ji118) then (if (ji118) < (x13_2.length : Int) then (if 0 ≤ (wrap64 ((wrap64 (x22_4 + (wrap64 ((wrap64 (((rd_T85 l0_1 x20_3).f3) - (Int.tmod (wrap64 (Int.tdiv x22_4 t152)) a0_0))) * t152)))) + (wrap64 ((wrap64 (((rd_T85 l0_1 x20_3).f2) - (wrap64 (Int.tdiv x22_4 t148)))) * t148)))) then (if (wrap64 ((wrap64 (x22_4 + (wrap64 ((wrap64 (((rd_T85 l0_1 x20_3).f3) - (Int.tmod (wrap64 (Int.tdiv x22_4 t152)) a0_0))) * t152)))) + (wrap64 ((wrap64 (((rd_T85 l0_1 x20_3).f2) - (wrap64 (Int.tdiv x22_4 t148)))) * t148)))) < ((rd_L1 x13_2 (ji118)).length : Int) then (spec_l03Layers.l3 k4 l1 l2 ((rd_L1 l1 0).length : Int) a0_0 t139 x13_2 t148 x15_2 (wrap64 (Int.tdiv x15_2 ((rd_L1 l1 0).length : Int))) (Int.tmod x15_2 ((rd_L1 l1 0).length : Int)) (x18_4.set (x22_4 : Int).toNat (mn (wrap64 ((rd x18_4 x22_4) + (rd (rd_L1 x13_2 (ji118)) (wrap64 ((wrap64 (x22_4 + (wrap64 ((wrap64 (((rd_T85 l0_1 x20_3).f3) - (Int.tmod (wrap64 (Int.tdiv x22_4 t152)) a0_0))) * t152)))) + (wrap64 ((wrap64 (((rd_T85 l0_1 x20_3).f2) - (wrap64 (Int.tdiv x22_4 t148)))) * t148))))))) 1000000000000001)) t152 x20_3 (wrap64 (x22_4 + 1)) a0_0 l0_1 ((rd_T85 l0_1 x20_3).f0) ((rd_T85 l0_1 x20_3).f1) ((rd_T85 l0_1 x20_3).f2) ((rd_T85 l0_1 x20_3).f3)) else (none)) else (none)) else (none)) else (none)) = some r := by first | (rw [hji118] at H; exact H) | (simp only [hji118] at H ⊢; exact H)
                have hji118w : (IntKind.i64.wrap (x15_2 + 1)) = ji118 := (i64_w _).trans hji118
                by_cases c119 : 0 ≤ (ji118)
                rotate_left
                ·rw [if_neg c119] at H
                 exact absurd H (by simp)
                rw [if_pos c119] at H
                have c119b0 : decide (0 ≤ (ji118)) = true := decide_eq_true c119
                clear c119
                by_cases c120 : (ji118) < (x13_2.length : Int)
                rotate_left
                ·rw [if_neg c120] at H
                 exact absurd H (by simp)
                rw [if_pos c120] at H
                have c120b0 : decide ((ji118) < (x13_2.length : Int)) = true := decide_eq_true c120
                clear c120
                obtain ⟨ji121, hji121⟩ : ∃ j_ : Int, (wrap64 ((wrap64 (x22_4 + (wrap64 ((wrap64 (((rd_T85 l0_1 x20_3).f3) - (Int.tmod (wrap64 (Int.tdiv x22_4 t152)) a0_0))) * t152)))) + (wrap64 ((wrap64 (((rd_T85 l0_1 x20_3).f2) - (wrap64 (Int.tdiv x22_4 t148)))) * t148)))) = j_ := ⟨_, rfl⟩
                replace H : (if 0 ≤ (ji121) then (if (ji121) < ((rd_L1 x13_2 (ji118)).length : Int) then (spec_l03Layers.l3 k4 l1 l2 ((rd_L1 l1 0).length : Int) a0_0 t139 x13_2 t148 x15_2 (wrap64 (Int.tdiv x15_2 ((rd_L1 l1 0).length : Int))) (Int.tmod x15_2 ((rd_L1 l1 0).length : Int)) (x18_4.set (x22_4 : Int).toNat (mn (wrap64 ((rd x18_4 x22_4) + (rd (rd_L1 x13_2 (ji118)) (ji121)))) 1000000000000001)) t152 x20_3 (wrap64 (x22_4 + 1)) a0_0 l0_1 ((rd_T85 l0_1 x20_3).f0) ((rd_T85 l0_1 x20_3).f1) ((rd_T85 l0_1 x20_3).f2) ((rd_T85 l0_1 x20_3).f3)) else (none)) else (none)) = some r := by first | (rw [hji121] at H; exact H) | (simp only [hji121] at H ⊢; exact H)
                have hji121w : (IntKind.i64.wrap ((wrap64 (x22_4 + (wrap64 ((wrap64 (((rd_T85 l0_1 x20_3).f3) - (Int.tmod (wrap64 (Int.tdiv x22_4 t152)) a0_0))) * t152)))) + (wrap64 ((wrap64 (((rd_T85 l0_1 x20_3).f2) - (wrap64 (Int.tdiv x22_4 t148)))) * t148)))) = ji121 := (i64_w _).trans hji121
                by_cases c122 : 0 ≤ (ji121)
                rotate_left
                ·rw [if_neg c122] at H
                 exact absurd H (by simp)
                rw [if_pos c122] at H
                have c122b0 : decide (0 ≤ (ji121)) = true := decide_eq_true c122
                clear c122
                by_cases c123 : (ji121) < ((rd_L1 x13_2 (ji118)).length : Int)
                rotate_left
                ·rw [if_neg c123] at H
                 exact absurd H (by simp)
                rw [if_pos c123] at H
                have c123b0 : decide ((ji121) < ((rd_L1 x13_2 (ji118)).length : Int)) = true := decide_eq_true c123
                clear c123
                obtain ⟨ji124, hji124⟩ : ∃ j_ : Int, (mn (wrap64 ((rd x18_4 x22_4) + (rd (rd_L1 x13_2 (ji118)) (ji121)))) 1000000000000001) = j_ := ⟨_, rfl⟩
                replace H : (spec_l03Layers.l3 k4 l1 l2 ((rd_L1 l1 0).length : Int) a0_0 t139 x13_2 t148 x15_2 (wrap64 (Int.tdiv x15_2 ((rd_L1 l1 0).length : Int))) (Int.tmod x15_2 ((rd_L1 l1 0).length : Int)) (x18_4.set (x22_4 : Int).toNat (ji124)) t152 x20_3 (wrap64 (x22_4 + 1)) a0_0 l0_1 ((rd_T85 l0_1 x20_3).f0) ((rd_T85 l0_1 x20_3).f1) ((rd_T85 l0_1 x20_3).f2) ((rd_T85 l0_1 x20_3).f3)) = some r := by first | (rw [hji124] at H; exact H) | (simp only [hji124] at H ⊢; exact H)
                have hji124_ : (if 1000000000000001 < (wrap64 ((rd x18_4 x22_4) + (rd (rd_L1 x13_2 (ji118)) (ji121)))) then 1000000000000001 else (wrap64 ((rd x18_4 x22_4) + (rd (rd_L1 x13_2 (ji118)) (ji121))))) = ji124 := hji124
                obtain ⟨y172, hy172⟩ : ∃ y_ : List Int, y_ = (x18_4.set (x22_4 : Int).toNat (ji124)) := ⟨_, rfl⟩
                replace H : (spec_l03Layers.l3 k4 l1 l2 ((rd_L1 l1 0).length : Int) a0_0 t139 x13_2 t148 x15_2 (wrap64 (Int.tdiv x15_2 ((rd_L1 l1 0).length : Int))) (Int.tmod x15_2 ((rd_L1 l1 0).length : Int)) y172 t152 x20_3 (wrap64 (x22_4 + 1)) a0_0 l0_1 ((rd_T85 l0_1 x20_3).f0) ((rd_T85 l0_1 x20_3).f1) ((rd_T85 l0_1 x20_3).f2) ((rd_T85 l0_1 x20_3).f3)) = some r := by first | (rw [hy172]; with_reducible exact H) | (have H2_ := (Option.bind_some _ _).symm.trans H; rw [hy172]; with_reducible exact H2_) | (have H2_ := (Option.bind_some _ _).symm.trans H; with_reducible exact H2_) | with_reducible exact H | (rw [hy172]; exact H) | exact H
                have Ny172 := Aside0.mk hy172
                clear hy172
                have H' := Aside0.mk H
                clear H
                try go_wp2
                have n0_ := Aside0.mk (Kd.S_drew HO_13.out)
                have n1_ := Aside0.mk (Kd.R_drew HO_18.out)
                have n2_ := Aside0.mk (blk_drew BK137.out)
                have n3_ := Aside0.mk (blk_drew BK156.out)
                have n4_ := Aside0.mk (below_drew1 HB.out)
                clear HO_13
                clear HO_18
                clear BK137
                clear BK156
                clear HB
                have HO_13 := n0_
                have HO_18 := n1_
                have BK137 := n2_
                have BK156 := n3_
                have HB := n4_
                clear n0_ n1_ n2_ n3_ n4_
                refine start_ (n := 10) (S := fun w' => True) (ds := []) spec_l03Layers.z3 (by kernel_rfl) rfl rfl trivial (fun hHeld => ?_); refine with_tabW spec_l03Layers.tab25 spec_l03Layers.bits25 (fun HT_ HW_ => ?_)
                generalize wr.drew = w126 at HO_13 HO_18 BK137 BK156 HB hHeld ⊢
                refine pure_ (i := 0) (N := some 107) (v := ?_) (a' := ?_) spec_l03Layers.z6 rfl rfl (any_of HT_.out (by kernel_rfl)) (fun _ _ _ h => h) (Or.inl ⟨by rfl, ?_⟩) ?_ ?_
                rotate_left
                ·intro w'
                 go_simp
                 with_reducible rfl
                rotate_left
                ·simp only [Act.put, q1_, q2_, q3_, i64_w, i32_w]
                 rfl
                refine pure_ (i := 1) (N := some 108) (v := ?_) (a' := ?_) spec_l03Layers.z9 rfl rfl (any_of HT_.out (by kernel_rfl)) (fun _ _ _ h => h) (Or.inl ⟨by rfl, ?_⟩) ?_ ?_
                rotate_left
                ·intro w'
                 go_simp
                 with_reducible rfl
                rotate_left
                ·simp only [Act.put, q1_, q2_, q3_, i64_w, i32_w]
                 rfl
                refine pure_ (i := 2) (N := some 109) (v := ?_) (a' := ?_) spec_l03Layers.z11 rfl rfl (any_of HT_.out (by kernel_rfl)) (fun _ _ _ h => h) (Or.inl ⟨by rfl, ?_⟩) ?_ ?_
                rotate_left
                ·intro w'
                 go_simp
                 with_reducible rfl
                rotate_left
                ·simp only [Act.put, q1_, q2_, q3_, i64_w, i32_w]
                 rfl
                refine pure_ (i := 3) (N := some 110) (v := ?_) (a' := ?_) spec_l03Layers.z14 rfl rfl (any_of HT_.out (by kernel_rfl)) (fun _ _ _ h => h) (Or.inl ⟨by rfl, ?_⟩) ?_ ?_
                rotate_left
                ·intro w'
                 go_simp
                 with_reducible rfl
                rotate_left
                ·simp only [Act.put, q1_, q2_, q3_, i64_w, i32_w]
                 rfl
                refine pure_ (i := 4) (N := some 111) (v := ?_) (a' := ?_) spec_l03Layers.z17 rfl rfl (any_of HT_.out (by kernel_rfl)) (fun _ _ _ h => h) (Or.inl ⟨by rfl, ?_⟩) ?_ ?_
                rotate_left
                ·intro w'
                 go_simp
                 with_reducible rfl
                rotate_left
                ·simp only [Act.put, q1_, q2_, q3_, i64_w, i32_w]
                 rfl
                refine pure_ (i := 5) (N := some 112) (v := ?_) (a' := ?_) spec_l03Layers.z20 rfl rfl (any_of HT_.out (by kernel_rfl)) (fun _ _ _ h => h) (Or.inl ⟨by rfl, ?_⟩) ?_ ?_
                rotate_left
                ·intro w'
                 go_simp
                 with_reducible rfl
                rotate_left
                ·simp only [Act.put, q1_, q2_, q3_, i64_w, i32_w]
                 rfl
                refine pure_ (i := 6) (N := some 113) (v := ?_) (a' := ?_) spec_l03Layers.z22 rfl rfl (any_of HT_.out (by kernel_rfl)) (fun _ _ _ h => h) (Or.inl ⟨by rfl, ?_⟩) ?_ ?_
                rotate_left
                ·intro w'
                 go_simp
                 with_reducible rfl
                rotate_left
                ·simp only [Act.put, q1_, q2_, q3_, i64_w, i32_w]
                 rfl
                refine pure_ (i := 7) (N := some 114) (v := ?_) (a' := ?_) spec_l03Layers.z25 rfl rfl (any_of HT_.out (by kernel_rfl)) (fun _ _ _ h => h) (Or.inl ⟨by rfl, ?_⟩) ?_ ?_
                rotate_left
                ·intro w'
                 go_simp
                 with_reducible rfl
                rotate_left
                ·simp only [Act.put, q1_, q2_, q3_, i64_w, i32_w]
                 rfl
                refine pure_ (i := 8) (N := some 23) (v := ?_) (a' := ?_) spec_l03Layers.z28 rfl rfl (any_of HT_.out (by kernel_rfl)) (fun _ _ _ h => h) (Or.inl ⟨by rfl, ?_⟩) ?_ ?_
                rotate_left
                ·intro w'
                 go_simp
                 with_reducible rfl
                rotate_left
                ·simp only [Act.put, q1_, q2_, q3_, i64_w, i32_w]
                 rfl
                refine pure_ (i := 9) (N := some 24) (v := ?_) (a' := ?_) spec_l03Layers.z29 rfl rfl (any_of HT_.out (by kernel_rfl)) (fun _ _ _ h => h) (Or.inl ⟨by rfl, ?_⟩) ?_ ?_
                rotate_left
                ·intro w'
                 go_simp
                 with_reducible rfl
                rotate_left
                ·simp only [Act.put, q1_, q2_, q3_, i64_w, i32_w]
                 rfl
                refine done_ (done_of HT_.out (by kernel_rfl)) ?_
                have hnb127 := NB156_137.out
                have hnc127 := NB137_156.out
                have hcz128_0 : w126.cell? ⟨gb156, 0, none⟩ = some (.int .i64 ((rd_T85 l0_1 x20_3).f0)) := (blk_cell BK156.out 0).trans rfl
                have hcz128_1 : w126.cell? ⟨gb156, 1, none⟩ = some (.int .i64 ((rd_T85 l0_1 x20_3).f1)) := (blk_cell BK156.out 1).trans rfl
                have hcz128_2 : w126.cell? ⟨gb156, 2, none⟩ = some (.int .i64 ((rd_T85 l0_1 x20_3).f2)) := (blk_cell BK156.out 2).trans rfl
                have hcz128_3 : w126.cell? ⟨gb156, 3, none⟩ = some (.int .i64 ((rd_T85 l0_1 x20_3).f3)) := (blk_cell BK156.out 3).trans rfl
                have hfz128_0 := blk_frozen BK156.out 0
                have hfz128_1 := blk_frozen BK156.out 1
                have hfz128_2 := blk_frozen BK156.out 2
                have hfz128_3 := blk_frozen BK156.out 3
                try go_wp2
                have n0_ := Aside0.mk (Kd.S_drew HO_13.out)
                have n1_ := Aside0.mk (Kd.R_drew HO_18.out)
                have n2_ := Aside0.mk (blk_drew BK137.out)
                have n3_ := Aside0.mk (blk_drew BK156.out)
                have n4_ := Aside0.mk (below_drew1 HB.out)
                clear HO_13
                clear HO_18
                clear BK137
                clear BK156
                clear HB
                have HO_13 := n0_
                have HO_18 := n1_
                have BK137 := n2_
                have BK156 := n3_
                have HB := n4_
                clear n0_ n1_ n2_ n3_ n4_
                obtain ⟨Ao130, co130, eo130⟩ := Kd.R_slice HO_18.out
                (first | subst eo130 | (injection eo130 with f1_ f2_ f3_; have f4_ := f1_.symm; have f5_ := f3_.symm; clear f1_ f2_ f3_; subst f4_; subst f5_))
                have p169 : 0 ≤ (x22_4 : Int) := of_decide_eq_true (by first | (with_reducible assumption) | assumption)
                have q169 : x22_4 < (x18_4.length : Int) := of_decide_eq_true (by first | (with_reducible assumption) | assumption)
                obtain ⟨ad169, e169, hx169_0⟩ := Kd.at_int (Kd.R_reads' HO_18.out).2.2 x22_4 p169 q169
                cases e169
                replace p169 := eq_true p169
                replace q169 := eq_true q169
                have p170 : 0 ≤ ((ji118) : Int) := of_decide_eq_true (by first | (with_reducible assumption) | assumption)
                have q170 : (ji118) < (x13_2.length : Int) := of_decide_eq_true (by first | (with_reducible assumption) | assumption)
                obtain ⟨ad170, A170_0, c170_0, e170, hx170_0, hl170_0, hi170_0⟩ := at_L1 (Kd.S_reads' HO_13.out).2.2 (ji118) p170 q170
                obtain rfl : (⟨go25, 0, none⟩ : Addr) = ad170 := (by injection e170)
                obtain ⟨ce170, hce170, hMe170, hcc170⟩ := Kd.S_get HO_13.out [] (ji118) p170 (by first | exact q170 | exact of_decide_eq_true (by first | (with_reducible assumption) | assumption) | (have e_ := (Kd.S_reads' HO_13.out).1; omega))
                obtain ⟨ve170_0, rfl, ge170_0⟩ := hMe170
                have hv170_0 := hcc170 0 _ rfl
                rw [Nat.add_zero, show ((Kd.slice 2 (Kd.int .i64))).sz = 1 from rfl, Nat.mul_one] at hv170_0
                replace hv170_0 := Option.some.inj (hv170_0.symm.trans hx170_0)
                rw [hv170_0] at ge170_0
                have HL170_0 := Aside0.mk (show Kd.R (Kd.int .i64) 2 _ _ _ _ (rd_L1 x13_2 (ji118)) from ge170_0)
                clear hv170_0 ge170_0
                clear hcc170 hce170
                (first | simp only [add_plain] at hx170_0 | simp only [add_at] at hx170_0 | simp only [Addr.add, Nat.zero_add] at hx170_0 | skip)
                have HR170_0 := Aside0.mk hi170_0
                have HC170_0 := Aside0.mk hl170_0
                clear hi170_0 hl170_0
                replace p170 := eq_true p170
                replace q170 := eq_true q170
                have p171 : 0 ≤ ((ji121) : Int) := of_decide_eq_true (by first | (with_reducible assumption) | assumption)
                have q171 : (ji121) < ((rd_L1 x13_2 (ji118)).length : Int) := of_decide_eq_true (by first | (with_reducible assumption) | assumption)
                obtain ⟨ad171, e171, hx171_0⟩ := Kd.at_int (by repeat (first | (with_reducible exact HR170_0.out) | (with_reducible refine Kd.C_alloc ?_ _) | (with_reducible refine Kd.C_drewN ?_ _) | (with_reducible refine Kd.C_drew ?_) | exact HR170_0.out)) (ji121) p171 q171
                cases e171
                replace p171 := eq_true p171
                replace q171 := eq_true q171
                have p125 : 0 ≤ (x22_4 : Int) := of_decide_eq_true (by first | (with_reducible assumption) | assumption)
                have q125 : (x22_4 : Int) < ((x18_4.length : Int) : Int) := of_decide_eq_true (by first | (with_reducible assumption) | assumption)
                obtain ⟨go125, co125, eo125, gb125, gl125, cl125, HG125⟩ := Kd.R_form HO_18.out (by omega)
                (first | cases eo125 | (injection eo125 with ea_ en_ ec_; (first | subst ea_ | (injection ea_ with ea_; subst ea_)); subst ec_; clear en_))
                have GB125 := Aside0.mk gb125
                have GG125 := Aside0.mk HG125
                clear gb125 gl125 HG125
                (first | simp only [add_plain] at hx169_0 | skip)
                obtain ⟨hx125_0, hf125_0⟩ := Kd.R_celln 0 HO_18.out (x22_4 : Int) p125 q125
                replace p125 := eq_true p125
                replace q125 := eq_true q125
                have HP131 := Kd.R_putn HO_18.out (x22_4 : Int) ji124
                rw [← Ny172.out] at HP131
                have HQ131 := Aside0.mk HP131
                clear HP131
                refine start_ (n := 18) (S := fun w' => w'.cell? ⟨go125, (x22_4).toNat, none⟩ = some (.int .i64 (rd x18_4 x22_4)) ∧ w'.cell? ⟨go25, ((ji118)).toNat, none⟩ = some (.slice (some ad171) (rd_L1 x13_2 (ji118)).length c170_0) ∧ w'.cell? (ad171.add ((ji121)).toNat) = some (.int .i64 (rd (rd_L1 x13_2 (ji118)) (ji121)))) (ds := [17]) spec_l03Layers.z0 (by kernel_rfl) rfl rfl ⟨hx169_0, hx170_0, hx171_0⟩ (fun hHeld => ?_); refine with_tabW spec_l03Layers.tab28 spec_l03Layers.bits28 (fun HT_ HW_ => ?_)
                generalize w126.drew = w129 at HO_13 HO_18 BK137 BK156 HB GG125 HL170_0 HQ131 HR170_0 hf125_0 hx125_0 hx169_0 hx170_0 hx171_0 hHeld ⊢
                refine pure_ (i := 0) (N := some 148) (v := ?_) (a' := ?_) spec_l03Layers.z1 rfl rfl (any_of HT_.out (by kernel_rfl)) (fun _ _ _ h => h) (Or.inl ⟨by rfl, ?_⟩) ?_ ?_
                rotate_left
                ·intro w'
                 go_simp
                 with_reducible rfl
                rotate_left
                ·simp only [Act.put, q1_, q2_, q3_, i64_w, i32_w]
                 rfl
                refine pure_ (i := 1) (N := some 149) (v := ?_) (a' := ?_) spec_l03Layers.z2 rfl rfl (any_of HT_.out (by kernel_rfl)) (fun _ _ _ h => h) (Or.inl ⟨by rfl, ?_⟩) ?_ ?_
                rotate_left
                ·intro w'
                 go_simp
                 with_reducible rfl
                rotate_left
                ·simp only [Act.put, q1_, q2_, q3_, i64_w, i32_w]
                 rfl
                refine pure_ (i := 2) (N := some 150) (v := ?_) (a' := ?_) spec_l03Layers.z4 rfl rfl (any_of HT_.out (by kernel_rfl)) (fun _ _ _ h => h) (Or.inl ⟨by rfl, ?_⟩) ?_ ?_
                rotate_left
                ·intro w'
                 go_simp
                 with_reducible rfl
                rotate_left
                ·simp only [Act.put, q1_, q2_, q3_, i64_w, i32_w]
                 rfl
                refine pure_ (i := 3) (N := some 151) (v := ?_) (a' := ?_) spec_l03Layers.z5 rfl rfl (any_of HT_.out (by kernel_rfl)) (fun _ _ _ h => h) (Or.inl ⟨by rfl, ?_⟩) ?_ ?_
                rotate_left
                ·intro w'
                 go_simp
                 with_reducible rfl
                rotate_left
                ·simp only [Act.put, q1_, q2_, q3_, i64_w, i32_w]
                 rfl
                refine pure_ (i := 4) (N := some 152) (v := ?_) (a' := ?_) spec_l03Layers.z7 rfl rfl (any_of HT_.out (by kernel_rfl)) (fun _ _ _ h => h) (Or.inl ⟨by rfl, ?_⟩) ?_ ?_
                rotate_left
                ·intro w'
                 go_simp
                 with_reducible rfl
                rotate_left
                ·simp only [Act.put, q1_, q2_, q3_, i64_w, i32_w]
                 rfl
                refine pure_ (i := 6) (N := some 154) (v := ?_) (a' := ?_) spec_l03Layers.z8 rfl rfl (any_of HT_.out (by kernel_rfl)) (fun _ _ _ h => h) (Or.inl ⟨by rfl, ?_⟩) ?_ ?_
                rotate_left
                ·intro w'
                 go_simp
                 with_reducible rfl
                rotate_left
                ·simp only [Act.put, q1_, q2_, q3_, i64_w, i32_w]
                 rfl
                refine pure_ (i := 7) (N := some 155) (v := ?_) (a' := ?_) spec_l03Layers.z10 rfl rfl (any_of HT_.out (by kernel_rfl)) (fun _ _ _ h => h) (Or.inl ⟨by rfl, ?_⟩) ?_ ?_
                rotate_left
                ·intro w'
                 go_simp
                 with_reducible rfl
                rotate_left
                ·simp only [Act.put, q1_, q2_, q3_, i64_w, i32_w]
                 rfl
                refine pure_ (i := 8) (N := some 156) (v := ?_) (a' := ?_) spec_l03Layers.z12 rfl rfl (any_of HT_.out (by kernel_rfl)) (fun _ _ _ h => h) (Or.inl ⟨by rfl, ?_⟩) ?_ ?_
                rotate_left
                ·intro w'
                 go_simp
                 with_reducible rfl
                rotate_left
                ·simp only [Act.put, q1_, q2_, q3_, i64_w, i32_w]
                 rfl
                refine pure_ (i := 9) (N := some 157) (v := ?_) (a' := ?_) spec_l03Layers.z13 rfl rfl (any_of HT_.out (by kernel_rfl)) (fun _ _ _ h => h) (Or.inl ⟨by rfl, ?_⟩) ?_ ?_
                rotate_left
                ·intro w'
                 go_simp
                 with_reducible rfl
                rotate_left
                ·simp only [Act.put, q1_, q2_, q3_, i64_w, i32_w]
                 rfl
                refine pure_ (i := 11) (N := some 159) (v := ?_) (a' := ?_) spec_l03Layers.z15 rfl rfl (any_of HT_.out (by kernel_rfl)) (fun _ _ _ h => h) (Or.inl ⟨by rfl, ?_⟩) ?_ ?_
                rotate_left
                ·intro w'
                 go_simp
                 with_reducible rfl
                rotate_left
                ·simp only [Act.put, q1_, q2_, q3_, i64_w, i32_w]
                 rfl
                refine take_ (i := 5) (N := some 153) (v := ?_) (a' := ?_) spec_l03Layers.z16 rfl rfl (take_ofW HT_.out HW_.out (by kernel_rfl)) (fun _ _ _ h => h) (Or.inl ⟨by rfl, ?_⟩) hHeld ?_ ?_
                rotate_left
                ·rintro w' ⟨s0, s1, s2⟩
                 go_simp
                 with_reducible rfl
                rotate_left
                ·simp only [Act.put, q1_, q2_, q3_, i64_w, i32_w]
                 rfl
                refine take_ (i := 10) (N := some 158) (v := ?_) (a' := ?_) spec_l03Layers.z18 rfl rfl (take_ofW HT_.out HW_.out (by kernel_rfl)) (fun _ _ _ h => h) (Or.inl ⟨by rfl, ?_⟩) hHeld ?_ ?_
                rotate_left
                ·rintro w' ⟨s0, s1, s2⟩
                 go_simp
                 with_reducible rfl
                rotate_left
                ·simp only [Act.put, q1_, q2_, q3_, i64_w, i32_w]
                 rfl
                refine pure_ (i := 12) (N := some 160) (v := ?_) (a' := ?_) spec_l03Layers.z19 rfl rfl (any_of HT_.out (by kernel_rfl)) (fun _ _ _ h => h) (Or.inl ⟨by rfl, ?_⟩) ?_ ?_
                rotate_left
                ·intro w'
                 go_simp
                 with_reducible rfl
                rotate_left
                ·simp only [Act.put, q1_, q2_, q3_, i64_w, i32_w]
                 rfl
                refine take_ (i := 13) (N := some 161) (v := ?_) (a' := ?_) spec_l03Layers.z21 rfl rfl (take_ofW HT_.out HW_.out (by kernel_rfl)) (fun _ _ _ h => h) (Or.inl ⟨by rfl, ?_⟩) hHeld ?_ ?_
                rotate_left
                ·rintro w' ⟨s0, s1, s2⟩
                 go_simp
                 with_reducible rfl
                rotate_left
                ·simp only [Act.put, q1_, q2_, q3_, i64_w, i32_w]
                 rfl
                refine pure_ (i := 14) (N := some 162) (v := ?_) (a' := ?_) spec_l03Layers.z23 rfl rfl (any_of HT_.out (by kernel_rfl)) (fun _ _ _ h => h) (Or.inl ⟨by rfl, ?_⟩) ?_ ?_
                rotate_left
                ·intro w'
                 go_simp
                 with_reducible rfl
                rotate_left
                ·simp only [Act.put, q1_, q2_, q3_, i64_w, i32_w]
                 rfl
                refine pure_ (i := 15) (N := some 163) (v := ?_) (a' := ?_) spec_l03Layers.z24 rfl rfl (any_of HT_.out (by kernel_rfl)) (fun _ _ _ h => h) (Or.inl ⟨by rfl, ?_⟩) ?_ ?_
                rotate_left
                ·intro w'
                 go_simp
                 with_reducible rfl
                rotate_left
                ·simp only [Act.put, q1_, q2_, q3_, i64_w, i32_w]
                 rfl
                refine pure_ (i := 16) (N := some 164) (v := ?_) (a' := ?_) spec_l03Layers.z26 rfl rfl (any_of HT_.out (by kernel_rfl)) (fun _ _ _ h => h) (Or.inl ⟨by rfl, ?_⟩) ?_ ?_
                rotate_left
                ·intro w'
                 go_simp
                 with_reducible rfl
                rotate_left
                ·simp only [Act.put, q1_, q2_, q3_, i64_w, i32_w]
                 rfl
                refine last_ (i := 17) (N := none) spec_l03Layers.z27 rfl rfl (one_of HT_.out (by kernel_rfl)) (by decide) (fun K hK => ?_)
                refine skip_ (w1 := ?_) (by rfl) rfl ?_ ?_
                rotate_left
                ·go_simp
                 rfl
                refine hK.out _ _ ?_
                clear hK K
                refine done_ (done_of HT_.out (by kernel_rfl)) ?_
                try go_wp2
                go_roundg k4
                case measure => have := HK1.out; have := HK2.out; have := HK3.out; have := HK4.out; omega
                case rel => exact ⟨(y172), (wrap64 (x22_4 + 1)), (by first | rfl | (simp; done) | (simp [*]; done) | (simp; decide +kernel)), H', ⟨by have := HK1.out; have := HK2.out; have := HK3.out; have := HK4.out; omega⟩, ⟨by (try simp only [hl11_1]); (try simp only [hl13_2]); (with_reducible repeat (first | apply Kd.S_alloc | apply Kd.S_drewN | apply Kd.S_drew)); exact Kd.S_mono (Kd.S_far (p := ⟨go125, (x22_4 : Int).toNat, none⟩) (Kd.S_mono HO_13.out (fun k_ hk => (⟨hk, fun e_ => hk (by rw [e_]; rfl)⟩ : _ ∧ k_ ≠ go125))) (fun _ hk => hk.2) (.int .i64 ji124)) (fun _ hk => hk.1)⟩, ⟨by (try simp only [hl11_1]); (try simp only [hl13_2]); (with_reducible repeat (first | apply Kd.R_alloc | apply Kd.R_drewN | apply Kd.R_drew)); exact HQ131.out⟩, ⟨by (try simp only [hl11_1]); (try simp only [hl13_2]); (with_reducible repeat (first | apply bN_ | apply bD_ | apply bA_)); refine blk_far ?_ (by have h_ := Kd.R_ne HO_18.out BK137.out (by decide); intro e_; exact h_ (by rw [e_]; rfl)) _; (with_reducible repeat (first | apply bN_ | apply bD_ | apply bA_)); exact BK137.out⟩, ⟨by (try simp only [hl11_1]); (try simp only [hl13_2]); (with_reducible repeat (first | apply bN_ | apply bD_ | apply bA_)); refine blk_far ?_ (by have h_ := Kd.R_ne HO_18.out BK156.out (by decide); intro e_; exact h_ (by rw [e_]; rfl)) _; (with_reducible repeat (first | apply bN_ | apply bD_ | apply bA_)); exact BK156.out⟩, ⟨by repeat (first | (with_reducible first | exact HB.out | apply lA_ | apply lN_ | apply lD_ | refine lS_ ?_ GB125.out | refine lS_ ?_ GE137.out | refine lS_ ?_ GE156.out) | exact HB.out)⟩⟩
               rw [if_pos c95] at H
               have c95b0 : decide (0 < (Int.tmod x15_2 ((rd_L1 l1 0).length : Int))) = true := decide_eq_true c95
               clear c95
               by_cases c96 : (wrap64 (Int.tdiv x22_4 t148)) = ((rd_T85 l0_1 x20_3).f0)
               rotate_left
               ·rw [if_neg c96] at H
                have c96b0 : ((wrap64 (Int.tdiv x22_4 t148)) == ((rd_T85 l0_1 x20_3).f0)) = false := beq_eq_false_iff_ne.mpr c96
                have c96b1 : ((wrap64 (Int.tdiv x22_4 t148)) != ((rd_T85 l0_1 x20_3).f0)) = true := bne_iff_ne.mpr c96
                have H' := Aside0.mk H
                clear H
                try go_wp2
                have n0_ := Aside0.mk (Kd.S_drew HO_13.out)
                have n1_ := Aside0.mk (Kd.R_drew HO_18.out)
                have n2_ := Aside0.mk (blk_drew BK137.out)
                have n3_ := Aside0.mk (blk_drew BK156.out)
                have n4_ := Aside0.mk (below_drew1 HB.out)
                clear HO_13
                clear HO_18
                clear BK137
                clear BK156
                clear HB
                have HO_13 := n0_
                have HO_18 := n1_
                have BK137 := n2_
                have BK156 := n3_
                have HB := n4_
                clear n0_ n1_ n2_ n3_ n4_
                refine start_ (n := 10) (S := fun w' => True) (ds := []) spec_l03Layers.z3 (by kernel_rfl) rfl rfl trivial (fun hHeld => ?_); refine with_tabW spec_l03Layers.tab25 spec_l03Layers.bits25 (fun HT_ HW_ => ?_)
                generalize wr.drew = w113 at HO_13 HO_18 BK137 BK156 HB hHeld ⊢
                refine pure_ (i := 0) (N := some 107) (v := ?_) (a' := ?_) spec_l03Layers.z6 rfl rfl (any_of HT_.out (by kernel_rfl)) (fun _ _ _ h => h) (Or.inl ⟨by rfl, ?_⟩) ?_ ?_
                rotate_left
                ·intro w'
                 go_simp
                 with_reducible rfl
                rotate_left
                ·simp only [Act.put, q1_, q2_, q3_, i64_w, i32_w]
                 rfl
                refine pure_ (i := 1) (N := some 108) (v := ?_) (a' := ?_) spec_l03Layers.z9 rfl rfl (any_of HT_.out (by kernel_rfl)) (fun _ _ _ h => h) (Or.inl ⟨by rfl, ?_⟩) ?_ ?_
                rotate_left
                ·intro w'
                 go_simp
                 with_reducible rfl
                rotate_left
                ·simp only [Act.put, q1_, q2_, q3_, i64_w, i32_w]
                 rfl
                refine pure_ (i := 2) (N := some 109) (v := ?_) (a' := ?_) spec_l03Layers.z11 rfl rfl (any_of HT_.out (by kernel_rfl)) (fun _ _ _ h => h) (Or.inl ⟨by rfl, ?_⟩) ?_ ?_
                rotate_left
                ·intro w'
                 go_simp
                 with_reducible rfl
                rotate_left
                ·simp only [Act.put, q1_, q2_, q3_, i64_w, i32_w]
                 rfl
                refine pure_ (i := 3) (N := some 110) (v := ?_) (a' := ?_) spec_l03Layers.z14 rfl rfl (any_of HT_.out (by kernel_rfl)) (fun _ _ _ h => h) (Or.inl ⟨by rfl, ?_⟩) ?_ ?_
                rotate_left
                ·intro w'
                 go_simp
                 with_reducible rfl
                rotate_left
                ·simp only [Act.put, q1_, q2_, q3_, i64_w, i32_w]
                 rfl
                refine pure_ (i := 4) (N := some 111) (v := ?_) (a' := ?_) spec_l03Layers.z17 rfl rfl (any_of HT_.out (by kernel_rfl)) (fun _ _ _ h => h) (Or.inl ⟨by rfl, ?_⟩) ?_ ?_
                rotate_left
                ·intro w'
                 go_simp
                 with_reducible rfl
                rotate_left
                ·simp only [Act.put, q1_, q2_, q3_, i64_w, i32_w]
                 rfl
                refine pure_ (i := 5) (N := some 112) (v := ?_) (a' := ?_) spec_l03Layers.z20 rfl rfl (any_of HT_.out (by kernel_rfl)) (fun _ _ _ h => h) (Or.inl ⟨by rfl, ?_⟩) ?_ ?_
                rotate_left
                ·intro w'
                 go_simp
                 with_reducible rfl
                rotate_left
                ·simp only [Act.put, q1_, q2_, q3_, i64_w, i32_w]
                 rfl
                refine pure_ (i := 6) (N := some 113) (v := ?_) (a' := ?_) spec_l03Layers.z22 rfl rfl (any_of HT_.out (by kernel_rfl)) (fun _ _ _ h => h) (Or.inl ⟨by rfl, ?_⟩) ?_ ?_
                rotate_left
                ·intro w'
                 go_simp
                 with_reducible rfl
                rotate_left
                ·simp only [Act.put, q1_, q2_, q3_, i64_w, i32_w]
                 rfl
                refine pure_ (i := 7) (N := some 114) (v := ?_) (a' := ?_) spec_l03Layers.z25 rfl rfl (any_of HT_.out (by kernel_rfl)) (fun _ _ _ h => h) (Or.inl ⟨by rfl, ?_⟩) ?_ ?_
                rotate_left
                ·intro w'
                 go_simp
                 with_reducible rfl
                rotate_left
                ·simp only [Act.put, q1_, q2_, q3_, i64_w, i32_w]
                 rfl
                refine pure_ (i := 8) (N := some 23) (v := ?_) (a' := ?_) spec_l03Layers.z28 rfl rfl (any_of HT_.out (by kernel_rfl)) (fun _ _ _ h => h) (Or.inl ⟨by rfl, ?_⟩) ?_ ?_
                rotate_left
                ·intro w'
                 go_simp
                 with_reducible rfl
                rotate_left
                ·simp only [Act.put, q1_, q2_, q3_, i64_w, i32_w]
                 rfl
                refine pure_ (i := 9) (N := some 24) (v := ?_) (a' := ?_) spec_l03Layers.z29 rfl rfl (any_of HT_.out (by kernel_rfl)) (fun _ _ _ h => h) (Or.inl ⟨by rfl, ?_⟩) ?_ ?_
                rotate_left
                ·intro w'
                 go_simp
                 with_reducible rfl
                rotate_left
                ·simp only [Act.put, q1_, q2_, q3_, i64_w, i32_w]
                 rfl
                refine done_ (done_of HT_.out (by kernel_rfl)) ?_
                have hnb114 := NB156_137.out
                have hnc114 := NB137_156.out
                have hcz115_0 : w113.cell? ⟨gb156, 0, none⟩ = some (.int .i64 ((rd_T85 l0_1 x20_3).f0)) := (blk_cell BK156.out 0).trans rfl
                have hcz115_1 : w113.cell? ⟨gb156, 1, none⟩ = some (.int .i64 ((rd_T85 l0_1 x20_3).f1)) := (blk_cell BK156.out 1).trans rfl
                have hcz115_2 : w113.cell? ⟨gb156, 2, none⟩ = some (.int .i64 ((rd_T85 l0_1 x20_3).f2)) := (blk_cell BK156.out 2).trans rfl
                have hcz115_3 : w113.cell? ⟨gb156, 3, none⟩ = some (.int .i64 ((rd_T85 l0_1 x20_3).f3)) := (blk_cell BK156.out 3).trans rfl
                have hfz115_0 := blk_frozen BK156.out 0
                have hfz115_1 := blk_frozen BK156.out 1
                have hfz115_2 := blk_frozen BK156.out 2
                have hfz115_3 := blk_frozen BK156.out 3
                try go_wp2
                go_roundg k4
                case measure => have := HK1.out; have := HK2.out; have := HK3.out; have := HK4.out; omega
                case rel => exact ⟨(x18_4), (wrap64 (x22_4 + 1)), (by first | rfl | (simp; done) | (simp [*]; done) | (simp; decide +kernel)), H', ⟨by have := HK1.out; have := HK2.out; have := HK3.out; have := HK4.out; omega⟩, ⟨by (try simp only [hl11_1]); (try simp only [hl13_2]); (with_reducible repeat (first | apply Kd.S_alloc | apply Kd.S_drewN | apply Kd.S_drew)); exact HO_13.out⟩, ⟨by (try simp only [hl11_1]); (try simp only [hl13_2]); (with_reducible repeat (first | apply Kd.R_alloc | apply Kd.R_drewN | apply Kd.R_drew)); exact HO_18.out⟩, ⟨by (try simp only [hl11_1]); (try simp only [hl13_2]); (with_reducible repeat (first | apply bN_ | apply bD_ | apply bA_)); exact BK137.out⟩, ⟨by (try simp only [hl11_1]); (try simp only [hl13_2]); (with_reducible repeat (first | apply bN_ | apply bD_ | apply bA_)); exact BK156.out⟩, ⟨by repeat (first | (with_reducible first | exact HB.out | apply lA_ | apply lN_ | apply lD_ | refine lS_ ?_ GE137.out | refine lS_ ?_ GE156.out) | exact HB.out)⟩⟩
               rw [if_pos c96] at H
               have c96b0 : ((wrap64 (Int.tdiv x22_4 t148)) == ((rd_T85 l0_1 x20_3).f0)) = true := beq_iff_eq.mpr c96
               have c96b1 : ((wrap64 (Int.tdiv x22_4 t148)) != ((rd_T85 l0_1 x20_3).f0)) = false := bne_eq_false_iff_eq.mpr c96
               clear c96
               by_cases c97 : 0 ≤ x22_4
               rotate_left
               ·rw [if_neg c97] at H
                exact absurd H (by simp)
               rw [if_pos c97] at H
               have c97b0 : decide (0 ≤ x22_4) = true := decide_eq_true c97
               clear c97
               by_cases c98 : x22_4 < (x18_4.length : Int)
               rotate_left
               ·rw [if_neg c98] at H
                exact absurd H (by simp)
               rw [if_pos c98] at H
               have c98b0 : decide (x22_4 < (x18_4.length : Int)) = true := decide_eq_true c98
               clear c98
               obtain ⟨ji99, hji99⟩ : ∃ j_ : Int, (wrap64 (x15_2 + 1)) = j_ := ⟨_, rfl⟩
               replace H : (if 0 ≤ (ji99) then (if (ji99) < (x13_2.length : Int) then (if 0 ≤ (wrap64 ((wrap64 (x22_4 + (wrap64 ((wrap64 (((rd_T85 l0_1 x20_3).f3) - (Int.tmod (wrap64 (Int.tdiv x22_4 t152)) a0_0))) * t152)))) + (wrap64 ((wrap64 (((rd_T85 l0_1 x20_3).f2) - (wrap64 (Int.tdiv x22_4 t148)))) * t148)))) then (if (wrap64 ((wrap64 (x22_4 + (wrap64 ((wrap64 (((rd_T85 l0_1 x20_3).f3) - (Int.tmod (wrap64 (Int.tdiv x22_4 t152)) a0_0))) * t152)))) + (wrap64 ((wrap64 (((rd_T85 l0_1 x20_3).f2) - (wrap64 (Int.tdiv x22_4 t148)))) * t148)))) < ((rd_L1 x13_2 (ji99)).length : Int) then (spec_l03Layers.l3 k4 l1 l2 ((rd_L1 l1 0).length : Int) a0_0 t139 x13_2 t148 x15_2 (wrap64 (Int.tdiv x15_2 ((rd_L1 l1 0).length : Int))) (Int.tmod x15_2 ((rd_L1 l1 0).length : Int)) (x18_4.set (x22_4 : Int).toNat (mn (wrap64 ((rd x18_4 x22_4) + (rd (rd_L1 x13_2 (ji99)) (wrap64 ((wrap64 (x22_4 + (wrap64 ((wrap64 (((rd_T85 l0_1 x20_3).f3) - (Int.tmod (wrap64 (Int.tdiv x22_4 t152)) a0_0))) * t152)))) + (wrap64 ((wrap64 (((rd_T85 l0_1 x20_3).f2) - (wrap64 (Int.tdiv x22_4 t148)))) * t148))))))) 1000000000000001)) t152 x20_3 (wrap64 (x22_4 + 1)) a0_0 l0_1 ((rd_T85 l0_1 x20_3).f0) ((rd_T85 l0_1 x20_3).f1) ((rd_T85 l0_1 x20_3).f2) ((rd_T85 l0_1 x20_3).f3)) else (none)) else (none)) else (none)) else (none)) = some r := by first | (rw [hji99] at H; exact H) | (simp only [hji99] at H ⊢; exact H)
               have hji99w : (IntKind.i64.wrap (x15_2 + 1)) = ji99 := (i64_w _).trans hji99
               by_cases c100 : 0 ≤ (ji99)
               rotate_left
               ·rw [if_neg c100] at H
                exact absurd H (by simp)
               rw [if_pos c100] at H
               have c100b0 : decide (0 ≤ (ji99)) = true := decide_eq_true c100
               clear c100
               by_cases c101 : (ji99) < (x13_2.length : Int)
               rotate_left
               ·rw [if_neg c101] at H
                exact absurd H (by simp)
               rw [if_pos c101] at H
               have c101b0 : decide ((ji99) < (x13_2.length : Int)) = true := decide_eq_true c101
               clear c101
               obtain ⟨ji102, hji102⟩ : ∃ j_ : Int, (wrap64 ((wrap64 (x22_4 + (wrap64 ((wrap64 (((rd_T85 l0_1 x20_3).f3) - (Int.tmod (wrap64 (Int.tdiv x22_4 t152)) a0_0))) * t152)))) + (wrap64 ((wrap64 (((rd_T85 l0_1 x20_3).f2) - (wrap64 (Int.tdiv x22_4 t148)))) * t148)))) = j_ := ⟨_, rfl⟩
               replace H : (if 0 ≤ (ji102) then (if (ji102) < ((rd_L1 x13_2 (ji99)).length : Int) then (spec_l03Layers.l3 k4 l1 l2 ((rd_L1 l1 0).length : Int) a0_0 t139 x13_2 t148 x15_2 (wrap64 (Int.tdiv x15_2 ((rd_L1 l1 0).length : Int))) (Int.tmod x15_2 ((rd_L1 l1 0).length : Int)) (x18_4.set (x22_4 : Int).toNat (mn (wrap64 ((rd x18_4 x22_4) + (rd (rd_L1 x13_2 (ji99)) (ji102)))) 1000000000000001)) t152 x20_3 (wrap64 (x22_4 + 1)) a0_0 l0_1 ((rd_T85 l0_1 x20_3).f0) ((rd_T85 l0_1 x20_3).f1) ((rd_T85 l0_1 x20_3).f2) ((rd_T85 l0_1 x20_3).f3)) else (none)) else (none)) = some r := by first | (rw [hji102] at H; exact H) | (simp only [hji102] at H ⊢; exact H)
               have hji102w : (IntKind.i64.wrap ((wrap64 (x22_4 + (wrap64 ((wrap64 (((rd_T85 l0_1 x20_3).f3) - (Int.tmod (wrap64 (Int.tdiv x22_4 t152)) a0_0))) * t152)))) + (wrap64 ((wrap64 (((rd_T85 l0_1 x20_3).f2) - (wrap64 (Int.tdiv x22_4 t148)))) * t148)))) = ji102 := (i64_w _).trans hji102
               by_cases c103 : 0 ≤ (ji102)
               rotate_left
               ·rw [if_neg c103] at H
                exact absurd H (by simp)
               rw [if_pos c103] at H
               have c103b0 : decide (0 ≤ (ji102)) = true := decide_eq_true c103
               clear c103
               by_cases c104 : (ji102) < ((rd_L1 x13_2 (ji99)).length : Int)
               rotate_left
               ·rw [if_neg c104] at H
                exact absurd H (by simp)
               rw [if_pos c104] at H
               have c104b0 : decide ((ji102) < ((rd_L1 x13_2 (ji99)).length : Int)) = true := decide_eq_true c104
               clear c104
               obtain ⟨ji105, hji105⟩ : ∃ j_ : Int, (mn (wrap64 ((rd x18_4 x22_4) + (rd (rd_L1 x13_2 (ji99)) (ji102)))) 1000000000000001) = j_ := ⟨_, rfl⟩
               replace H : (spec_l03Layers.l3 k4 l1 l2 ((rd_L1 l1 0).length : Int) a0_0 t139 x13_2 t148 x15_2 (wrap64 (Int.tdiv x15_2 ((rd_L1 l1 0).length : Int))) (Int.tmod x15_2 ((rd_L1 l1 0).length : Int)) (x18_4.set (x22_4 : Int).toNat (ji105)) t152 x20_3 (wrap64 (x22_4 + 1)) a0_0 l0_1 ((rd_T85 l0_1 x20_3).f0) ((rd_T85 l0_1 x20_3).f1) ((rd_T85 l0_1 x20_3).f2) ((rd_T85 l0_1 x20_3).f3)) = some r := by first | (rw [hji105] at H; exact H) | (simp only [hji105] at H ⊢; exact H)
               have hji105_ : (if 1000000000000001 < (wrap64 ((rd x18_4 x22_4) + (rd (rd_L1 x13_2 (ji99)) (ji102)))) then 1000000000000001 else (wrap64 ((rd x18_4 x22_4) + (rd (rd_L1 x13_2 (ji99)) (ji102))))) = ji105 := hji105
               obtain ⟨y168, hy168⟩ : ∃ y_ : List Int, y_ = (x18_4.set (x22_4 : Int).toNat (ji105)) := ⟨_, rfl⟩
               replace H : (spec_l03Layers.l3 k4 l1 l2 ((rd_L1 l1 0).length : Int) a0_0 t139 x13_2 t148 x15_2 (wrap64 (Int.tdiv x15_2 ((rd_L1 l1 0).length : Int))) (Int.tmod x15_2 ((rd_L1 l1 0).length : Int)) y168 t152 x20_3 (wrap64 (x22_4 + 1)) a0_0 l0_1 ((rd_T85 l0_1 x20_3).f0) ((rd_T85 l0_1 x20_3).f1) ((rd_T85 l0_1 x20_3).f2) ((rd_T85 l0_1 x20_3).f3)) = some r := by first | (rw [hy168]; with_reducible exact H) | (have H2_ := (Option.bind_some _ _).symm.trans H; rw [hy168]; with_reducible exact H2_) | (have H2_ := (Option.bind_some _ _).symm.trans H; with_reducible exact H2_) | with_reducible exact H | (rw [hy168]; exact H) | exact H
               have Ny168 := Aside0.mk hy168
               clear hy168
               have H' := Aside0.mk H
               clear H
               try go_wp2
               have n0_ := Aside0.mk (Kd.S_drew HO_13.out)
               have n1_ := Aside0.mk (Kd.R_drew HO_18.out)
               have n2_ := Aside0.mk (blk_drew BK137.out)
               have n3_ := Aside0.mk (blk_drew BK156.out)
               have n4_ := Aside0.mk (below_drew1 HB.out)
               clear HO_13
               clear HO_18
               clear BK137
               clear BK156
               clear HB
               have HO_13 := n0_
               have HO_18 := n1_
               have BK137 := n2_
               have BK156 := n3_
               have HB := n4_
               clear n0_ n1_ n2_ n3_ n4_
               refine start_ (n := 10) (S := fun w' => True) (ds := []) spec_l03Layers.z3 (by kernel_rfl) rfl rfl trivial (fun hHeld => ?_); refine with_tabW spec_l03Layers.tab25 spec_l03Layers.bits25 (fun HT_ HW_ => ?_)
               generalize wr.drew = w107 at HO_13 HO_18 BK137 BK156 HB hHeld ⊢
               refine pure_ (i := 0) (N := some 107) (v := ?_) (a' := ?_) spec_l03Layers.z6 rfl rfl (any_of HT_.out (by kernel_rfl)) (fun _ _ _ h => h) (Or.inl ⟨by rfl, ?_⟩) ?_ ?_
               rotate_left
               ·intro w'
                go_simp
                with_reducible rfl
               rotate_left
               ·simp only [Act.put, q1_, q2_, q3_, i64_w, i32_w]
                rfl
               refine pure_ (i := 1) (N := some 108) (v := ?_) (a' := ?_) spec_l03Layers.z9 rfl rfl (any_of HT_.out (by kernel_rfl)) (fun _ _ _ h => h) (Or.inl ⟨by rfl, ?_⟩) ?_ ?_
               rotate_left
               ·intro w'
                go_simp
                with_reducible rfl
               rotate_left
               ·simp only [Act.put, q1_, q2_, q3_, i64_w, i32_w]
                rfl
               refine pure_ (i := 2) (N := some 109) (v := ?_) (a' := ?_) spec_l03Layers.z11 rfl rfl (any_of HT_.out (by kernel_rfl)) (fun _ _ _ h => h) (Or.inl ⟨by rfl, ?_⟩) ?_ ?_
               rotate_left
               ·intro w'
                go_simp
                with_reducible rfl
               rotate_left
               ·simp only [Act.put, q1_, q2_, q3_, i64_w, i32_w]
                rfl
               refine pure_ (i := 3) (N := some 110) (v := ?_) (a' := ?_) spec_l03Layers.z14 rfl rfl (any_of HT_.out (by kernel_rfl)) (fun _ _ _ h => h) (Or.inl ⟨by rfl, ?_⟩) ?_ ?_
               rotate_left
               ·intro w'
                go_simp
                with_reducible rfl
               rotate_left
               ·simp only [Act.put, q1_, q2_, q3_, i64_w, i32_w]
                rfl
               refine pure_ (i := 4) (N := some 111) (v := ?_) (a' := ?_) spec_l03Layers.z17 rfl rfl (any_of HT_.out (by kernel_rfl)) (fun _ _ _ h => h) (Or.inl ⟨by rfl, ?_⟩) ?_ ?_
               rotate_left
               ·intro w'
                go_simp
                with_reducible rfl
               rotate_left
               ·simp only [Act.put, q1_, q2_, q3_, i64_w, i32_w]
                rfl
               refine pure_ (i := 5) (N := some 112) (v := ?_) (a' := ?_) spec_l03Layers.z20 rfl rfl (any_of HT_.out (by kernel_rfl)) (fun _ _ _ h => h) (Or.inl ⟨by rfl, ?_⟩) ?_ ?_
               rotate_left
               ·intro w'
                go_simp
                with_reducible rfl
               rotate_left
               ·simp only [Act.put, q1_, q2_, q3_, i64_w, i32_w]
                rfl
               refine pure_ (i := 6) (N := some 113) (v := ?_) (a' := ?_) spec_l03Layers.z22 rfl rfl (any_of HT_.out (by kernel_rfl)) (fun _ _ _ h => h) (Or.inl ⟨by rfl, ?_⟩) ?_ ?_
               rotate_left
               ·intro w'
                go_simp
                with_reducible rfl
               rotate_left
               ·simp only [Act.put, q1_, q2_, q3_, i64_w, i32_w]
                rfl
               refine pure_ (i := 7) (N := some 114) (v := ?_) (a' := ?_) spec_l03Layers.z25 rfl rfl (any_of HT_.out (by kernel_rfl)) (fun _ _ _ h => h) (Or.inl ⟨by rfl, ?_⟩) ?_ ?_
               rotate_left
               ·intro w'
                go_simp
                with_reducible rfl
               rotate_left
               ·simp only [Act.put, q1_, q2_, q3_, i64_w, i32_w]
                rfl
               refine pure_ (i := 8) (N := some 23) (v := ?_) (a' := ?_) spec_l03Layers.z28 rfl rfl (any_of HT_.out (by kernel_rfl)) (fun _ _ _ h => h) (Or.inl ⟨by rfl, ?_⟩) ?_ ?_
               rotate_left
               ·intro w'
                go_simp
                with_reducible rfl
               rotate_left
               ·simp only [Act.put, q1_, q2_, q3_, i64_w, i32_w]
                rfl
               refine pure_ (i := 9) (N := some 24) (v := ?_) (a' := ?_) spec_l03Layers.z29 rfl rfl (any_of HT_.out (by kernel_rfl)) (fun _ _ _ h => h) (Or.inl ⟨by rfl, ?_⟩) ?_ ?_
               rotate_left
               ·intro w'
                go_simp
                with_reducible rfl
               rotate_left
               ·simp only [Act.put, q1_, q2_, q3_, i64_w, i32_w]
                rfl
               refine done_ (done_of HT_.out (by kernel_rfl)) ?_
               have hnb108 := NB156_137.out
               have hnc108 := NB137_156.out
               have hcz109_0 : w107.cell? ⟨gb156, 0, none⟩ = some (.int .i64 ((rd_T85 l0_1 x20_3).f0)) := (blk_cell BK156.out 0).trans rfl
               have hcz109_1 : w107.cell? ⟨gb156, 1, none⟩ = some (.int .i64 ((rd_T85 l0_1 x20_3).f1)) := (blk_cell BK156.out 1).trans rfl
               have hcz109_2 : w107.cell? ⟨gb156, 2, none⟩ = some (.int .i64 ((rd_T85 l0_1 x20_3).f2)) := (blk_cell BK156.out 2).trans rfl
               have hcz109_3 : w107.cell? ⟨gb156, 3, none⟩ = some (.int .i64 ((rd_T85 l0_1 x20_3).f3)) := (blk_cell BK156.out 3).trans rfl
               have hfz109_0 := blk_frozen BK156.out 0
               have hfz109_1 := blk_frozen BK156.out 1
               have hfz109_2 := blk_frozen BK156.out 2
               have hfz109_3 := blk_frozen BK156.out 3
               try go_wp2
               have n0_ := Aside0.mk (Kd.S_drew HO_13.out)
               have n1_ := Aside0.mk (Kd.R_drew HO_18.out)
               have n2_ := Aside0.mk (blk_drew BK137.out)
               have n3_ := Aside0.mk (blk_drew BK156.out)
               have n4_ := Aside0.mk (below_drew1 HB.out)
               clear HO_13
               clear HO_18
               clear BK137
               clear BK156
               clear HB
               have HO_13 := n0_
               have HO_18 := n1_
               have BK137 := n2_
               have BK156 := n3_
               have HB := n4_
               clear n0_ n1_ n2_ n3_ n4_
               obtain ⟨Ao111, co111, eo111⟩ := Kd.R_slice HO_18.out
               (first | subst eo111 | (injection eo111 with f1_ f2_ f3_; have f4_ := f1_.symm; have f5_ := f3_.symm; clear f1_ f2_ f3_; subst f4_; subst f5_))
               have p165 : 0 ≤ (x22_4 : Int) := of_decide_eq_true (by first | (with_reducible assumption) | assumption)
               have q165 : x22_4 < (x18_4.length : Int) := of_decide_eq_true (by first | (with_reducible assumption) | assumption)
               obtain ⟨ad165, e165, hx165_0⟩ := Kd.at_int (Kd.R_reads' HO_18.out).2.2 x22_4 p165 q165
               cases e165
               replace p165 := eq_true p165
               replace q165 := eq_true q165
               have p166 : 0 ≤ ((ji99) : Int) := of_decide_eq_true (by first | (with_reducible assumption) | assumption)
               have q166 : (ji99) < (x13_2.length : Int) := of_decide_eq_true (by first | (with_reducible assumption) | assumption)
               obtain ⟨ad166, A166_0, c166_0, e166, hx166_0, hl166_0, hi166_0⟩ := at_L1 (Kd.S_reads' HO_13.out).2.2 (ji99) p166 q166
               obtain rfl : (⟨go25, 0, none⟩ : Addr) = ad166 := (by injection e166)
               obtain ⟨ce166, hce166, hMe166, hcc166⟩ := Kd.S_get HO_13.out [] (ji99) p166 (by first | exact q166 | exact of_decide_eq_true (by first | (with_reducible assumption) | assumption) | (have e_ := (Kd.S_reads' HO_13.out).1; omega))
               obtain ⟨ve166_0, rfl, ge166_0⟩ := hMe166
               have hv166_0 := hcc166 0 _ rfl
               rw [Nat.add_zero, show ((Kd.slice 2 (Kd.int .i64))).sz = 1 from rfl, Nat.mul_one] at hv166_0
               replace hv166_0 := Option.some.inj (hv166_0.symm.trans hx166_0)
               rw [hv166_0] at ge166_0
               have HL166_0 := Aside0.mk (show Kd.R (Kd.int .i64) 2 _ _ _ _ (rd_L1 x13_2 (ji99)) from ge166_0)
               clear hv166_0 ge166_0
               clear hcc166 hce166
               (first | simp only [add_plain] at hx166_0 | simp only [add_at] at hx166_0 | simp only [Addr.add, Nat.zero_add] at hx166_0 | skip)
               have HR166_0 := Aside0.mk hi166_0
               have HC166_0 := Aside0.mk hl166_0
               clear hi166_0 hl166_0
               replace p166 := eq_true p166
               replace q166 := eq_true q166
               have p167 : 0 ≤ ((ji102) : Int) := of_decide_eq_true (by first | (with_reducible assumption) | assumption)
               have q167 : (ji102) < ((rd_L1 x13_2 (ji99)).length : Int) := of_decide_eq_true (by first | (with_reducible assumption) | assumption)
               obtain ⟨ad167, e167, hx167_0⟩ := Kd.at_int (by repeat (first | (with_reducible exact HR166_0.out) | (with_reducible refine Kd.C_alloc ?_ _) | (with_reducible refine Kd.C_drewN ?_ _) | (with_reducible refine Kd.C_drew ?_) | exact HR166_0.out)) (ji102) p167 q167
               cases e167
               replace p167 := eq_true p167
               replace q167 := eq_true q167
               have p106 : 0 ≤ (x22_4 : Int) := of_decide_eq_true (by first | (with_reducible assumption) | assumption)
               have q106 : (x22_4 : Int) < ((x18_4.length : Int) : Int) := of_decide_eq_true (by first | (with_reducible assumption) | assumption)
               obtain ⟨go106, co106, eo106, gb106, gl106, cl106, HG106⟩ := Kd.R_form HO_18.out (by omega)
               (first | cases eo106 | (injection eo106 with ea_ en_ ec_; (first | subst ea_ | (injection ea_ with ea_; subst ea_)); subst ec_; clear en_))
               have GB106 := Aside0.mk gb106
               have GG106 := Aside0.mk HG106
               clear gb106 gl106 HG106
               (first | simp only [add_plain] at hx165_0 | skip)
               obtain ⟨hx106_0, hf106_0⟩ := Kd.R_celln 0 HO_18.out (x22_4 : Int) p106 q106
               replace p106 := eq_true p106
               replace q106 := eq_true q106
               have HP112 := Kd.R_putn HO_18.out (x22_4 : Int) ji105
               rw [← Ny168.out] at HP112
               have HQ112 := Aside0.mk HP112
               clear HP112
               refine start_ (n := 18) (S := fun w' => w'.cell? ⟨go106, (x22_4).toNat, none⟩ = some (.int .i64 (rd x18_4 x22_4)) ∧ w'.cell? ⟨go25, ((ji99)).toNat, none⟩ = some (.slice (some ad167) (rd_L1 x13_2 (ji99)).length c166_0) ∧ w'.cell? (ad167.add ((ji102)).toNat) = some (.int .i64 (rd (rd_L1 x13_2 (ji99)) (ji102)))) (ds := [17]) spec_l03Layers.z0 (by kernel_rfl) rfl rfl ⟨hx165_0, hx166_0, hx167_0⟩ (fun hHeld => ?_); refine with_tabW spec_l03Layers.tab28 spec_l03Layers.bits28 (fun HT_ HW_ => ?_)
               generalize w107.drew = w110 at HO_13 HO_18 BK137 BK156 HB GG106 HL166_0 HQ112 HR166_0 hf106_0 hx106_0 hx165_0 hx166_0 hx167_0 hHeld ⊢
               refine pure_ (i := 0) (N := some 148) (v := ?_) (a' := ?_) spec_l03Layers.z1 rfl rfl (any_of HT_.out (by kernel_rfl)) (fun _ _ _ h => h) (Or.inl ⟨by rfl, ?_⟩) ?_ ?_
               rotate_left
               ·intro w'
                go_simp
                with_reducible rfl
               rotate_left
               ·simp only [Act.put, q1_, q2_, q3_, i64_w, i32_w]
                rfl
               refine pure_ (i := 1) (N := some 149) (v := ?_) (a' := ?_) spec_l03Layers.z2 rfl rfl (any_of HT_.out (by kernel_rfl)) (fun _ _ _ h => h) (Or.inl ⟨by rfl, ?_⟩) ?_ ?_
               rotate_left
               ·intro w'
                go_simp
                with_reducible rfl
               rotate_left
               ·simp only [Act.put, q1_, q2_, q3_, i64_w, i32_w]
                rfl
               refine pure_ (i := 2) (N := some 150) (v := ?_) (a' := ?_) spec_l03Layers.z4 rfl rfl (any_of HT_.out (by kernel_rfl)) (fun _ _ _ h => h) (Or.inl ⟨by rfl, ?_⟩) ?_ ?_
               rotate_left
               ·intro w'
                go_simp
                with_reducible rfl
               rotate_left
               ·simp only [Act.put, q1_, q2_, q3_, i64_w, i32_w]
                rfl
               refine pure_ (i := 3) (N := some 151) (v := ?_) (a' := ?_) spec_l03Layers.z5 rfl rfl (any_of HT_.out (by kernel_rfl)) (fun _ _ _ h => h) (Or.inl ⟨by rfl, ?_⟩) ?_ ?_
               rotate_left
               ·intro w'
                go_simp
                with_reducible rfl
               rotate_left
               ·simp only [Act.put, q1_, q2_, q3_, i64_w, i32_w]
                rfl
               refine pure_ (i := 4) (N := some 152) (v := ?_) (a' := ?_) spec_l03Layers.z7 rfl rfl (any_of HT_.out (by kernel_rfl)) (fun _ _ _ h => h) (Or.inl ⟨by rfl, ?_⟩) ?_ ?_
               rotate_left
               ·intro w'
                go_simp
                with_reducible rfl
               rotate_left
               ·simp only [Act.put, q1_, q2_, q3_, i64_w, i32_w]
                rfl
               refine pure_ (i := 6) (N := some 154) (v := ?_) (a' := ?_) spec_l03Layers.z8 rfl rfl (any_of HT_.out (by kernel_rfl)) (fun _ _ _ h => h) (Or.inl ⟨by rfl, ?_⟩) ?_ ?_
               rotate_left
               ·intro w'
                go_simp
                with_reducible rfl
               rotate_left
               ·simp only [Act.put, q1_, q2_, q3_, i64_w, i32_w]
                rfl
               refine pure_ (i := 7) (N := some 155) (v := ?_) (a' := ?_) spec_l03Layers.z10 rfl rfl (any_of HT_.out (by kernel_rfl)) (fun _ _ _ h => h) (Or.inl ⟨by rfl, ?_⟩) ?_ ?_
               rotate_left
               ·intro w'
                go_simp
                with_reducible rfl
               rotate_left
               ·simp only [Act.put, q1_, q2_, q3_, i64_w, i32_w]
                rfl
               refine pure_ (i := 8) (N := some 156) (v := ?_) (a' := ?_) spec_l03Layers.z12 rfl rfl (any_of HT_.out (by kernel_rfl)) (fun _ _ _ h => h) (Or.inl ⟨by rfl, ?_⟩) ?_ ?_
               rotate_left
               ·intro w'
                go_simp
                with_reducible rfl
               rotate_left
               ·simp only [Act.put, q1_, q2_, q3_, i64_w, i32_w]
                rfl
               refine pure_ (i := 9) (N := some 157) (v := ?_) (a' := ?_) spec_l03Layers.z13 rfl rfl (any_of HT_.out (by kernel_rfl)) (fun _ _ _ h => h) (Or.inl ⟨by rfl, ?_⟩) ?_ ?_
               rotate_left
               ·intro w'
                go_simp
                with_reducible rfl
               rotate_left
               ·simp only [Act.put, q1_, q2_, q3_, i64_w, i32_w]
                rfl
               refine pure_ (i := 11) (N := some 159) (v := ?_) (a' := ?_) spec_l03Layers.z15 rfl rfl (any_of HT_.out (by kernel_rfl)) (fun _ _ _ h => h) (Or.inl ⟨by rfl, ?_⟩) ?_ ?_
               rotate_left
               ·intro w'
                go_simp
                with_reducible rfl
               rotate_left
               ·simp only [Act.put, q1_, q2_, q3_, i64_w, i32_w]
                rfl
               refine take_ (i := 5) (N := some 153) (v := ?_) (a' := ?_) spec_l03Layers.z16 rfl rfl (take_ofW HT_.out HW_.out (by kernel_rfl)) (fun _ _ _ h => h) (Or.inl ⟨by rfl, ?_⟩) hHeld ?_ ?_
               rotate_left
               ·rintro w' ⟨s0, s1, s2⟩
                go_simp
                with_reducible rfl
               rotate_left
               ·simp only [Act.put, q1_, q2_, q3_, i64_w, i32_w]
                rfl
               refine take_ (i := 10) (N := some 158) (v := ?_) (a' := ?_) spec_l03Layers.z18 rfl rfl (take_ofW HT_.out HW_.out (by kernel_rfl)) (fun _ _ _ h => h) (Or.inl ⟨by rfl, ?_⟩) hHeld ?_ ?_
               rotate_left
               ·rintro w' ⟨s0, s1, s2⟩
                go_simp
                with_reducible rfl
               rotate_left
               ·simp only [Act.put, q1_, q2_, q3_, i64_w, i32_w]
                rfl
               refine pure_ (i := 12) (N := some 160) (v := ?_) (a' := ?_) spec_l03Layers.z19 rfl rfl (any_of HT_.out (by kernel_rfl)) (fun _ _ _ h => h) (Or.inl ⟨by rfl, ?_⟩) ?_ ?_
               rotate_left
               ·intro w'
                go_simp
                with_reducible rfl
               rotate_left
               ·simp only [Act.put, q1_, q2_, q3_, i64_w, i32_w]
                rfl
               refine take_ (i := 13) (N := some 161) (v := ?_) (a' := ?_) spec_l03Layers.z21 rfl rfl (take_ofW HT_.out HW_.out (by kernel_rfl)) (fun _ _ _ h => h) (Or.inl ⟨by rfl, ?_⟩) hHeld ?_ ?_
               rotate_left
               ·rintro w' ⟨s0, s1, s2⟩
                go_simp
                with_reducible rfl
               rotate_left
               ·simp only [Act.put, q1_, q2_, q3_, i64_w, i32_w]
                rfl
               refine pure_ (i := 14) (N := some 162) (v := ?_) (a' := ?_) spec_l03Layers.z23 rfl rfl (any_of HT_.out (by kernel_rfl)) (fun _ _ _ h => h) (Or.inl ⟨by rfl, ?_⟩) ?_ ?_
               rotate_left
               ·intro w'
                go_simp
                with_reducible rfl
               rotate_left
               ·simp only [Act.put, q1_, q2_, q3_, i64_w, i32_w]
                rfl
               refine pure_ (i := 15) (N := some 163) (v := ?_) (a' := ?_) spec_l03Layers.z24 rfl rfl (any_of HT_.out (by kernel_rfl)) (fun _ _ _ h => h) (Or.inl ⟨by rfl, ?_⟩) ?_ ?_
               rotate_left
               ·intro w'
                go_simp
                with_reducible rfl
               rotate_left
               ·simp only [Act.put, q1_, q2_, q3_, i64_w, i32_w]
                rfl
               refine pure_ (i := 16) (N := some 164) (v := ?_) (a' := ?_) spec_l03Layers.z26 rfl rfl (any_of HT_.out (by kernel_rfl)) (fun _ _ _ h => h) (Or.inl ⟨by rfl, ?_⟩) ?_ ?_
               rotate_left
               ·intro w'
                go_simp
                with_reducible rfl
               rotate_left
               ·simp only [Act.put, q1_, q2_, q3_, i64_w, i32_w]
                rfl
               refine last_ (i := 17) (N := none) spec_l03Layers.z27 rfl rfl (one_of HT_.out (by kernel_rfl)) (by decide) (fun K hK => ?_)
               refine skip_ (w1 := ?_) (by rfl) rfl ?_ ?_
               rotate_left
               ·go_simp
                rfl
               refine hK.out _ _ ?_
               clear hK K
               refine done_ (done_of HT_.out (by kernel_rfl)) ?_
               try go_wp2
               go_roundg k4
               case measure => have := HK1.out; have := HK2.out; have := HK3.out; have := HK4.out; omega
               case rel => exact ⟨(y168), (wrap64 (x22_4 + 1)), (by first | rfl | (simp; done) | (simp [*]; done) | (simp; decide +kernel)), H', ⟨by have := HK1.out; have := HK2.out; have := HK3.out; have := HK4.out; omega⟩, ⟨by (try simp only [hl11_1]); (try simp only [hl13_2]); (with_reducible repeat (first | apply Kd.S_alloc | apply Kd.S_drewN | apply Kd.S_drew)); exact Kd.S_mono (Kd.S_far (p := ⟨go106, (x22_4 : Int).toNat, none⟩) (Kd.S_mono HO_13.out (fun k_ hk => (⟨hk, fun e_ => hk (by rw [e_]; rfl)⟩ : _ ∧ k_ ≠ go106))) (fun _ hk => hk.2) (.int .i64 ji105)) (fun _ hk => hk.1)⟩, ⟨by (try simp only [hl11_1]); (try simp only [hl13_2]); (with_reducible repeat (first | apply Kd.R_alloc | apply Kd.R_drewN | apply Kd.R_drew)); exact HQ112.out⟩, ⟨by (try simp only [hl11_1]); (try simp only [hl13_2]); (with_reducible repeat (first | apply bN_ | apply bD_ | apply bA_)); refine blk_far ?_ (by have h_ := Kd.R_ne HO_18.out BK137.out (by decide); intro e_; exact h_ (by rw [e_]; rfl)) _; (with_reducible repeat (first | apply bN_ | apply bD_ | apply bA_)); exact BK137.out⟩, ⟨by (try simp only [hl11_1]); (try simp only [hl13_2]); (with_reducible repeat (first | apply bN_ | apply bD_ | apply bA_)); refine blk_far ?_ (by have h_ := Kd.R_ne HO_18.out BK156.out (by decide); intro e_; exact h_ (by rw [e_]; rfl)) _; (with_reducible repeat (first | apply bN_ | apply bD_ | apply bA_)); exact BK156.out⟩, ⟨by repeat (first | (with_reducible first | exact HB.out | apply lA_ | apply lN_ | apply lD_ | refine lS_ ?_ GB106.out | refine lS_ ?_ GE137.out | refine lS_ ?_ GE156.out) | exact HB.out)⟩⟩
              rw [if_pos c53] at H
              have c53b0 : decide (0 < (wrap64 (Int.tdiv x15_2 ((rd_L1 l1 0).length : Int)))) = true := decide_eq_true c53
              clear c53
              by_cases c54 : (Int.tmod (wrap64 (Int.tdiv x22_4 t152)) a0_0) = ((rd_T85 l0_1 x20_3).f1)
              rotate_left
              ·rw [if_neg c54] at H
               have c54b0 : ((Int.tmod (wrap64 (Int.tdiv x22_4 t152)) a0_0) == ((rd_T85 l0_1 x20_3).f1)) = false := beq_eq_false_iff_ne.mpr c54
               have c54b1 : ((Int.tmod (wrap64 (Int.tdiv x22_4 t152)) a0_0) != ((rd_T85 l0_1 x20_3).f1)) = true := bne_iff_ne.mpr c54
               have H' := Aside0.mk H
               clear H
               try go_wp2
               have n0_ := Aside0.mk (Kd.S_drew HO_13.out)
               have n1_ := Aside0.mk (Kd.R_drew HO_18.out)
               have n2_ := Aside0.mk (blk_drew BK137.out)
               have n3_ := Aside0.mk (blk_drew BK156.out)
               have n4_ := Aside0.mk (below_drew1 HB.out)
               clear HO_13
               clear HO_18
               clear BK137
               clear BK156
               clear HB
               have HO_13 := n0_
               have HO_18 := n1_
               have BK137 := n2_
               have BK156 := n3_
               have HB := n4_
               clear n0_ n1_ n2_ n3_ n4_
               refine start_ (n := 10) (S := fun w' => True) (ds := []) spec_l03Layers.z3 (by kernel_rfl) rfl rfl trivial (fun hHeld => ?_); refine with_tabW spec_l03Layers.tab25 spec_l03Layers.bits25 (fun HT_ HW_ => ?_)
               generalize wr.drew = w92 at HO_13 HO_18 BK137 BK156 HB hHeld ⊢
               refine pure_ (i := 0) (N := some 107) (v := ?_) (a' := ?_) spec_l03Layers.z6 rfl rfl (any_of HT_.out (by kernel_rfl)) (fun _ _ _ h => h) (Or.inl ⟨by rfl, ?_⟩) ?_ ?_
               rotate_left
               ·intro w'
                go_simp
                with_reducible rfl
               rotate_left
               ·simp only [Act.put, q1_, q2_, q3_, i64_w, i32_w]
                rfl
               refine pure_ (i := 1) (N := some 108) (v := ?_) (a' := ?_) spec_l03Layers.z9 rfl rfl (any_of HT_.out (by kernel_rfl)) (fun _ _ _ h => h) (Or.inl ⟨by rfl, ?_⟩) ?_ ?_
               rotate_left
               ·intro w'
                go_simp
                with_reducible rfl
               rotate_left
               ·simp only [Act.put, q1_, q2_, q3_, i64_w, i32_w]
                rfl
               refine pure_ (i := 2) (N := some 109) (v := ?_) (a' := ?_) spec_l03Layers.z11 rfl rfl (any_of HT_.out (by kernel_rfl)) (fun _ _ _ h => h) (Or.inl ⟨by rfl, ?_⟩) ?_ ?_
               rotate_left
               ·intro w'
                go_simp
                with_reducible rfl
               rotate_left
               ·simp only [Act.put, q1_, q2_, q3_, i64_w, i32_w]
                rfl
               refine pure_ (i := 3) (N := some 110) (v := ?_) (a' := ?_) spec_l03Layers.z14 rfl rfl (any_of HT_.out (by kernel_rfl)) (fun _ _ _ h => h) (Or.inl ⟨by rfl, ?_⟩) ?_ ?_
               rotate_left
               ·intro w'
                go_simp
                with_reducible rfl
               rotate_left
               ·simp only [Act.put, q1_, q2_, q3_, i64_w, i32_w]
                rfl
               refine pure_ (i := 4) (N := some 111) (v := ?_) (a' := ?_) spec_l03Layers.z17 rfl rfl (any_of HT_.out (by kernel_rfl)) (fun _ _ _ h => h) (Or.inl ⟨by rfl, ?_⟩) ?_ ?_
               rotate_left
               ·intro w'
                go_simp
                with_reducible rfl
               rotate_left
               ·simp only [Act.put, q1_, q2_, q3_, i64_w, i32_w]
                rfl
               refine pure_ (i := 5) (N := some 112) (v := ?_) (a' := ?_) spec_l03Layers.z20 rfl rfl (any_of HT_.out (by kernel_rfl)) (fun _ _ _ h => h) (Or.inl ⟨by rfl, ?_⟩) ?_ ?_
               rotate_left
               ·intro w'
                go_simp
                with_reducible rfl
               rotate_left
               ·simp only [Act.put, q1_, q2_, q3_, i64_w, i32_w]
                rfl
               refine pure_ (i := 6) (N := some 113) (v := ?_) (a' := ?_) spec_l03Layers.z22 rfl rfl (any_of HT_.out (by kernel_rfl)) (fun _ _ _ h => h) (Or.inl ⟨by rfl, ?_⟩) ?_ ?_
               rotate_left
               ·intro w'
                go_simp
                with_reducible rfl
               rotate_left
               ·simp only [Act.put, q1_, q2_, q3_, i64_w, i32_w]
                rfl
               refine pure_ (i := 7) (N := some 114) (v := ?_) (a' := ?_) spec_l03Layers.z25 rfl rfl (any_of HT_.out (by kernel_rfl)) (fun _ _ _ h => h) (Or.inl ⟨by rfl, ?_⟩) ?_ ?_
               rotate_left
               ·intro w'
                go_simp
                with_reducible rfl
               rotate_left
               ·simp only [Act.put, q1_, q2_, q3_, i64_w, i32_w]
                rfl
               refine pure_ (i := 8) (N := some 23) (v := ?_) (a' := ?_) spec_l03Layers.z28 rfl rfl (any_of HT_.out (by kernel_rfl)) (fun _ _ _ h => h) (Or.inl ⟨by rfl, ?_⟩) ?_ ?_
               rotate_left
               ·intro w'
                go_simp
                with_reducible rfl
               rotate_left
               ·simp only [Act.put, q1_, q2_, q3_, i64_w, i32_w]
                rfl
               refine pure_ (i := 9) (N := some 24) (v := ?_) (a' := ?_) spec_l03Layers.z29 rfl rfl (any_of HT_.out (by kernel_rfl)) (fun _ _ _ h => h) (Or.inl ⟨by rfl, ?_⟩) ?_ ?_
               rotate_left
               ·intro w'
                go_simp
                with_reducible rfl
               rotate_left
               ·simp only [Act.put, q1_, q2_, q3_, i64_w, i32_w]
                rfl
               refine done_ (done_of HT_.out (by kernel_rfl)) ?_
               have hnb93 := NB156_137.out
               have hnc93 := NB137_156.out
               have hcz94_0 : w92.cell? ⟨gb156, 0, none⟩ = some (.int .i64 ((rd_T85 l0_1 x20_3).f0)) := (blk_cell BK156.out 0).trans rfl
               have hcz94_1 : w92.cell? ⟨gb156, 1, none⟩ = some (.int .i64 ((rd_T85 l0_1 x20_3).f1)) := (blk_cell BK156.out 1).trans rfl
               have hcz94_2 : w92.cell? ⟨gb156, 2, none⟩ = some (.int .i64 ((rd_T85 l0_1 x20_3).f2)) := (blk_cell BK156.out 2).trans rfl
               have hcz94_3 : w92.cell? ⟨gb156, 3, none⟩ = some (.int .i64 ((rd_T85 l0_1 x20_3).f3)) := (blk_cell BK156.out 3).trans rfl
               have hfz94_0 := blk_frozen BK156.out 0
               have hfz94_1 := blk_frozen BK156.out 1
               have hfz94_2 := blk_frozen BK156.out 2
               have hfz94_3 := blk_frozen BK156.out 3
               try go_wp2
               go_roundg k4
               case measure => have := HK1.out; have := HK2.out; have := HK3.out; have := HK4.out; omega
               case rel => exact ⟨(x18_4), (wrap64 (x22_4 + 1)), (by first | rfl | (simp; done) | (simp [*]; done) | (simp; decide +kernel)), H', ⟨by have := HK1.out; have := HK2.out; have := HK3.out; have := HK4.out; omega⟩, ⟨by (try simp only [hl11_1]); (try simp only [hl13_2]); (with_reducible repeat (first | apply Kd.S_alloc | apply Kd.S_drewN | apply Kd.S_drew)); exact HO_13.out⟩, ⟨by (try simp only [hl11_1]); (try simp only [hl13_2]); (with_reducible repeat (first | apply Kd.R_alloc | apply Kd.R_drewN | apply Kd.R_drew)); exact HO_18.out⟩, ⟨by (try simp only [hl11_1]); (try simp only [hl13_2]); (with_reducible repeat (first | apply bN_ | apply bD_ | apply bA_)); exact BK137.out⟩, ⟨by (try simp only [hl11_1]); (try simp only [hl13_2]); (with_reducible repeat (first | apply bN_ | apply bD_ | apply bA_)); exact BK156.out⟩, ⟨by repeat (first | (with_reducible first | exact HB.out | apply lA_ | apply lN_ | apply lD_ | refine lS_ ?_ GE137.out | refine lS_ ?_ GE156.out) | exact HB.out)⟩⟩
              rw [if_pos c54] at H
              have c54b0 : ((Int.tmod (wrap64 (Int.tdiv x22_4 t152)) a0_0) == ((rd_T85 l0_1 x20_3).f1)) = true := beq_iff_eq.mpr c54
              have c54b1 : ((Int.tmod (wrap64 (Int.tdiv x22_4 t152)) a0_0) != ((rd_T85 l0_1 x20_3).f1)) = false := bne_eq_false_iff_eq.mpr c54
              clear c54
              by_cases c55 : (Int.tmod x15_2 ((rd_L1 l1 0).length : Int)) > 0
              rotate_left
              ·rw [if_neg c55] at H
               have c55b0 : decide (0 < (Int.tmod x15_2 ((rd_L1 l1 0).length : Int))) = false := decide_eq_false c55
               (try (have c55b0_hl11_1 := c55b0; rw [hl11_1] at c55b0_hl11_1))
               (try (have c55b0_hl13_2 := c55b0; rw [hl13_2] at c55b0_hl13_2))
               clear c55
               by_cases c76 : 0 ≤ x22_4
               rotate_left
               ·rw [if_neg c76] at H
                exact absurd H (by simp)
               rw [if_pos c76] at H
               have c76b0 : decide (0 ≤ x22_4) = true := decide_eq_true c76
               clear c76
               by_cases c77 : x22_4 < (x18_4.length : Int)
               rotate_left
               ·rw [if_neg c77] at H
                exact absurd H (by simp)
               rw [if_pos c77] at H
               have c77b0 : decide (x22_4 < (x18_4.length : Int)) = true := decide_eq_true c77
               clear c77
               obtain ⟨ji78, hji78⟩ : ∃ j_ : Int, (wrap64 (x15_2 + 1)) = j_ := ⟨_, rfl⟩
               replace H : (if 0 ≤ (ji78) then (if (ji78) < (x13_2.length : Int) then (if 0 ≤ (wrap64 ((wrap64 (x22_4 + (wrap64 ((wrap64 (((rd_T85 l0_1 x20_3).f3) - (Int.tmod (wrap64 (Int.tdiv x22_4 t152)) a0_0))) * t152)))) + (wrap64 ((wrap64 (((rd_T85 l0_1 x20_3).f2) - (wrap64 (Int.tdiv x22_4 t148)))) * t148)))) then (if (wrap64 ((wrap64 (x22_4 + (wrap64 ((wrap64 (((rd_T85 l0_1 x20_3).f3) - (Int.tmod (wrap64 (Int.tdiv x22_4 t152)) a0_0))) * t152)))) + (wrap64 ((wrap64 (((rd_T85 l0_1 x20_3).f2) - (wrap64 (Int.tdiv x22_4 t148)))) * t148)))) < ((rd_L1 x13_2 (ji78)).length : Int) then (spec_l03Layers.l3 k4 l1 l2 ((rd_L1 l1 0).length : Int) a0_0 t139 x13_2 t148 x15_2 (wrap64 (Int.tdiv x15_2 ((rd_L1 l1 0).length : Int))) (Int.tmod x15_2 ((rd_L1 l1 0).length : Int)) (x18_4.set (x22_4 : Int).toNat (mn (wrap64 ((rd x18_4 x22_4) + (rd (rd_L1 x13_2 (ji78)) (wrap64 ((wrap64 (x22_4 + (wrap64 ((wrap64 (((rd_T85 l0_1 x20_3).f3) - (Int.tmod (wrap64 (Int.tdiv x22_4 t152)) a0_0))) * t152)))) + (wrap64 ((wrap64 (((rd_T85 l0_1 x20_3).f2) - (wrap64 (Int.tdiv x22_4 t148)))) * t148))))))) 1000000000000001)) t152 x20_3 (wrap64 (x22_4 + 1)) a0_0 l0_1 ((rd_T85 l0_1 x20_3).f0) ((rd_T85 l0_1 x20_3).f1) ((rd_T85 l0_1 x20_3).f2) ((rd_T85 l0_1 x20_3).f3)) else (none)) else (none)) else (none)) else (none)) = some r := by first | (rw [hji78] at H; exact H) | (simp only [hji78] at H ⊢; exact H)
               have hji78w : (IntKind.i64.wrap (x15_2 + 1)) = ji78 := (i64_w _).trans hji78
               by_cases c79 : 0 ≤ (ji78)
               rotate_left
               ·rw [if_neg c79] at H
                exact absurd H (by simp)
               rw [if_pos c79] at H
               have c79b0 : decide (0 ≤ (ji78)) = true := decide_eq_true c79
               clear c79
               by_cases c80 : (ji78) < (x13_2.length : Int)
               rotate_left
               ·rw [if_neg c80] at H
                exact absurd H (by simp)
               rw [if_pos c80] at H
               have c80b0 : decide ((ji78) < (x13_2.length : Int)) = true := decide_eq_true c80
               clear c80
               obtain ⟨ji81, hji81⟩ : ∃ j_ : Int, (wrap64 ((wrap64 (x22_4 + (wrap64 ((wrap64 (((rd_T85 l0_1 x20_3).f3) - (Int.tmod (wrap64 (Int.tdiv x22_4 t152)) a0_0))) * t152)))) + (wrap64 ((wrap64 (((rd_T85 l0_1 x20_3).f2) - (wrap64 (Int.tdiv x22_4 t148)))) * t148)))) = j_ := ⟨_, rfl⟩
               replace H : (if 0 ≤ (ji81) then (if (ji81) < ((rd_L1 x13_2 (ji78)).length : Int) then (spec_l03Layers.l3 k4 l1 l2 ((rd_L1 l1 0).length : Int) a0_0 t139 x13_2 t148 x15_2 (wrap64 (Int.tdiv x15_2 ((rd_L1 l1 0).length : Int))) (Int.tmod x15_2 ((rd_L1 l1 0).length : Int)) (x18_4.set (x22_4 : Int).toNat (mn (wrap64 ((rd x18_4 x22_4) + (rd (rd_L1 x13_2 (ji78)) (ji81)))) 1000000000000001)) t152 x20_3 (wrap64 (x22_4 + 1)) a0_0 l0_1 ((rd_T85 l0_1 x20_3).f0) ((rd_T85 l0_1 x20_3).f1) ((rd_T85 l0_1 x20_3).f2) ((rd_T85 l0_1 x20_3).f3)) else (none)) else (none)) = some r := by first | (rw [hji81] at H; exact H) | (simp only [hji81] at H ⊢; exact H)
               have hji81w : (IntKind.i64.wrap ((wrap64 (x22_4 + (wrap64 ((wrap64 (((rd_T85 l0_1 x20_3).f3) - (Int.tmod (wrap64 (Int.tdiv x22_4 t152)) a0_0))) * t152)))) + (wrap64 ((wrap64 (((rd_T85 l0_1 x20_3).f2) - (wrap64 (Int.tdiv x22_4 t148)))) * t148)))) = ji81 := (i64_w _).trans hji81
               by_cases c82 : 0 ≤ (ji81)
               rotate_left
               ·rw [if_neg c82] at H
                exact absurd H (by simp)
               rw [if_pos c82] at H
               have c82b0 : decide (0 ≤ (ji81)) = true := decide_eq_true c82
               clear c82
               by_cases c83 : (ji81) < ((rd_L1 x13_2 (ji78)).length : Int)
               rotate_left
               ·rw [if_neg c83] at H
                exact absurd H (by simp)
               rw [if_pos c83] at H
               have c83b0 : decide ((ji81) < ((rd_L1 x13_2 (ji78)).length : Int)) = true := decide_eq_true c83
               clear c83
               obtain ⟨ji84, hji84⟩ : ∃ j_ : Int, (mn (wrap64 ((rd x18_4 x22_4) + (rd (rd_L1 x13_2 (ji78)) (ji81)))) 1000000000000001) = j_ := ⟨_, rfl⟩
               replace H : (spec_l03Layers.l3 k4 l1 l2 ((rd_L1 l1 0).length : Int) a0_0 t139 x13_2 t148 x15_2 (wrap64 (Int.tdiv x15_2 ((rd_L1 l1 0).length : Int))) (Int.tmod x15_2 ((rd_L1 l1 0).length : Int)) (x18_4.set (x22_4 : Int).toNat (ji84)) t152 x20_3 (wrap64 (x22_4 + 1)) a0_0 l0_1 ((rd_T85 l0_1 x20_3).f0) ((rd_T85 l0_1 x20_3).f1) ((rd_T85 l0_1 x20_3).f2) ((rd_T85 l0_1 x20_3).f3)) = some r := by first | (rw [hji84] at H; exact H) | (simp only [hji84] at H ⊢; exact H)
               have hji84_ : (if 1000000000000001 < (wrap64 ((rd x18_4 x22_4) + (rd (rd_L1 x13_2 (ji78)) (ji81)))) then 1000000000000001 else (wrap64 ((rd x18_4 x22_4) + (rd (rd_L1 x13_2 (ji78)) (ji81))))) = ji84 := hji84
               obtain ⟨y164, hy164⟩ : ∃ y_ : List Int, y_ = (x18_4.set (x22_4 : Int).toNat (ji84)) := ⟨_, rfl⟩
               replace H : (spec_l03Layers.l3 k4 l1 l2 ((rd_L1 l1 0).length : Int) a0_0 t139 x13_2 t148 x15_2 (wrap64 (Int.tdiv x15_2 ((rd_L1 l1 0).length : Int))) (Int.tmod x15_2 ((rd_L1 l1 0).length : Int)) y164 t152 x20_3 (wrap64 (x22_4 + 1)) a0_0 l0_1 ((rd_T85 l0_1 x20_3).f0) ((rd_T85 l0_1 x20_3).f1) ((rd_T85 l0_1 x20_3).f2) ((rd_T85 l0_1 x20_3).f3)) = some r := by first | (rw [hy164]; with_reducible exact H) | (have H2_ := (Option.bind_some _ _).symm.trans H; rw [hy164]; with_reducible exact H2_) | (have H2_ := (Option.bind_some _ _).symm.trans H; with_reducible exact H2_) | with_reducible exact H | (rw [hy164]; exact H) | exact H
               have Ny164 := Aside0.mk hy164
               clear hy164
               have H' := Aside0.mk H
               clear H
               try go_wp2
               have n0_ := Aside0.mk (Kd.S_drew HO_13.out)
               have n1_ := Aside0.mk (Kd.R_drew HO_18.out)
               have n2_ := Aside0.mk (blk_drew BK137.out)
               have n3_ := Aside0.mk (blk_drew BK156.out)
               have n4_ := Aside0.mk (below_drew1 HB.out)
               clear HO_13
               clear HO_18
               clear BK137
               clear BK156
               clear HB
               have HO_13 := n0_
               have HO_18 := n1_
               have BK137 := n2_
               have BK156 := n3_
               have HB := n4_
               clear n0_ n1_ n2_ n3_ n4_
               refine start_ (n := 10) (S := fun w' => True) (ds := []) spec_l03Layers.z3 (by kernel_rfl) rfl rfl trivial (fun hHeld => ?_); refine with_tabW spec_l03Layers.tab25 spec_l03Layers.bits25 (fun HT_ HW_ => ?_)
               generalize wr.drew = w86 at HO_13 HO_18 BK137 BK156 HB hHeld ⊢
               refine pure_ (i := 0) (N := some 107) (v := ?_) (a' := ?_) spec_l03Layers.z6 rfl rfl (any_of HT_.out (by kernel_rfl)) (fun _ _ _ h => h) (Or.inl ⟨by rfl, ?_⟩) ?_ ?_
               rotate_left
               ·intro w'
                go_simp
                with_reducible rfl
               rotate_left
               ·simp only [Act.put, q1_, q2_, q3_, i64_w, i32_w]
                rfl
               refine pure_ (i := 1) (N := some 108) (v := ?_) (a' := ?_) spec_l03Layers.z9 rfl rfl (any_of HT_.out (by kernel_rfl)) (fun _ _ _ h => h) (Or.inl ⟨by rfl, ?_⟩) ?_ ?_
               rotate_left
               ·intro w'
                go_simp
                with_reducible rfl
               rotate_left
               ·simp only [Act.put, q1_, q2_, q3_, i64_w, i32_w]
                rfl
               refine pure_ (i := 2) (N := some 109) (v := ?_) (a' := ?_) spec_l03Layers.z11 rfl rfl (any_of HT_.out (by kernel_rfl)) (fun _ _ _ h => h) (Or.inl ⟨by rfl, ?_⟩) ?_ ?_
               rotate_left
               ·intro w'
                go_simp
                with_reducible rfl
               rotate_left
               ·simp only [Act.put, q1_, q2_, q3_, i64_w, i32_w]
                rfl
               refine pure_ (i := 3) (N := some 110) (v := ?_) (a' := ?_) spec_l03Layers.z14 rfl rfl (any_of HT_.out (by kernel_rfl)) (fun _ _ _ h => h) (Or.inl ⟨by rfl, ?_⟩) ?_ ?_
               rotate_left
               ·intro w'
                go_simp
                with_reducible rfl
               rotate_left
               ·simp only [Act.put, q1_, q2_, q3_, i64_w, i32_w]
                rfl
               refine pure_ (i := 4) (N := some 111) (v := ?_) (a' := ?_) spec_l03Layers.z17 rfl rfl (any_of HT_.out (by kernel_rfl)) (fun _ _ _ h => h) (Or.inl ⟨by rfl, ?_⟩) ?_ ?_
               rotate_left
               ·intro w'
                go_simp
                with_reducible rfl
               rotate_left
               ·simp only [Act.put, q1_, q2_, q3_, i64_w, i32_w]
                rfl
               refine pure_ (i := 5) (N := some 112) (v := ?_) (a' := ?_) spec_l03Layers.z20 rfl rfl (any_of HT_.out (by kernel_rfl)) (fun _ _ _ h => h) (Or.inl ⟨by rfl, ?_⟩) ?_ ?_
               rotate_left
               ·intro w'
                go_simp
                with_reducible rfl
               rotate_left
               ·simp only [Act.put, q1_, q2_, q3_, i64_w, i32_w]
                rfl
               refine pure_ (i := 6) (N := some 113) (v := ?_) (a' := ?_) spec_l03Layers.z22 rfl rfl (any_of HT_.out (by kernel_rfl)) (fun _ _ _ h => h) (Or.inl ⟨by rfl, ?_⟩) ?_ ?_
               rotate_left
               ·intro w'
                go_simp
                with_reducible rfl
               rotate_left
               ·simp only [Act.put, q1_, q2_, q3_, i64_w, i32_w]
                rfl
               refine pure_ (i := 7) (N := some 114) (v := ?_) (a' := ?_) spec_l03Layers.z25 rfl rfl (any_of HT_.out (by kernel_rfl)) (fun _ _ _ h => h) (Or.inl ⟨by rfl, ?_⟩) ?_ ?_
               rotate_left
               ·intro w'
                go_simp
                with_reducible rfl
               rotate_left
               ·simp only [Act.put, q1_, q2_, q3_, i64_w, i32_w]
                rfl
               refine pure_ (i := 8) (N := some 23) (v := ?_) (a' := ?_) spec_l03Layers.z28 rfl rfl (any_of HT_.out (by kernel_rfl)) (fun _ _ _ h => h) (Or.inl ⟨by rfl, ?_⟩) ?_ ?_
               rotate_left
               ·intro w'
                go_simp
                with_reducible rfl
               rotate_left
               ·simp only [Act.put, q1_, q2_, q3_, i64_w, i32_w]
                rfl
               refine pure_ (i := 9) (N := some 24) (v := ?_) (a' := ?_) spec_l03Layers.z29 rfl rfl (any_of HT_.out (by kernel_rfl)) (fun _ _ _ h => h) (Or.inl ⟨by rfl, ?_⟩) ?_ ?_
               rotate_left
               ·intro w'
                go_simp
                with_reducible rfl
               rotate_left
               ·simp only [Act.put, q1_, q2_, q3_, i64_w, i32_w]
                rfl
               refine done_ (done_of HT_.out (by kernel_rfl)) ?_
               have hnb87 := NB156_137.out
               have hnc87 := NB137_156.out
               have hcz88_0 : w86.cell? ⟨gb156, 0, none⟩ = some (.int .i64 ((rd_T85 l0_1 x20_3).f0)) := (blk_cell BK156.out 0).trans rfl
               have hcz88_1 : w86.cell? ⟨gb156, 1, none⟩ = some (.int .i64 ((rd_T85 l0_1 x20_3).f1)) := (blk_cell BK156.out 1).trans rfl
               have hcz88_2 : w86.cell? ⟨gb156, 2, none⟩ = some (.int .i64 ((rd_T85 l0_1 x20_3).f2)) := (blk_cell BK156.out 2).trans rfl
               have hcz88_3 : w86.cell? ⟨gb156, 3, none⟩ = some (.int .i64 ((rd_T85 l0_1 x20_3).f3)) := (blk_cell BK156.out 3).trans rfl
               have hfz88_0 := blk_frozen BK156.out 0
               have hfz88_1 := blk_frozen BK156.out 1
               have hfz88_2 := blk_frozen BK156.out 2
               have hfz88_3 := blk_frozen BK156.out 3
               try go_wp2
               have n0_ := Aside0.mk (Kd.S_drew HO_13.out)
               have n1_ := Aside0.mk (Kd.R_drew HO_18.out)
               have n2_ := Aside0.mk (blk_drew BK137.out)
               have n3_ := Aside0.mk (blk_drew BK156.out)
               have n4_ := Aside0.mk (below_drew1 HB.out)
               clear HO_13
               clear HO_18
               clear BK137
               clear BK156
               clear HB
               have HO_13 := n0_
               have HO_18 := n1_
               have BK137 := n2_
               have BK156 := n3_
               have HB := n4_
               clear n0_ n1_ n2_ n3_ n4_
               obtain ⟨Ao90, co90, eo90⟩ := Kd.R_slice HO_18.out
               (first | subst eo90 | (injection eo90 with f1_ f2_ f3_; have f4_ := f1_.symm; have f5_ := f3_.symm; clear f1_ f2_ f3_; subst f4_; subst f5_))
               have p161 : 0 ≤ (x22_4 : Int) := of_decide_eq_true (by first | (with_reducible assumption) | assumption)
               have q161 : x22_4 < (x18_4.length : Int) := of_decide_eq_true (by first | (with_reducible assumption) | assumption)
               obtain ⟨ad161, e161, hx161_0⟩ := Kd.at_int (Kd.R_reads' HO_18.out).2.2 x22_4 p161 q161
               cases e161
               replace p161 := eq_true p161
               replace q161 := eq_true q161
               have p162 : 0 ≤ ((ji78) : Int) := of_decide_eq_true (by first | (with_reducible assumption) | assumption)
               have q162 : (ji78) < (x13_2.length : Int) := of_decide_eq_true (by first | (with_reducible assumption) | assumption)
               obtain ⟨ad162, A162_0, c162_0, e162, hx162_0, hl162_0, hi162_0⟩ := at_L1 (Kd.S_reads' HO_13.out).2.2 (ji78) p162 q162
               obtain rfl : (⟨go25, 0, none⟩ : Addr) = ad162 := (by injection e162)
               obtain ⟨ce162, hce162, hMe162, hcc162⟩ := Kd.S_get HO_13.out [] (ji78) p162 (by first | exact q162 | exact of_decide_eq_true (by first | (with_reducible assumption) | assumption) | (have e_ := (Kd.S_reads' HO_13.out).1; omega))
               obtain ⟨ve162_0, rfl, ge162_0⟩ := hMe162
               have hv162_0 := hcc162 0 _ rfl
               rw [Nat.add_zero, show ((Kd.slice 2 (Kd.int .i64))).sz = 1 from rfl, Nat.mul_one] at hv162_0
               replace hv162_0 := Option.some.inj (hv162_0.symm.trans hx162_0)
               rw [hv162_0] at ge162_0
               have HL162_0 := Aside0.mk (show Kd.R (Kd.int .i64) 2 _ _ _ _ (rd_L1 x13_2 (ji78)) from ge162_0)
               clear hv162_0 ge162_0
               clear hcc162 hce162
               (first | simp only [add_plain] at hx162_0 | simp only [add_at] at hx162_0 | simp only [Addr.add, Nat.zero_add] at hx162_0 | skip)
               have HR162_0 := Aside0.mk hi162_0
               have HC162_0 := Aside0.mk hl162_0
               clear hi162_0 hl162_0
               replace p162 := eq_true p162
               replace q162 := eq_true q162
               have p163 : 0 ≤ ((ji81) : Int) := of_decide_eq_true (by first | (with_reducible assumption) | assumption)
               have q163 : (ji81) < ((rd_L1 x13_2 (ji78)).length : Int) := of_decide_eq_true (by first | (with_reducible assumption) | assumption)
               obtain ⟨ad163, e163, hx163_0⟩ := Kd.at_int (by repeat (first | (with_reducible exact HR162_0.out) | (with_reducible refine Kd.C_alloc ?_ _) | (with_reducible refine Kd.C_drewN ?_ _) | (with_reducible refine Kd.C_drew ?_) | exact HR162_0.out)) (ji81) p163 q163
               cases e163
               replace p163 := eq_true p163
               replace q163 := eq_true q163
               have p85 : 0 ≤ (x22_4 : Int) := of_decide_eq_true (by first | (with_reducible assumption) | assumption)
               have q85 : (x22_4 : Int) < ((x18_4.length : Int) : Int) := of_decide_eq_true (by first | (with_reducible assumption) | assumption)
               obtain ⟨go85, co85, eo85, gb85, gl85, cl85, HG85⟩ := Kd.R_form HO_18.out (by omega)
               (first | cases eo85 | (injection eo85 with ea_ en_ ec_; (first | subst ea_ | (injection ea_ with ea_; subst ea_)); subst ec_; clear en_))
               have GB85 := Aside0.mk gb85
               have GG85 := Aside0.mk HG85
               clear gb85 gl85 HG85
               (first | simp only [add_plain] at hx161_0 | skip)
               obtain ⟨hx85_0, hf85_0⟩ := Kd.R_celln 0 HO_18.out (x22_4 : Int) p85 q85
               replace p85 := eq_true p85
               replace q85 := eq_true q85
               have HP91 := Kd.R_putn HO_18.out (x22_4 : Int) ji84
               rw [← Ny164.out] at HP91
               have HQ91 := Aside0.mk HP91
               clear HP91
               refine start_ (n := 18) (S := fun w' => w'.cell? ⟨go85, (x22_4).toNat, none⟩ = some (.int .i64 (rd x18_4 x22_4)) ∧ w'.cell? ⟨go25, ((ji78)).toNat, none⟩ = some (.slice (some ad163) (rd_L1 x13_2 (ji78)).length c162_0) ∧ w'.cell? (ad163.add ((ji81)).toNat) = some (.int .i64 (rd (rd_L1 x13_2 (ji78)) (ji81)))) (ds := [17]) spec_l03Layers.z0 (by kernel_rfl) rfl rfl ⟨hx161_0, hx162_0, hx163_0⟩ (fun hHeld => ?_); refine with_tabW spec_l03Layers.tab28 spec_l03Layers.bits28 (fun HT_ HW_ => ?_)
               generalize w86.drew = w89 at HO_13 HO_18 BK137 BK156 HB GG85 HL162_0 HQ91 HR162_0 hf85_0 hx161_0 hx162_0 hx163_0 hx85_0 hHeld ⊢
               refine pure_ (i := 0) (N := some 148) (v := ?_) (a' := ?_) spec_l03Layers.z1 rfl rfl (any_of HT_.out (by kernel_rfl)) (fun _ _ _ h => h) (Or.inl ⟨by rfl, ?_⟩) ?_ ?_
               rotate_left
               ·intro w'
                go_simp
                with_reducible rfl
               rotate_left
               ·simp only [Act.put, q1_, q2_, q3_, i64_w, i32_w]
                rfl
               refine pure_ (i := 1) (N := some 149) (v := ?_) (a' := ?_) spec_l03Layers.z2 rfl rfl (any_of HT_.out (by kernel_rfl)) (fun _ _ _ h => h) (Or.inl ⟨by rfl, ?_⟩) ?_ ?_
               rotate_left
               ·intro w'
                go_simp
                with_reducible rfl
               rotate_left
               ·simp only [Act.put, q1_, q2_, q3_, i64_w, i32_w]
                rfl
               refine pure_ (i := 2) (N := some 150) (v := ?_) (a' := ?_) spec_l03Layers.z4 rfl rfl (any_of HT_.out (by kernel_rfl)) (fun _ _ _ h => h) (Or.inl ⟨by rfl, ?_⟩) ?_ ?_
               rotate_left
               ·intro w'
                go_simp
                with_reducible rfl
               rotate_left
               ·simp only [Act.put, q1_, q2_, q3_, i64_w, i32_w]
                rfl
               refine pure_ (i := 3) (N := some 151) (v := ?_) (a' := ?_) spec_l03Layers.z5 rfl rfl (any_of HT_.out (by kernel_rfl)) (fun _ _ _ h => h) (Or.inl ⟨by rfl, ?_⟩) ?_ ?_
               rotate_left
               ·intro w'
                go_simp
                with_reducible rfl
               rotate_left
               ·simp only [Act.put, q1_, q2_, q3_, i64_w, i32_w]
                rfl
               refine pure_ (i := 4) (N := some 152) (v := ?_) (a' := ?_) spec_l03Layers.z7 rfl rfl (any_of HT_.out (by kernel_rfl)) (fun _ _ _ h => h) (Or.inl ⟨by rfl, ?_⟩) ?_ ?_
               rotate_left
               ·intro w'
                go_simp
                with_reducible rfl
               rotate_left
               ·simp only [Act.put, q1_, q2_, q3_, i64_w, i32_w]
                rfl
               refine pure_ (i := 6) (N := some 154) (v := ?_) (a' := ?_) spec_l03Layers.z8 rfl rfl (any_of HT_.out (by kernel_rfl)) (fun _ _ _ h => h) (Or.inl ⟨by rfl, ?_⟩) ?_ ?_
               rotate_left
               ·intro w'
                go_simp
                with_reducible rfl
               rotate_left
               ·simp only [Act.put, q1_, q2_, q3_, i64_w, i32_w]
                rfl
               refine pure_ (i := 7) (N := some 155) (v := ?_) (a' := ?_) spec_l03Layers.z10 rfl rfl (any_of HT_.out (by kernel_rfl)) (fun _ _ _ h => h) (Or.inl ⟨by rfl, ?_⟩) ?_ ?_
               rotate_left
               ·intro w'
                go_simp
                with_reducible rfl
               rotate_left
               ·simp only [Act.put, q1_, q2_, q3_, i64_w, i32_w]
                rfl
               refine pure_ (i := 8) (N := some 156) (v := ?_) (a' := ?_) spec_l03Layers.z12 rfl rfl (any_of HT_.out (by kernel_rfl)) (fun _ _ _ h => h) (Or.inl ⟨by rfl, ?_⟩) ?_ ?_
               rotate_left
               ·intro w'
                go_simp
                with_reducible rfl
               rotate_left
               ·simp only [Act.put, q1_, q2_, q3_, i64_w, i32_w]
                rfl
               refine pure_ (i := 9) (N := some 157) (v := ?_) (a' := ?_) spec_l03Layers.z13 rfl rfl (any_of HT_.out (by kernel_rfl)) (fun _ _ _ h => h) (Or.inl ⟨by rfl, ?_⟩) ?_ ?_
               rotate_left
               ·intro w'
                go_simp
                with_reducible rfl
               rotate_left
               ·simp only [Act.put, q1_, q2_, q3_, i64_w, i32_w]
                rfl
               refine pure_ (i := 11) (N := some 159) (v := ?_) (a' := ?_) spec_l03Layers.z15 rfl rfl (any_of HT_.out (by kernel_rfl)) (fun _ _ _ h => h) (Or.inl ⟨by rfl, ?_⟩) ?_ ?_
               rotate_left
               ·intro w'
                go_simp
                with_reducible rfl
               rotate_left
               ·simp only [Act.put, q1_, q2_, q3_, i64_w, i32_w]
                rfl
               refine take_ (i := 5) (N := some 153) (v := ?_) (a' := ?_) spec_l03Layers.z16 rfl rfl (take_ofW HT_.out HW_.out (by kernel_rfl)) (fun _ _ _ h => h) (Or.inl ⟨by rfl, ?_⟩) hHeld ?_ ?_
               rotate_left
               ·rintro w' ⟨s0, s1, s2⟩
                go_simp
                with_reducible rfl
               rotate_left
               ·simp only [Act.put, q1_, q2_, q3_, i64_w, i32_w]
                rfl
               refine take_ (i := 10) (N := some 158) (v := ?_) (a' := ?_) spec_l03Layers.z18 rfl rfl (take_ofW HT_.out HW_.out (by kernel_rfl)) (fun _ _ _ h => h) (Or.inl ⟨by rfl, ?_⟩) hHeld ?_ ?_
               rotate_left
               ·rintro w' ⟨s0, s1, s2⟩
                go_simp
                with_reducible rfl
               rotate_left
               ·simp only [Act.put, q1_, q2_, q3_, i64_w, i32_w]
                rfl
               refine pure_ (i := 12) (N := some 160) (v := ?_) (a' := ?_) spec_l03Layers.z19 rfl rfl (any_of HT_.out (by kernel_rfl)) (fun _ _ _ h => h) (Or.inl ⟨by rfl, ?_⟩) ?_ ?_
               rotate_left
               ·intro w'
                go_simp
                with_reducible rfl
               rotate_left
               ·simp only [Act.put, q1_, q2_, q3_, i64_w, i32_w]
                rfl
               refine take_ (i := 13) (N := some 161) (v := ?_) (a' := ?_) spec_l03Layers.z21 rfl rfl (take_ofW HT_.out HW_.out (by kernel_rfl)) (fun _ _ _ h => h) (Or.inl ⟨by rfl, ?_⟩) hHeld ?_ ?_
               rotate_left
               ·rintro w' ⟨s0, s1, s2⟩
                go_simp
                with_reducible rfl
               rotate_left
               ·simp only [Act.put, q1_, q2_, q3_, i64_w, i32_w]
                rfl
               refine pure_ (i := 14) (N := some 162) (v := ?_) (a' := ?_) spec_l03Layers.z23 rfl rfl (any_of HT_.out (by kernel_rfl)) (fun _ _ _ h => h) (Or.inl ⟨by rfl, ?_⟩) ?_ ?_
               rotate_left
               ·intro w'
                go_simp
                with_reducible rfl
               rotate_left
               ·simp only [Act.put, q1_, q2_, q3_, i64_w, i32_w]
                rfl
               refine pure_ (i := 15) (N := some 163) (v := ?_) (a' := ?_) spec_l03Layers.z24 rfl rfl (any_of HT_.out (by kernel_rfl)) (fun _ _ _ h => h) (Or.inl ⟨by rfl, ?_⟩) ?_ ?_
               rotate_left
               ·intro w'
                go_simp
                with_reducible rfl
               rotate_left
               ·simp only [Act.put, q1_, q2_, q3_, i64_w, i32_w]
                rfl
               refine pure_ (i := 16) (N := some 164) (v := ?_) (a' := ?_) spec_l03Layers.z26 rfl rfl (any_of HT_.out (by kernel_rfl)) (fun _ _ _ h => h) (Or.inl ⟨by rfl, ?_⟩) ?_ ?_
               rotate_left
               ·intro w'
                go_simp
                with_reducible rfl
               rotate_left
               ·simp only [Act.put, q1_, q2_, q3_, i64_w, i32_w]
                rfl
               refine last_ (i := 17) (N := none) spec_l03Layers.z27 rfl rfl (one_of HT_.out (by kernel_rfl)) (by decide) (fun K hK => ?_)
               refine skip_ (w1 := ?_) (by rfl) rfl ?_ ?_
               rotate_left
               ·go_simp
                rfl
               refine hK.out _ _ ?_
               clear hK K
               refine done_ (done_of HT_.out (by kernel_rfl)) ?_
               try go_wp2
               go_roundg k4
               case measure => have := HK1.out; have := HK2.out; have := HK3.out; have := HK4.out; omega
               case rel => exact ⟨(y164), (wrap64 (x22_4 + 1)), (by first | rfl | (simp; done) | (simp [*]; done) | (simp; decide +kernel)), H', ⟨by have := HK1.out; have := HK2.out; have := HK3.out; have := HK4.out; omega⟩, ⟨by (try simp only [hl11_1]); (try simp only [hl13_2]); (with_reducible repeat (first | apply Kd.S_alloc | apply Kd.S_drewN | apply Kd.S_drew)); exact Kd.S_mono (Kd.S_far (p := ⟨go85, (x22_4 : Int).toNat, none⟩) (Kd.S_mono HO_13.out (fun k_ hk => (⟨hk, fun e_ => hk (by rw [e_]; rfl)⟩ : _ ∧ k_ ≠ go85))) (fun _ hk => hk.2) (.int .i64 ji84)) (fun _ hk => hk.1)⟩, ⟨by (try simp only [hl11_1]); (try simp only [hl13_2]); (with_reducible repeat (first | apply Kd.R_alloc | apply Kd.R_drewN | apply Kd.R_drew)); exact HQ91.out⟩, ⟨by (try simp only [hl11_1]); (try simp only [hl13_2]); (with_reducible repeat (first | apply bN_ | apply bD_ | apply bA_)); refine blk_far ?_ (by have h_ := Kd.R_ne HO_18.out BK137.out (by decide); intro e_; exact h_ (by rw [e_]; rfl)) _; (with_reducible repeat (first | apply bN_ | apply bD_ | apply bA_)); exact BK137.out⟩, ⟨by (try simp only [hl11_1]); (try simp only [hl13_2]); (with_reducible repeat (first | apply bN_ | apply bD_ | apply bA_)); refine blk_far ?_ (by have h_ := Kd.R_ne HO_18.out BK156.out (by decide); intro e_; exact h_ (by rw [e_]; rfl)) _; (with_reducible repeat (first | apply bN_ | apply bD_ | apply bA_)); exact BK156.out⟩, ⟨by repeat (first | (with_reducible first | exact HB.out | apply lA_ | apply lN_ | apply lD_ | refine lS_ ?_ GB85.out | refine lS_ ?_ GE137.out | refine lS_ ?_ GE156.out) | exact HB.out)⟩⟩
              rw [if_pos c55] at H
              have c55b0 : decide (0 < (Int.tmod x15_2 ((rd_L1 l1 0).length : Int))) = true := decide_eq_true c55
              clear c55
              by_cases c56 : (wrap64 (Int.tdiv x22_4 t148)) = ((rd_T85 l0_1 x20_3).f0)
              rotate_left
              ·rw [if_neg c56] at H
               have c56b0 : ((wrap64 (Int.tdiv x22_4 t148)) == ((rd_T85 l0_1 x20_3).f0)) = false := beq_eq_false_iff_ne.mpr c56
               have c56b1 : ((wrap64 (Int.tdiv x22_4 t148)) != ((rd_T85 l0_1 x20_3).f0)) = true := bne_iff_ne.mpr c56
               have H' := Aside0.mk H
               clear H
               try go_wp2
               have n0_ := Aside0.mk (Kd.S_drew HO_13.out)
               have n1_ := Aside0.mk (Kd.R_drew HO_18.out)
               have n2_ := Aside0.mk (blk_drew BK137.out)
               have n3_ := Aside0.mk (blk_drew BK156.out)
               have n4_ := Aside0.mk (below_drew1 HB.out)
               clear HO_13
               clear HO_18
               clear BK137
               clear BK156
               clear HB
               have HO_13 := n0_
               have HO_18 := n1_
               have BK137 := n2_
               have BK156 := n3_
               have HB := n4_
               clear n0_ n1_ n2_ n3_ n4_
               refine start_ (n := 10) (S := fun w' => True) (ds := []) spec_l03Layers.z3 (by kernel_rfl) rfl rfl trivial (fun hHeld => ?_); refine with_tabW spec_l03Layers.tab25 spec_l03Layers.bits25 (fun HT_ HW_ => ?_)
               generalize wr.drew = w73 at HO_13 HO_18 BK137 BK156 HB hHeld ⊢
               refine pure_ (i := 0) (N := some 107) (v := ?_) (a' := ?_) spec_l03Layers.z6 rfl rfl (any_of HT_.out (by kernel_rfl)) (fun _ _ _ h => h) (Or.inl ⟨by rfl, ?_⟩) ?_ ?_
               rotate_left
               ·intro w'
                go_simp
                with_reducible rfl
               rotate_left
               ·simp only [Act.put, q1_, q2_, q3_, i64_w, i32_w]
                rfl
               refine pure_ (i := 1) (N := some 108) (v := ?_) (a' := ?_) spec_l03Layers.z9 rfl rfl (any_of HT_.out (by kernel_rfl)) (fun _ _ _ h => h) (Or.inl ⟨by rfl, ?_⟩) ?_ ?_
               rotate_left
               ·intro w'
                go_simp
                with_reducible rfl
               rotate_left
               ·simp only [Act.put, q1_, q2_, q3_, i64_w, i32_w]
                rfl
               refine pure_ (i := 2) (N := some 109) (v := ?_) (a' := ?_) spec_l03Layers.z11 rfl rfl (any_of HT_.out (by kernel_rfl)) (fun _ _ _ h => h) (Or.inl ⟨by rfl, ?_⟩) ?_ ?_
               rotate_left
               ·intro w'
                go_simp
                with_reducible rfl
               rotate_left
               ·simp only [Act.put, q1_, q2_, q3_, i64_w, i32_w]
                rfl
               refine pure_ (i := 3) (N := some 110) (v := ?_) (a' := ?_) spec_l03Layers.z14 rfl rfl (any_of HT_.out (by kernel_rfl)) (fun _ _ _ h => h) (Or.inl ⟨by rfl, ?_⟩) ?_ ?_
               rotate_left
               ·intro w'
                go_simp
                with_reducible rfl
               rotate_left
               ·simp only [Act.put, q1_, q2_, q3_, i64_w, i32_w]
                rfl
               refine pure_ (i := 4) (N := some 111) (v := ?_) (a' := ?_) spec_l03Layers.z17 rfl rfl (any_of HT_.out (by kernel_rfl)) (fun _ _ _ h => h) (Or.inl ⟨by rfl, ?_⟩) ?_ ?_
               rotate_left
               ·intro w'
                go_simp
                with_reducible rfl
               rotate_left
               ·simp only [Act.put, q1_, q2_, q3_, i64_w, i32_w]
                rfl
               refine pure_ (i := 5) (N := some 112) (v := ?_) (a' := ?_) spec_l03Layers.z20 rfl rfl (any_of HT_.out (by kernel_rfl)) (fun _ _ _ h => h) (Or.inl ⟨by rfl, ?_⟩) ?_ ?_
               rotate_left
               ·intro w'
                go_simp
                with_reducible rfl
               rotate_left
               ·simp only [Act.put, q1_, q2_, q3_, i64_w, i32_w]
                rfl
               refine pure_ (i := 6) (N := some 113) (v := ?_) (a' := ?_) spec_l03Layers.z22 rfl rfl (any_of HT_.out (by kernel_rfl)) (fun _ _ _ h => h) (Or.inl ⟨by rfl, ?_⟩) ?_ ?_
               rotate_left
               ·intro w'
                go_simp
                with_reducible rfl
               rotate_left
               ·simp only [Act.put, q1_, q2_, q3_, i64_w, i32_w]
                rfl
               refine pure_ (i := 7) (N := some 114) (v := ?_) (a' := ?_) spec_l03Layers.z25 rfl rfl (any_of HT_.out (by kernel_rfl)) (fun _ _ _ h => h) (Or.inl ⟨by rfl, ?_⟩) ?_ ?_
               rotate_left
               ·intro w'
                go_simp
                with_reducible rfl
               rotate_left
               ·simp only [Act.put, q1_, q2_, q3_, i64_w, i32_w]
                rfl
               refine pure_ (i := 8) (N := some 23) (v := ?_) (a' := ?_) spec_l03Layers.z28 rfl rfl (any_of HT_.out (by kernel_rfl)) (fun _ _ _ h => h) (Or.inl ⟨by rfl, ?_⟩) ?_ ?_
               rotate_left
               ·intro w'
                go_simp
                with_reducible rfl
               rotate_left
               ·simp only [Act.put, q1_, q2_, q3_, i64_w, i32_w]
                rfl
               refine pure_ (i := 9) (N := some 24) (v := ?_) (a' := ?_) spec_l03Layers.z29 rfl rfl (any_of HT_.out (by kernel_rfl)) (fun _ _ _ h => h) (Or.inl ⟨by rfl, ?_⟩) ?_ ?_
               rotate_left
               ·intro w'
                go_simp
                with_reducible rfl
               rotate_left
               ·simp only [Act.put, q1_, q2_, q3_, i64_w, i32_w]
                rfl
               refine done_ (done_of HT_.out (by kernel_rfl)) ?_
               have hnb74 := NB156_137.out
               have hnc74 := NB137_156.out
               have hcz75_0 : w73.cell? ⟨gb156, 0, none⟩ = some (.int .i64 ((rd_T85 l0_1 x20_3).f0)) := (blk_cell BK156.out 0).trans rfl
               have hcz75_1 : w73.cell? ⟨gb156, 1, none⟩ = some (.int .i64 ((rd_T85 l0_1 x20_3).f1)) := (blk_cell BK156.out 1).trans rfl
               have hcz75_2 : w73.cell? ⟨gb156, 2, none⟩ = some (.int .i64 ((rd_T85 l0_1 x20_3).f2)) := (blk_cell BK156.out 2).trans rfl
               have hcz75_3 : w73.cell? ⟨gb156, 3, none⟩ = some (.int .i64 ((rd_T85 l0_1 x20_3).f3)) := (blk_cell BK156.out 3).trans rfl
               have hfz75_0 := blk_frozen BK156.out 0
               have hfz75_1 := blk_frozen BK156.out 1
               have hfz75_2 := blk_frozen BK156.out 2
               have hfz75_3 := blk_frozen BK156.out 3
               try go_wp2
               go_roundg k4
               case measure => have := HK1.out; have := HK2.out; have := HK3.out; have := HK4.out; omega
               case rel => exact ⟨(x18_4), (wrap64 (x22_4 + 1)), (by first | rfl | (simp; done) | (simp [*]; done) | (simp; decide +kernel)), H', ⟨by have := HK1.out; have := HK2.out; have := HK3.out; have := HK4.out; omega⟩, ⟨by (try simp only [hl11_1]); (try simp only [hl13_2]); (with_reducible repeat (first | apply Kd.S_alloc | apply Kd.S_drewN | apply Kd.S_drew)); exact HO_13.out⟩, ⟨by (try simp only [hl11_1]); (try simp only [hl13_2]); (with_reducible repeat (first | apply Kd.R_alloc | apply Kd.R_drewN | apply Kd.R_drew)); exact HO_18.out⟩, ⟨by (try simp only [hl11_1]); (try simp only [hl13_2]); (with_reducible repeat (first | apply bN_ | apply bD_ | apply bA_)); exact BK137.out⟩, ⟨by (try simp only [hl11_1]); (try simp only [hl13_2]); (with_reducible repeat (first | apply bN_ | apply bD_ | apply bA_)); exact BK156.out⟩, ⟨by repeat (first | (with_reducible first | exact HB.out | apply lA_ | apply lN_ | apply lD_ | refine lS_ ?_ GE137.out | refine lS_ ?_ GE156.out) | exact HB.out)⟩⟩
              rw [if_pos c56] at H
              have c56b0 : ((wrap64 (Int.tdiv x22_4 t148)) == ((rd_T85 l0_1 x20_3).f0)) = true := beq_iff_eq.mpr c56
              have c56b1 : ((wrap64 (Int.tdiv x22_4 t148)) != ((rd_T85 l0_1 x20_3).f0)) = false := bne_eq_false_iff_eq.mpr c56
              clear c56
              by_cases c57 : 0 ≤ x22_4
              rotate_left
              ·rw [if_neg c57] at H
               exact absurd H (by simp)
              rw [if_pos c57] at H
              have c57b0 : decide (0 ≤ x22_4) = true := decide_eq_true c57
              clear c57
              by_cases c58 : x22_4 < (x18_4.length : Int)
              rotate_left
              ·rw [if_neg c58] at H
               exact absurd H (by simp)
              rw [if_pos c58] at H
              have c58b0 : decide (x22_4 < (x18_4.length : Int)) = true := decide_eq_true c58
              clear c58
              obtain ⟨ji59, hji59⟩ : ∃ j_ : Int, (wrap64 (x15_2 + 1)) = j_ := ⟨_, rfl⟩
              replace H : (if 0 ≤ (ji59) then (if (ji59) < (x13_2.length : Int) then (if 0 ≤ (wrap64 ((wrap64 (x22_4 + (wrap64 ((wrap64 (((rd_T85 l0_1 x20_3).f3) - (Int.tmod (wrap64 (Int.tdiv x22_4 t152)) a0_0))) * t152)))) + (wrap64 ((wrap64 (((rd_T85 l0_1 x20_3).f2) - (wrap64 (Int.tdiv x22_4 t148)))) * t148)))) then (if (wrap64 ((wrap64 (x22_4 + (wrap64 ((wrap64 (((rd_T85 l0_1 x20_3).f3) - (Int.tmod (wrap64 (Int.tdiv x22_4 t152)) a0_0))) * t152)))) + (wrap64 ((wrap64 (((rd_T85 l0_1 x20_3).f2) - (wrap64 (Int.tdiv x22_4 t148)))) * t148)))) < ((rd_L1 x13_2 (ji59)).length : Int) then (spec_l03Layers.l3 k4 l1 l2 ((rd_L1 l1 0).length : Int) a0_0 t139 x13_2 t148 x15_2 (wrap64 (Int.tdiv x15_2 ((rd_L1 l1 0).length : Int))) (Int.tmod x15_2 ((rd_L1 l1 0).length : Int)) (x18_4.set (x22_4 : Int).toNat (mn (wrap64 ((rd x18_4 x22_4) + (rd (rd_L1 x13_2 (ji59)) (wrap64 ((wrap64 (x22_4 + (wrap64 ((wrap64 (((rd_T85 l0_1 x20_3).f3) - (Int.tmod (wrap64 (Int.tdiv x22_4 t152)) a0_0))) * t152)))) + (wrap64 ((wrap64 (((rd_T85 l0_1 x20_3).f2) - (wrap64 (Int.tdiv x22_4 t148)))) * t148))))))) 1000000000000001)) t152 x20_3 (wrap64 (x22_4 + 1)) a0_0 l0_1 ((rd_T85 l0_1 x20_3).f0) ((rd_T85 l0_1 x20_3).f1) ((rd_T85 l0_1 x20_3).f2) ((rd_T85 l0_1 x20_3).f3)) else (none)) else (none)) else (none)) else (none)) = some r := by first | (rw [hji59] at H; exact H) | (simp only [hji59] at H ⊢; exact H)
              have hji59w : (IntKind.i64.wrap (x15_2 + 1)) = ji59 := (i64_w _).trans hji59
              by_cases c60 : 0 ≤ (ji59)
              rotate_left
              ·rw [if_neg c60] at H
               exact absurd H (by simp)
              rw [if_pos c60] at H
              have c60b0 : decide (0 ≤ (ji59)) = true := decide_eq_true c60
              clear c60
              by_cases c61 : (ji59) < (x13_2.length : Int)
              rotate_left
              ·rw [if_neg c61] at H
               exact absurd H (by simp)
              rw [if_pos c61] at H
              have c61b0 : decide ((ji59) < (x13_2.length : Int)) = true := decide_eq_true c61
              clear c61
              obtain ⟨ji62, hji62⟩ : ∃ j_ : Int, (wrap64 ((wrap64 (x22_4 + (wrap64 ((wrap64 (((rd_T85 l0_1 x20_3).f3) - (Int.tmod (wrap64 (Int.tdiv x22_4 t152)) a0_0))) * t152)))) + (wrap64 ((wrap64 (((rd_T85 l0_1 x20_3).f2) - (wrap64 (Int.tdiv x22_4 t148)))) * t148)))) = j_ := ⟨_, rfl⟩
              replace H : (if 0 ≤ (ji62) then (if (ji62) < ((rd_L1 x13_2 (ji59)).length : Int) then (spec_l03Layers.l3 k4 l1 l2 ((rd_L1 l1 0).length : Int) a0_0 t139 x13_2 t148 x15_2 (wrap64 (Int.tdiv x15_2 ((rd_L1 l1 0).length : Int))) (Int.tmod x15_2 ((rd_L1 l1 0).length : Int)) (x18_4.set (x22_4 : Int).toNat (mn (wrap64 ((rd x18_4 x22_4) + (rd (rd_L1 x13_2 (ji59)) (ji62)))) 1000000000000001)) t152 x20_3 (wrap64 (x22_4 + 1)) a0_0 l0_1 ((rd_T85 l0_1 x20_3).f0) ((rd_T85 l0_1 x20_3).f1) ((rd_T85 l0_1 x20_3).f2) ((rd_T85 l0_1 x20_3).f3)) else (none)) else (none)) = some r := by first | (rw [hji62] at H; exact H) | (simp only [hji62] at H ⊢; exact H)
              have hji62w : (IntKind.i64.wrap ((wrap64 (x22_4 + (wrap64 ((wrap64 (((rd_T85 l0_1 x20_3).f3) - (Int.tmod (wrap64 (Int.tdiv x22_4 t152)) a0_0))) * t152)))) + (wrap64 ((wrap64 (((rd_T85 l0_1 x20_3).f2) - (wrap64 (Int.tdiv x22_4 t148)))) * t148)))) = ji62 := (i64_w _).trans hji62
              by_cases c63 : 0 ≤ (ji62)
              rotate_left
              ·rw [if_neg c63] at H
               exact absurd H (by simp)
              rw [if_pos c63] at H
              have c63b0 : decide (0 ≤ (ji62)) = true := decide_eq_true c63
              clear c63
              by_cases c64 : (ji62) < ((rd_L1 x13_2 (ji59)).length : Int)
              rotate_left
              ·rw [if_neg c64] at H
               exact absurd H (by simp)
              rw [if_pos c64] at H
              have c64b0 : decide ((ji62) < ((rd_L1 x13_2 (ji59)).length : Int)) = true := decide_eq_true c64
              clear c64
              obtain ⟨ji65, hji65⟩ : ∃ j_ : Int, (mn (wrap64 ((rd x18_4 x22_4) + (rd (rd_L1 x13_2 (ji59)) (ji62)))) 1000000000000001) = j_ := ⟨_, rfl⟩
              replace H : (spec_l03Layers.l3 k4 l1 l2 ((rd_L1 l1 0).length : Int) a0_0 t139 x13_2 t148 x15_2 (wrap64 (Int.tdiv x15_2 ((rd_L1 l1 0).length : Int))) (Int.tmod x15_2 ((rd_L1 l1 0).length : Int)) (x18_4.set (x22_4 : Int).toNat (ji65)) t152 x20_3 (wrap64 (x22_4 + 1)) a0_0 l0_1 ((rd_T85 l0_1 x20_3).f0) ((rd_T85 l0_1 x20_3).f1) ((rd_T85 l0_1 x20_3).f2) ((rd_T85 l0_1 x20_3).f3)) = some r := by first | (rw [hji65] at H; exact H) | (simp only [hji65] at H ⊢; exact H)
              have hji65_ : (if 1000000000000001 < (wrap64 ((rd x18_4 x22_4) + (rd (rd_L1 x13_2 (ji59)) (ji62)))) then 1000000000000001 else (wrap64 ((rd x18_4 x22_4) + (rd (rd_L1 x13_2 (ji59)) (ji62))))) = ji65 := hji65
              obtain ⟨y160, hy160⟩ : ∃ y_ : List Int, y_ = (x18_4.set (x22_4 : Int).toNat (ji65)) := ⟨_, rfl⟩
              replace H : (spec_l03Layers.l3 k4 l1 l2 ((rd_L1 l1 0).length : Int) a0_0 t139 x13_2 t148 x15_2 (wrap64 (Int.tdiv x15_2 ((rd_L1 l1 0).length : Int))) (Int.tmod x15_2 ((rd_L1 l1 0).length : Int)) y160 t152 x20_3 (wrap64 (x22_4 + 1)) a0_0 l0_1 ((rd_T85 l0_1 x20_3).f0) ((rd_T85 l0_1 x20_3).f1) ((rd_T85 l0_1 x20_3).f2) ((rd_T85 l0_1 x20_3).f3)) = some r := by first | (rw [hy160]; with_reducible exact H) | (have H2_ := (Option.bind_some _ _).symm.trans H; rw [hy160]; with_reducible exact H2_) | (have H2_ := (Option.bind_some _ _).symm.trans H; with_reducible exact H2_) | with_reducible exact H | (rw [hy160]; exact H) | exact H
              have Ny160 := Aside0.mk hy160
              clear hy160
              have H' := Aside0.mk H
              clear H
              try go_wp2
              have n0_ := Aside0.mk (Kd.S_drew HO_13.out)
              have n1_ := Aside0.mk (Kd.R_drew HO_18.out)
              have n2_ := Aside0.mk (blk_drew BK137.out)
              have n3_ := Aside0.mk (blk_drew BK156.out)
              have n4_ := Aside0.mk (below_drew1 HB.out)
              clear HO_13
              clear HO_18
              clear BK137
              clear BK156
              clear HB
              have HO_13 := n0_
              have HO_18 := n1_
              have BK137 := n2_
              have BK156 := n3_
              have HB := n4_
              clear n0_ n1_ n2_ n3_ n4_
              refine start_ (n := 10) (S := fun w' => True) (ds := []) spec_l03Layers.z3 (by kernel_rfl) rfl rfl trivial (fun hHeld => ?_); refine with_tabW spec_l03Layers.tab25 spec_l03Layers.bits25 (fun HT_ HW_ => ?_)
              generalize wr.drew = w67 at HO_13 HO_18 BK137 BK156 HB hHeld ⊢
              refine pure_ (i := 0) (N := some 107) (v := ?_) (a' := ?_) spec_l03Layers.z6 rfl rfl (any_of HT_.out (by kernel_rfl)) (fun _ _ _ h => h) (Or.inl ⟨by rfl, ?_⟩) ?_ ?_
              rotate_left
              ·intro w'
               go_simp
               with_reducible rfl
              rotate_left
              ·simp only [Act.put, q1_, q2_, q3_, i64_w, i32_w]
               rfl
              refine pure_ (i := 1) (N := some 108) (v := ?_) (a' := ?_) spec_l03Layers.z9 rfl rfl (any_of HT_.out (by kernel_rfl)) (fun _ _ _ h => h) (Or.inl ⟨by rfl, ?_⟩) ?_ ?_
              rotate_left
              ·intro w'
               go_simp
               with_reducible rfl
              rotate_left
              ·simp only [Act.put, q1_, q2_, q3_, i64_w, i32_w]
               rfl
              refine pure_ (i := 2) (N := some 109) (v := ?_) (a' := ?_) spec_l03Layers.z11 rfl rfl (any_of HT_.out (by kernel_rfl)) (fun _ _ _ h => h) (Or.inl ⟨by rfl, ?_⟩) ?_ ?_
              rotate_left
              ·intro w'
               go_simp
               with_reducible rfl
              rotate_left
              ·simp only [Act.put, q1_, q2_, q3_, i64_w, i32_w]
               rfl
              refine pure_ (i := 3) (N := some 110) (v := ?_) (a' := ?_) spec_l03Layers.z14 rfl rfl (any_of HT_.out (by kernel_rfl)) (fun _ _ _ h => h) (Or.inl ⟨by rfl, ?_⟩) ?_ ?_
              rotate_left
              ·intro w'
               go_simp
               with_reducible rfl
              rotate_left
              ·simp only [Act.put, q1_, q2_, q3_, i64_w, i32_w]
               rfl
              refine pure_ (i := 4) (N := some 111) (v := ?_) (a' := ?_) spec_l03Layers.z17 rfl rfl (any_of HT_.out (by kernel_rfl)) (fun _ _ _ h => h) (Or.inl ⟨by rfl, ?_⟩) ?_ ?_
              rotate_left
              ·intro w'
               go_simp
               with_reducible rfl
              rotate_left
              ·simp only [Act.put, q1_, q2_, q3_, i64_w, i32_w]
               rfl
              refine pure_ (i := 5) (N := some 112) (v := ?_) (a' := ?_) spec_l03Layers.z20 rfl rfl (any_of HT_.out (by kernel_rfl)) (fun _ _ _ h => h) (Or.inl ⟨by rfl, ?_⟩) ?_ ?_
              rotate_left
              ·intro w'
               go_simp
               with_reducible rfl
              rotate_left
              ·simp only [Act.put, q1_, q2_, q3_, i64_w, i32_w]
               rfl
              refine pure_ (i := 6) (N := some 113) (v := ?_) (a' := ?_) spec_l03Layers.z22 rfl rfl (any_of HT_.out (by kernel_rfl)) (fun _ _ _ h => h) (Or.inl ⟨by rfl, ?_⟩) ?_ ?_
              rotate_left
              ·intro w'
               go_simp
               with_reducible rfl
              rotate_left
              ·simp only [Act.put, q1_, q2_, q3_, i64_w, i32_w]
               rfl
              refine pure_ (i := 7) (N := some 114) (v := ?_) (a' := ?_) spec_l03Layers.z25 rfl rfl (any_of HT_.out (by kernel_rfl)) (fun _ _ _ h => h) (Or.inl ⟨by rfl, ?_⟩) ?_ ?_
              rotate_left
              ·intro w'
               go_simp
               with_reducible rfl
              rotate_left
              ·simp only [Act.put, q1_, q2_, q3_, i64_w, i32_w]
               rfl
              refine pure_ (i := 8) (N := some 23) (v := ?_) (a' := ?_) spec_l03Layers.z28 rfl rfl (any_of HT_.out (by kernel_rfl)) (fun _ _ _ h => h) (Or.inl ⟨by rfl, ?_⟩) ?_ ?_
              rotate_left
              ·intro w'
               go_simp
               with_reducible rfl
              rotate_left
              ·simp only [Act.put, q1_, q2_, q3_, i64_w, i32_w]
               rfl
              refine pure_ (i := 9) (N := some 24) (v := ?_) (a' := ?_) spec_l03Layers.z29 rfl rfl (any_of HT_.out (by kernel_rfl)) (fun _ _ _ h => h) (Or.inl ⟨by rfl, ?_⟩) ?_ ?_
              rotate_left
              ·intro w'
               go_simp
               with_reducible rfl
              rotate_left
              ·simp only [Act.put, q1_, q2_, q3_, i64_w, i32_w]
               rfl
              refine done_ (done_of HT_.out (by kernel_rfl)) ?_
              have hnb68 := NB156_137.out
              have hnc68 := NB137_156.out
              have hcz69_0 : w67.cell? ⟨gb156, 0, none⟩ = some (.int .i64 ((rd_T85 l0_1 x20_3).f0)) := (blk_cell BK156.out 0).trans rfl
              have hcz69_1 : w67.cell? ⟨gb156, 1, none⟩ = some (.int .i64 ((rd_T85 l0_1 x20_3).f1)) := (blk_cell BK156.out 1).trans rfl
              have hcz69_2 : w67.cell? ⟨gb156, 2, none⟩ = some (.int .i64 ((rd_T85 l0_1 x20_3).f2)) := (blk_cell BK156.out 2).trans rfl
              have hcz69_3 : w67.cell? ⟨gb156, 3, none⟩ = some (.int .i64 ((rd_T85 l0_1 x20_3).f3)) := (blk_cell BK156.out 3).trans rfl
              have hfz69_0 := blk_frozen BK156.out 0
              have hfz69_1 := blk_frozen BK156.out 1
              have hfz69_2 := blk_frozen BK156.out 2
              have hfz69_3 := blk_frozen BK156.out 3
              try go_wp2
              have n0_ := Aside0.mk (Kd.S_drew HO_13.out)
              have n1_ := Aside0.mk (Kd.R_drew HO_18.out)
              have n2_ := Aside0.mk (blk_drew BK137.out)
              have n3_ := Aside0.mk (blk_drew BK156.out)
              have n4_ := Aside0.mk (below_drew1 HB.out)
              clear HO_13
              clear HO_18
              clear BK137
              clear BK156
              clear HB
              have HO_13 := n0_
              have HO_18 := n1_
              have BK137 := n2_
              have BK156 := n3_
              have HB := n4_
              clear n0_ n1_ n2_ n3_ n4_
              obtain ⟨Ao71, co71, eo71⟩ := Kd.R_slice HO_18.out
              (first | subst eo71 | (injection eo71 with f1_ f2_ f3_; have f4_ := f1_.symm; have f5_ := f3_.symm; clear f1_ f2_ f3_; subst f4_; subst f5_))
              have p157 : 0 ≤ (x22_4 : Int) := of_decide_eq_true (by first | (with_reducible assumption) | assumption)
              have q157 : x22_4 < (x18_4.length : Int) := of_decide_eq_true (by first | (with_reducible assumption) | assumption)
              obtain ⟨ad157, e157, hx157_0⟩ := Kd.at_int (Kd.R_reads' HO_18.out).2.2 x22_4 p157 q157
              cases e157
              replace p157 := eq_true p157
              replace q157 := eq_true q157
              have p158 : 0 ≤ ((ji59) : Int) := of_decide_eq_true (by first | (with_reducible assumption) | assumption)
              have q158 : (ji59) < (x13_2.length : Int) := of_decide_eq_true (by first | (with_reducible assumption) | assumption)
              obtain ⟨ad158, A158_0, c158_0, e158, hx158_0, hl158_0, hi158_0⟩ := at_L1 (Kd.S_reads' HO_13.out).2.2 (ji59) p158 q158
              obtain rfl : (⟨go25, 0, none⟩ : Addr) = ad158 := (by injection e158)
              obtain ⟨ce158, hce158, hMe158, hcc158⟩ := Kd.S_get HO_13.out [] (ji59) p158 (by first | exact q158 | exact of_decide_eq_true (by first | (with_reducible assumption) | assumption) | (have e_ := (Kd.S_reads' HO_13.out).1; omega))
              obtain ⟨ve158_0, rfl, ge158_0⟩ := hMe158
              have hv158_0 := hcc158 0 _ rfl
              rw [Nat.add_zero, show ((Kd.slice 2 (Kd.int .i64))).sz = 1 from rfl, Nat.mul_one] at hv158_0
              replace hv158_0 := Option.some.inj (hv158_0.symm.trans hx158_0)
              rw [hv158_0] at ge158_0
              have HL158_0 := Aside0.mk (show Kd.R (Kd.int .i64) 2 _ _ _ _ (rd_L1 x13_2 (ji59)) from ge158_0)
              clear hv158_0 ge158_0
              clear hcc158 hce158
              (first | simp only [add_plain] at hx158_0 | simp only [add_at] at hx158_0 | simp only [Addr.add, Nat.zero_add] at hx158_0 | skip)
              have HR158_0 := Aside0.mk hi158_0
              have HC158_0 := Aside0.mk hl158_0
              clear hi158_0 hl158_0
              replace p158 := eq_true p158
              replace q158 := eq_true q158
              have p159 : 0 ≤ ((ji62) : Int) := of_decide_eq_true (by first | (with_reducible assumption) | assumption)
              have q159 : (ji62) < ((rd_L1 x13_2 (ji59)).length : Int) := of_decide_eq_true (by first | (with_reducible assumption) | assumption)
              obtain ⟨ad159, e159, hx159_0⟩ := Kd.at_int (by repeat (first | (with_reducible exact HR158_0.out) | (with_reducible refine Kd.C_alloc ?_ _) | (with_reducible refine Kd.C_drewN ?_ _) | (with_reducible refine Kd.C_drew ?_) | exact HR158_0.out)) (ji62) p159 q159
              cases e159
              replace p159 := eq_true p159
              replace q159 := eq_true q159
              have p66 : 0 ≤ (x22_4 : Int) := of_decide_eq_true (by first | (with_reducible assumption) | assumption)
              have q66 : (x22_4 : Int) < ((x18_4.length : Int) : Int) := of_decide_eq_true (by first | (with_reducible assumption) | assumption)
              obtain ⟨go66, co66, eo66, gb66, gl66, cl66, HG66⟩ := Kd.R_form HO_18.out (by omega)
              (first | cases eo66 | (injection eo66 with ea_ en_ ec_; (first | subst ea_ | (injection ea_ with ea_; subst ea_)); subst ec_; clear en_))
              have GB66 := Aside0.mk gb66
              have GG66 := Aside0.mk HG66
              clear gb66 gl66 HG66
              (first | simp only [add_plain] at hx157_0 | skip)
              obtain ⟨hx66_0, hf66_0⟩ := Kd.R_celln 0 HO_18.out (x22_4 : Int) p66 q66
              replace p66 := eq_true p66
              replace q66 := eq_true q66
              have HP72 := Kd.R_putn HO_18.out (x22_4 : Int) ji65
              rw [← Ny160.out] at HP72
              have HQ72 := Aside0.mk HP72
              clear HP72
              refine start_ (n := 18) (S := fun w' => w'.cell? ⟨go66, (x22_4).toNat, none⟩ = some (.int .i64 (rd x18_4 x22_4)) ∧ w'.cell? ⟨go25, ((ji59)).toNat, none⟩ = some (.slice (some ad159) (rd_L1 x13_2 (ji59)).length c158_0) ∧ w'.cell? (ad159.add ((ji62)).toNat) = some (.int .i64 (rd (rd_L1 x13_2 (ji59)) (ji62)))) (ds := [17]) spec_l03Layers.z0 (by kernel_rfl) rfl rfl ⟨hx157_0, hx158_0, hx159_0⟩ (fun hHeld => ?_); refine with_tabW spec_l03Layers.tab28 spec_l03Layers.bits28 (fun HT_ HW_ => ?_)
              generalize w67.drew = w70 at HO_13 HO_18 BK137 BK156 HB GG66 HL158_0 HQ72 HR158_0 hf66_0 hx157_0 hx158_0 hx159_0 hx66_0 hHeld ⊢
              refine pure_ (i := 0) (N := some 148) (v := ?_) (a' := ?_) spec_l03Layers.z1 rfl rfl (any_of HT_.out (by kernel_rfl)) (fun _ _ _ h => h) (Or.inl ⟨by rfl, ?_⟩) ?_ ?_
              rotate_left
              ·intro w'
               go_simp
               with_reducible rfl
              rotate_left
              ·simp only [Act.put, q1_, q2_, q3_, i64_w, i32_w]
               rfl
              refine pure_ (i := 1) (N := some 149) (v := ?_) (a' := ?_) spec_l03Layers.z2 rfl rfl (any_of HT_.out (by kernel_rfl)) (fun _ _ _ h => h) (Or.inl ⟨by rfl, ?_⟩) ?_ ?_
              rotate_left
              ·intro w'
               go_simp
               with_reducible rfl
              rotate_left
              ·simp only [Act.put, q1_, q2_, q3_, i64_w, i32_w]
               rfl
              refine pure_ (i := 2) (N := some 150) (v := ?_) (a' := ?_) spec_l03Layers.z4 rfl rfl (any_of HT_.out (by kernel_rfl)) (fun _ _ _ h => h) (Or.inl ⟨by rfl, ?_⟩) ?_ ?_
              rotate_left
              ·intro w'
               go_simp
               with_reducible rfl
              rotate_left
              ·simp only [Act.put, q1_, q2_, q3_, i64_w, i32_w]
               rfl
              refine pure_ (i := 3) (N := some 151) (v := ?_) (a' := ?_) spec_l03Layers.z5 rfl rfl (any_of HT_.out (by kernel_rfl)) (fun _ _ _ h => h) (Or.inl ⟨by rfl, ?_⟩) ?_ ?_
              rotate_left
              ·intro w'
               go_simp
               with_reducible rfl
              rotate_left
              ·simp only [Act.put, q1_, q2_, q3_, i64_w, i32_w]
               rfl
              refine pure_ (i := 4) (N := some 152) (v := ?_) (a' := ?_) spec_l03Layers.z7 rfl rfl (any_of HT_.out (by kernel_rfl)) (fun _ _ _ h => h) (Or.inl ⟨by rfl, ?_⟩) ?_ ?_
              rotate_left
              ·intro w'
               go_simp
               with_reducible rfl
              rotate_left
              ·simp only [Act.put, q1_, q2_, q3_, i64_w, i32_w]
               rfl
              refine pure_ (i := 6) (N := some 154) (v := ?_) (a' := ?_) spec_l03Layers.z8 rfl rfl (any_of HT_.out (by kernel_rfl)) (fun _ _ _ h => h) (Or.inl ⟨by rfl, ?_⟩) ?_ ?_
              rotate_left
              ·intro w'
               go_simp
               with_reducible rfl
              rotate_left
              ·simp only [Act.put, q1_, q2_, q3_, i64_w, i32_w]
               rfl
              refine pure_ (i := 7) (N := some 155) (v := ?_) (a' := ?_) spec_l03Layers.z10 rfl rfl (any_of HT_.out (by kernel_rfl)) (fun _ _ _ h => h) (Or.inl ⟨by rfl, ?_⟩) ?_ ?_
              rotate_left
              ·intro w'
               go_simp
               with_reducible rfl
              rotate_left
              ·simp only [Act.put, q1_, q2_, q3_, i64_w, i32_w]
               rfl
              refine pure_ (i := 8) (N := some 156) (v := ?_) (a' := ?_) spec_l03Layers.z12 rfl rfl (any_of HT_.out (by kernel_rfl)) (fun _ _ _ h => h) (Or.inl ⟨by rfl, ?_⟩) ?_ ?_
              rotate_left
              ·intro w'
               go_simp
               with_reducible rfl
              rotate_left
              ·simp only [Act.put, q1_, q2_, q3_, i64_w, i32_w]
               rfl
              refine pure_ (i := 9) (N := some 157) (v := ?_) (a' := ?_) spec_l03Layers.z13 rfl rfl (any_of HT_.out (by kernel_rfl)) (fun _ _ _ h => h) (Or.inl ⟨by rfl, ?_⟩) ?_ ?_
              rotate_left
              ·intro w'
               go_simp
               with_reducible rfl
              rotate_left
              ·simp only [Act.put, q1_, q2_, q3_, i64_w, i32_w]
               rfl
              refine pure_ (i := 11) (N := some 159) (v := ?_) (a' := ?_) spec_l03Layers.z15 rfl rfl (any_of HT_.out (by kernel_rfl)) (fun _ _ _ h => h) (Or.inl ⟨by rfl, ?_⟩) ?_ ?_
              rotate_left
              ·intro w'
               go_simp
               with_reducible rfl
              rotate_left
              ·simp only [Act.put, q1_, q2_, q3_, i64_w, i32_w]
               rfl
              refine take_ (i := 5) (N := some 153) (v := ?_) (a' := ?_) spec_l03Layers.z16 rfl rfl (take_ofW HT_.out HW_.out (by kernel_rfl)) (fun _ _ _ h => h) (Or.inl ⟨by rfl, ?_⟩) hHeld ?_ ?_
              rotate_left
              ·rintro w' ⟨s0, s1, s2⟩
               go_simp
               with_reducible rfl
              rotate_left
              ·simp only [Act.put, q1_, q2_, q3_, i64_w, i32_w]
               rfl
              refine take_ (i := 10) (N := some 158) (v := ?_) (a' := ?_) spec_l03Layers.z18 rfl rfl (take_ofW HT_.out HW_.out (by kernel_rfl)) (fun _ _ _ h => h) (Or.inl ⟨by rfl, ?_⟩) hHeld ?_ ?_
              rotate_left
              ·rintro w' ⟨s0, s1, s2⟩
               go_simp
               with_reducible rfl
              rotate_left
              ·simp only [Act.put, q1_, q2_, q3_, i64_w, i32_w]
               rfl
              refine pure_ (i := 12) (N := some 160) (v := ?_) (a' := ?_) spec_l03Layers.z19 rfl rfl (any_of HT_.out (by kernel_rfl)) (fun _ _ _ h => h) (Or.inl ⟨by rfl, ?_⟩) ?_ ?_
              rotate_left
              ·intro w'
               go_simp
               with_reducible rfl
              rotate_left
              ·simp only [Act.put, q1_, q2_, q3_, i64_w, i32_w]
               rfl
              refine take_ (i := 13) (N := some 161) (v := ?_) (a' := ?_) spec_l03Layers.z21 rfl rfl (take_ofW HT_.out HW_.out (by kernel_rfl)) (fun _ _ _ h => h) (Or.inl ⟨by rfl, ?_⟩) hHeld ?_ ?_
              rotate_left
              ·rintro w' ⟨s0, s1, s2⟩
               go_simp
               with_reducible rfl
              rotate_left
              ·simp only [Act.put, q1_, q2_, q3_, i64_w, i32_w]
               rfl
              refine pure_ (i := 14) (N := some 162) (v := ?_) (a' := ?_) spec_l03Layers.z23 rfl rfl (any_of HT_.out (by kernel_rfl)) (fun _ _ _ h => h) (Or.inl ⟨by rfl, ?_⟩) ?_ ?_
              rotate_left
              ·intro w'
               go_simp
               with_reducible rfl
              rotate_left
              ·simp only [Act.put, q1_, q2_, q3_, i64_w, i32_w]
               rfl
              refine pure_ (i := 15) (N := some 163) (v := ?_) (a' := ?_) spec_l03Layers.z24 rfl rfl (any_of HT_.out (by kernel_rfl)) (fun _ _ _ h => h) (Or.inl ⟨by rfl, ?_⟩) ?_ ?_
              rotate_left
              ·intro w'
               go_simp
               with_reducible rfl
              rotate_left
              ·simp only [Act.put, q1_, q2_, q3_, i64_w, i32_w]
               rfl
              refine pure_ (i := 16) (N := some 164) (v := ?_) (a' := ?_) spec_l03Layers.z26 rfl rfl (any_of HT_.out (by kernel_rfl)) (fun _ _ _ h => h) (Or.inl ⟨by rfl, ?_⟩) ?_ ?_
              rotate_left
              ·intro w'
               go_simp
               with_reducible rfl
              rotate_left
              ·simp only [Act.put, q1_, q2_, q3_, i64_w, i32_w]
               rfl
              refine last_ (i := 17) (N := none) spec_l03Layers.z27 rfl rfl (one_of HT_.out (by kernel_rfl)) (by decide) (fun K hK => ?_)
              refine skip_ (w1 := ?_) (by rfl) rfl ?_ ?_
              rotate_left
              ·go_simp
               rfl
              refine hK.out _ _ ?_
              clear hK K
              refine done_ (done_of HT_.out (by kernel_rfl)) ?_
              try go_wp2
              go_roundg k4
              case measure => have := HK1.out; have := HK2.out; have := HK3.out; have := HK4.out; omega
              case rel => exact ⟨(y160), (wrap64 (x22_4 + 1)), (by first | rfl | (simp; done) | (simp [*]; done) | (simp; decide +kernel)), H', ⟨by have := HK1.out; have := HK2.out; have := HK3.out; have := HK4.out; omega⟩, ⟨by (try simp only [hl11_1]); (try simp only [hl13_2]); (with_reducible repeat (first | apply Kd.S_alloc | apply Kd.S_drewN | apply Kd.S_drew)); exact Kd.S_mono (Kd.S_far (p := ⟨go66, (x22_4 : Int).toNat, none⟩) (Kd.S_mono HO_13.out (fun k_ hk => (⟨hk, fun e_ => hk (by rw [e_]; rfl)⟩ : _ ∧ k_ ≠ go66))) (fun _ hk => hk.2) (.int .i64 ji65)) (fun _ hk => hk.1)⟩, ⟨by (try simp only [hl11_1]); (try simp only [hl13_2]); (with_reducible repeat (first | apply Kd.R_alloc | apply Kd.R_drewN | apply Kd.R_drew)); exact HQ72.out⟩, ⟨by (try simp only [hl11_1]); (try simp only [hl13_2]); (with_reducible repeat (first | apply bN_ | apply bD_ | apply bA_)); refine blk_far ?_ (by have h_ := Kd.R_ne HO_18.out BK137.out (by decide); intro e_; exact h_ (by rw [e_]; rfl)) _; (with_reducible repeat (first | apply bN_ | apply bD_ | apply bA_)); exact BK137.out⟩, ⟨by (try simp only [hl11_1]); (try simp only [hl13_2]); (with_reducible repeat (first | apply bN_ | apply bD_ | apply bA_)); refine blk_far ?_ (by have h_ := Kd.R_ne HO_18.out BK156.out (by decide); intro e_; exact h_ (by rw [e_]; rfl)) _; (with_reducible repeat (first | apply bN_ | apply bD_ | apply bA_)); exact BK156.out⟩, ⟨by repeat (first | (with_reducible first | exact HB.out | apply lA_ | apply lN_ | apply lD_ | refine lS_ ?_ GB66.out | refine lS_ ?_ GE137.out | refine lS_ ?_ GE156.out) | exact HB.out)⟩⟩
             rw [if_pos c52] at H
             exact absurd H (by simp)
            rw [if_pos c51] at H
            exact absurd H (by simp)
           rw [if_pos c50] at H
           exact absurd H (by simp)
      rw [if_pos c32] at H
      exact absurd H (by simp)
   rw [if_pos c13] at H
   have c13b0 : decide (x42_1 < (y140.length : Int)) = true := decide_eq_true c13
   clear c13
   by_cases c14 : 0 ≤ x42_1
   rotate_left
   ·rw [if_neg c14] at H
    exact absurd H (by simp)
   rw [if_pos c14] at H
   have c14b0 : decide (0 ≤ x42_1) = true := decide_eq_true c14
   clear c14
   by_cases c15 : x42_1 < (x11_1.length : Int)
   rotate_left
   ·rw [if_neg c15] at H
    exact absurd H (by simp)
   rw [if_pos c15] at H
   have c15b0 : decide (x42_1 < (x11_1.length : Int)) = true := decide_eq_true c15
   clear c15
   obtain ⟨y143, hy143⟩ : ∃ y_ : List Int, y_ = (x11_1.set (x42_1 : Int).toNat 1) := ⟨_, rfl⟩
   replace H : (spec_l03Layers.l0 k1 l1 l2 (l1.length : Int) ((rd_L1 l1 0).length : Int) a0_0 t139 y143 (y140.length : Int) (wrap64 (x42_1 + 1)) a0_0 l0_1) = some r := by first | (rw [hy143]; with_reducible exact H) | (have H2_ := (Option.bind_some _ _).symm.trans H; rw [hy143]; with_reducible exact H2_) | (have H2_ := (Option.bind_some _ _).symm.trans H; with_reducible exact H2_) | with_reducible exact H | (rw [hy143]; exact H) | exact H
   have Ny143 := Aside0.mk hy143
   clear hy143
   have H' := Aside0.mk H
   clear H
   have p16 : 0 ≤ (x42_1 : Int) := of_decide_eq_true (by first | (with_reducible assumption) | assumption)
   have q16 : (x42_1 : Int) < ((x11_1.length : Int) : Int) := of_decide_eq_true (by first | (with_reducible assumption) | assumption)
   obtain ⟨go16, co16, eo16, gb16, gl16, cl16, HG16⟩ := Kd.R_form HO_11.out (by omega)
   (first | cases eo16 | (injection eo16 with ea_ en_ ec_; (first | subst ea_ | (injection ea_ with ea_; subst ea_)); subst ec_; clear en_))
   have GB16 := Aside0.mk gb16
   have GG16 := Aside0.mk HG16
   clear gb16 gl16 HG16
   obtain ⟨hx16_0, hf16_0⟩ := Kd.R_celln 0 HO_11.out (x42_1 : Int) p16 q16
   replace p16 := eq_true p16
   replace q16 := eq_true q16
   have HP17 := Kd.R_putg HO_11.out (x42_1 : Int) 1
   go_wp2_with (first | ((with_reducible refine gate_store (t := 2) (p := 47) rfl ?_); refine store_event (t := 2) (p := 47) (v := ?vo_w18) (w1 := (wr.setCell ⟨go16, (x42_1 : Int).toNat, none⟩ (.int .i64 1))) ?hg ?ho ?hn ?hr ?_; (case ho => rfl); (case hg => rfl); (case hn => rfl); (case hr => first | (go_simp; done) | (go_simp; rfl)); intro w18 hw; have hg : wr.grownBy w18 (some go16) := (by rw [hw]; exact HP17.2); have hp_ : Kd.R (Kd.int .i64) 2 w18 w.heap.size (fun _ => True) (.slice (some ⟨go16, 0, none⟩) x11_1.length co12) y143 := (by rw [hw, Ny143.out]; exact HP17.1); clear HP17; have n0_ := Aside0.mk (hp_); have n1_ := Aside0.mk (blk_grown (g := gb137) (o := .cells #[.int .i64 a0_0, .slice A0_1 l0_1.length c0_1] 36 (0, 0)) (by (with_reducible repeat (first | apply bN_ | apply bD_ | apply bA_)); exact BK137.out) hg (Kd.R_ne HO_11.out BK137.out (by decide))); have n2_ := Aside0.mk ((by rw [hw]; exact below_set (HB.out) GB16.out : Below w.heap.size w w18)); clear HO_11; clear BK137; clear HB; have HO_11 := n0_; have BK137 := n1_; have HB := n2_; clear n0_ n1_ n2_; clear hg hw hp_))
   (try simp only [← hl11_1])
   go_roundg k1
   case measure => have := HK1.out; omega
   case rel => exact ⟨(y143), (wrap64 (x42_1 + 1)), (by first | rfl | (simp; done) | (simp [*]; done) | (simp; decide +kernel)), H', ⟨by have := HK1.out; omega⟩, ⟨by (try simp only [hl11_1]); (with_reducible repeat (first | apply Kd.R_alloc | apply Kd.R_drewN | apply Kd.R_drew)); exact HO_11.out⟩, ⟨by (try simp only [hl11_1]); (with_reducible repeat (first | apply bN_ | apply bD_ | apply bA_)); exact BK137.out⟩, ⟨by repeat (first | (with_reducible first | exact HB.out | apply lA_ | apply lN_ | apply lD_ | refine lS_ ?_ GE137.out) | exact HB.out)⟩⟩
end Go.Proofs.Ytcaikaflpmaocaa.Q

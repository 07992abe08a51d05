/-
  Parts of the proof, in their order: ExtS, P4, PTold, PAreSets, QSpecL01Product, QSpecProductOfSets.
-/
import Derived.Test.YtnjmgmdpkogocaaPk18
import Derived.Test.YtnjmgmdpkogocaaPk16
import Derived.Test.YtnjmgmdpkogocaaPk8
import Derived.Test.YtnjmgmdpkogocaaPk6
import Derived.Test.YtnjmgmdpkogocaaPk11
import Derived.Test.YtnjmgmdpkogocaaWMore
import Derived.Test.YtnjmgmdpkogocaaPk17
namespace Go.Proofs.Ytnjmgmdpkogocaa
open Go Go.RowKit Go.Proofs Go.Proofs.YtnjmgmdpkogocaaW.PrintWords Go.Proofs.Ytnjmgmdpkogocaa.Q
set_option linter.unusedVariables false
set_option linter.unusedSimpArgs false
theorem R_of_OT {w : World} {base : Nat} {e : TypeId} {v : Value} {ts : List T4} (h : OT w base e v ts) : Kd.R k45 e w base (fun _ => True) v (ts.map toS) := by
  refine ⟨fun _ _ => trivial, tcells ts, ?_, ?_, fun j p hp => ?_⟩
  · rw [List.length_map]; exact h
  · rw [tcells_length, List.length_map]; rfl
  · have hj := (List.getElem?_eq_some_iff.1 hp).1
    rw [List.length_map] at hj
    have hp' : p = toS (tk ts j) := by
      rw [List.getElem?_map, List.getElem?_eq_getElem hj] at hp
      simp only [Option.map_some, Option.some.injEq] at hp
      rw [← hp]; simp [tk, List.getD, List.getElem?_eq_getElem hj]
    subst hp'
    have e4 : k45.sz = 4 := rfl
    have hc : ((tcells ts).drop (j * 4)).take 4 = [.int .i64 (toS (tk ts j)).f0, .int .i64 (toS (tk ts j)).f1, .int .i64 (toS (tk ts j)).f2, .int .i64 (toS (tk ts j)).f3] := by
      apply List.ext_getElem?
      intro i
      rw [List.getElem?_take, List.getElem?_drop]
      match i with
      | 0 => rw [if_pos (by omega), tcells_get hj (by omega)]; rfl
      | 1 => rw [if_pos (by omega), tcells_get hj (by omega)]; rfl
      | 2 => rw [if_pos (by omega), tcells_get hj (by omega)]; rfl
      | 3 => rw [if_pos (by omega), tcells_get hj (by omega)]; rfl
      | i + 4 => rw [if_neg (by omega)]; simp
    rw [e4, hc]
    exact k45_mk w (toS (tk ts j))
theorem R_of_OW {w : World} {base hi : Nat} {e : TypeId} {v : Value} {ts : List T4} {n : Nat} (h : OW w base hi e 4 v n (tcells ts)) (hn : n = ts.length) : Kd.R k45 e w base (fun _ => True) v (ts.map toS) := by
  subst hn
  exact R_of_OT h.own
theorem ow_of_RT {w : World} {base : Nat} {e : TypeId} {v : Value} {ts : List T4} {ok : Nat → Prop} (h : Kd.R k45 e w base ok v (ts.map toS)) : OW w base w.heap.size e 4 v ts.length (tcells ts) := by
  obtain ⟨-, inner, ho, hr⟩ := h
  have e4 : k45.sz = 4 := rfl
  rw [List.length_map, e4] at ho
  have hl : inner.length = ts.length * 4 := by have := hr.1; rw [List.length_map, e4] at this; exact this
  have : inner = tcells ts := by
    apply List.ext_getElem?
    intro j
    by_cases hj : j < ts.length * 4
    · obtain ⟨q, r, rfl, hr4⟩ : ∃ q r, j = q * 4 + r ∧ r < 4 := ⟨j / 4, j % 4, by omega, by omega⟩
      have hq : q < ts.length := by omega
      have h2 := hr.2 q (toS (tk ts q)) (by rw [List.getElem?_map, List.getElem?_eq_getElem hq]; simp [tk, List.getD, List.getElem?_eq_getElem hq])
      have h3 := k45_open (k45.K_of_M h2)
      rw [e4] at h3
      have h4 : inner[q * 4 + r]? = ((inner.drop (q * 4)).take 4)[r]? := by rw [List.getElem?_take, if_pos hr4, List.getElem?_drop]
      rw [h4, h3, tcells_get hq hr4]
      have : r = 0 ∨ r = 1 ∨ r = 2 ∨ r = 3 := by omega
      rcases this with rfl | rfl | rfl | rfl <;> rfl
    · rw [List.getElem?_eq_none (by omega), List.getElem?_eq_none (by rw [tcells_length]; omega)]
  subst this
  exact OW.of ho
end Go.Proofs.Ytnjmgmdpkogocaa
namespace Go.Proofs.Ytnjmgmdpkogocaa.Q
open Go Go.RowKit Go.Proofs Go.Proofs.YtnjmgmdpkogocaaW.PrintWords Go.Proofs.Ytnjmgmdpkogocaa
set_option linter.unusedVariables false
set_option linter.unusedSimpArgs false
def lim6 (n : Nat) : Bool := decide (n ≤ 1000000)
def spec_l01Made.f (a0 : Int) (l1 : List STile) : Option (Int × List STile) := if lim6 l1.length = true then some (a0, (sortT (l1.map toT)).map toS) else none
theorem spec_l01Made.calls (a0 : Int) (A1 : Option Addr) (c1 : Nat) (l1 : List STile) (r1 : Int) (r2 : List STile) (w : World) (hr1 : Kd.C k45 w A1 l1.length l1) (hc1 : l1.length ≤ c1) (h : spec_l01Made.f a0 l1 = some (r1, r2)) :
    Calls Try.prog 52 #[.int .i64 a0, .slice A1 l1.length c1] w fun e w' => ∃ v1_ : Value, e = .returned (.agg #[.int .i64 r1, v1_]) ∧ Kd.R k45 45 w' w.heap.size (fun _ => True) v1_ r2 ∧ Below w.heap.size w w' := by
  unfold spec_l01Made.f at h
  split at h
  · rename_i hl
    obtain ⟨rfl, rfl⟩ := Prod.mk.inj (Option.some.inj h)
    refine (l01Made_any a0 A1 (l1.map toT) _ c1 w (by simp) (rt_of_C hr1) (by simpa [lim6] using hl)).mono ?_
    rintro e w' ⟨g, ln, c', rfl, hln, hO, hB⟩
    have e1 : sortK (l1.map toT) l1.length = sortT (l1.map toT) := by unfold sortT; rw [List.length_map]
    rw [e1] at hln hO
    exact ⟨_, rfl, R_of_OW hO hln, hB⟩
  · cases h
def spec_l01Flipped.f (a0_0 : Int) (l0_1 : List STile) : Option (Int × List STile) := if lim6 l0_1.length = true then some (a0_0, (sortT ((l0_1.map toT).map (sidesT 0 3 2 1))).map toS) else none
theorem spec_l01Flipped.calls (a0_0 : Int) (A0_1 : Option Addr) (c0_1 : Nat) (l0_1 : List STile) (r1 : Int) (r2 : List STile) (w : World) (hr0_1 : Kd.C k45 w A0_1 l0_1.length l0_1) (hc0_1 : l0_1.length ≤ c0_1) (h : spec_l01Flipped.f a0_0 l0_1 = some (r1, r2)) :
    Calls Try.prog 64 #[.agg #[.int .i64 a0_0, .slice A0_1 l0_1.length c0_1]] w fun e w' => ∃ v1_ : Value, e = .returned (.agg #[.int .i64 r1, v1_]) ∧ Kd.R k45 45 w' w.heap.size (fun _ => True) v1_ r2 ∧ Below w.heap.size w w' := by
  unfold spec_l01Flipped.f at h
  split at h
  · rename_i hl
    obtain ⟨rfl, rfl⟩ := Prod.mk.inj (Option.some.inj h)
    refine (l01Flipped_any a0_0 A0_1 (l0_1.map toT) _ c0_1 w (by simp) (rt_of_C hr0_1) (by simpa [lim6] using hl)).mono ?_
    rintro e w' ⟨g, ln, c', rfl, hln, hO, hB⟩
    exact ⟨_, rfl, R_of_OW hO hln, hB⟩
  · cases h
def spec_l01Mirrored.f (a0_0 : Int) (l0_1 : List STile) : Option (Int × List STile) := if lim6 l0_1.length = true then some (a0_0, (sortT ((l0_1.map toT).map (sidesT 2 1 0 3))).map toS) else none
theorem spec_l01Mirrored.calls (a0_0 : Int) (A0_1 : Option Addr) (c0_1 : Nat) (l0_1 : List STile) (r1 : Int) (r2 : List STile) (w : World) (hr0_1 : Kd.C k45 w A0_1 l0_1.length l0_1) (hc0_1 : l0_1.length ≤ c0_1) (h : spec_l01Mirrored.f a0_0 l0_1 = some (r1, r2)) :
    Calls Try.prog 67 #[.agg #[.int .i64 a0_0, .slice A0_1 l0_1.length c0_1]] w fun e w' => ∃ v1_ : Value, e = .returned (.agg #[.int .i64 r1, v1_]) ∧ Kd.R k45 45 w' w.heap.size (fun _ => True) v1_ r2 ∧ Below w.heap.size w w' := by
  unfold spec_l01Mirrored.f at h
  split at h
  · rename_i hl
    obtain ⟨rfl, rfl⟩ := Prod.mk.inj (Option.some.inj h)
    refine (l01Mirrored_any a0_0 A0_1 (l0_1.map toT) _ c0_1 w (by simp) (rt_of_C hr0_1) (by simpa [lim6] using hl)).mono ?_
    rintro e w' ⟨g, ln, c', rfl, hln, hO, hB⟩
    exact ⟨_, rfl, R_of_OW hO hln, hB⟩
  · cases h
def spec_l01Turned.f (a0_0 : Int) (l0_1 : List STile) : Option (Int × List STile) := if lim6 l0_1.length = true then some (a0_0, (sortT ((l0_1.map toT).map (sidesT 3 0 1 2))).map toS) else none
theorem spec_l01Turned.calls (a0_0 : Int) (A0_1 : Option Addr) (c0_1 : Nat) (l0_1 : List STile) (r1 : Int) (r2 : List STile) (w : World) (hr0_1 : Kd.C k45 w A0_1 l0_1.length l0_1) (hc0_1 : l0_1.length ≤ c0_1) (h : spec_l01Turned.f a0_0 l0_1 = some (r1, r2)) :
    Calls Try.prog 61 #[.agg #[.int .i64 a0_0, .slice A0_1 l0_1.length c0_1]] w fun e w' => ∃ v1_ : Value, e = .returned (.agg #[.int .i64 r1, v1_]) ∧ Kd.R k45 45 w' w.heap.size (fun _ => True) v1_ r2 ∧ Below w.heap.size w w' := by
  unfold spec_l01Turned.f at h
  split at h
  · rename_i hl
    obtain ⟨rfl, rfl⟩ := Prod.mk.inj (Option.some.inj h)
    refine (l01Turned_any a0_0 A0_1 (l0_1.map toT) _ c0_1 w (by simp) (rt_of_C hr0_1) (by simpa [lim6] using hl)).mono ?_
    rintro e w' ⟨g, ln, c', rfl, hln, hO, hB⟩
    exact ⟨_, rfl, R_of_OW hO hln, hB⟩
  · cases h
def spec_l01Transposed.f (a0_0 : Int) (l0_1 : List STile) : Option (Int × List STile) := if lim6 l0_1.length = true then some (a0_0, (sortT ((l0_1.map toT).map (sidesT 1 0 3 2))).map toS) else none
theorem spec_l01Transposed.calls (a0_0 : Int) (A0_1 : Option Addr) (c0_1 : Nat) (l0_1 : List STile) (r1 : Int) (r2 : List STile) (w : World) (hr0_1 : Kd.C k45 w A0_1 l0_1.length l0_1) (hc0_1 : l0_1.length ≤ c0_1) (h : spec_l01Transposed.f a0_0 l0_1 = some (r1, r2)) :
    Calls Try.prog 69 #[.agg #[.int .i64 a0_0, .slice A0_1 l0_1.length c0_1]] w fun e w' => ∃ v1_ : Value, e = .returned (.agg #[.int .i64 r1, v1_]) ∧ Kd.R k45 45 w' w.heap.size (fun _ => True) v1_ r2 ∧ Below w.heap.size w w' := by
  unfold spec_l01Transposed.f at h
  split at h
  · rename_i hl
    obtain ⟨rfl, rfl⟩ := Prod.mk.inj (Option.some.inj h)
    refine (l01Transposed_any a0_0 A0_1 (l0_1.map toT) _ c0_1 w (by simp) (rt_of_C hr0_1) (by simpa [lim6] using hl)).mono ?_
    rintro e w' ⟨g, ln, c', rfl, hln, hO, hB⟩
    exact ⟨_, rfl, R_of_OW hO hln, hB⟩
  · cases h
def impl_Tile_sides.f (a0_0 a0_1 a0_2 a0_3 a1 a2 a3 a4 : Int) : Option (Int × Int × Int × Int) :=
  if a1 = 0 ∧ a2 = 3 ∧ a3 = 2 ∧ a4 = 1 then some (a0_0, a0_3, a0_2, a0_1) else if a1 = 2 ∧ a2 = 1 ∧ a3 = 0 ∧ a4 = 3 then some (a0_2, a0_1, a0_0, a0_3) else
  if a1 = 3 ∧ a2 = 0 ∧ a3 = 1 ∧ a4 = 2 then some (a0_3, a0_0, a0_1, a0_2) else if a1 = 1 ∧ a2 = 0 ∧ a3 = 3 ∧ a4 = 2 then some (a0_1, a0_0, a0_3, a0_2) else none
theorem impl_Tile_sides.calls (a0_0 a0_1 a0_2 a0_3 a1 a2 a3 a4 : Int) (r1 r2 r3 r4 : Int) (w : World) (h : impl_Tile_sides.f a0_0 a0_1 a0_2 a0_3 a1 a2 a3 a4 = some (r1, r2, r3, r4)) :
    Calls Try.prog 66 #[.agg #[.int .i64 a0_0, .int .i64 a0_1, .int .i64 a0_2, .int .i64 a0_3], .int .i64 a1, .int .i64 a2, .int .i64 a3, .int .i64 a4] w fun e w' => e = .returned (.agg #[.int .i64 r1, .int .i64 r2, .int .i64 r3, .int .i64 r4]) ∧ Below w.heap.size w w' := by
  unfold impl_Tile_sides.f at h
  split at h
  · rename_i hq
    obtain ⟨rfl, rfl, rfl, rfl⟩ := hq
    simp only [Option.some.injEq, Prod.mk.injEq] at h
    obtain ⟨rfl, rfl, rfl, rfl⟩ := h
    exact sides_any a0_0 a0_1 a0_2 a0_3 _ _ _ _ 0 3 2 1 w (by decide) (by decide) (by decide) (by decide) rfl rfl rfl rfl
  · skip
    split at h
    · rename_i hq
      obtain ⟨rfl, rfl, rfl, rfl⟩ := hq
      simp only [Option.some.injEq, Prod.mk.injEq] at h
      obtain ⟨rfl, rfl, rfl, rfl⟩ := h
      exact sides_any a0_0 a0_1 a0_2 a0_3 _ _ _ _ 2 1 0 3 w (by decide) (by decide) (by decide) (by decide) rfl rfl rfl rfl
    · skip
      split at h
      · rename_i hq
        obtain ⟨rfl, rfl, rfl, rfl⟩ := hq
        simp only [Option.some.injEq, Prod.mk.injEq] at h
        obtain ⟨rfl, rfl, rfl, rfl⟩ := h
        exact sides_any a0_0 a0_1 a0_2 a0_3 _ _ _ _ 3 0 1 2 w (by decide) (by decide) (by decide) (by decide) rfl rfl rfl rfl
      · skip
        split at h
        · rename_i hq
          obtain ⟨rfl, rfl, rfl, rfl⟩ := hq
          simp only [Option.some.injEq, Prod.mk.injEq] at h
          obtain ⟨rfl, rfl, rfl, rfl⟩ := h
          exact sides_any a0_0 a0_1 a0_2 a0_3 _ _ _ _ 1 0 3 2 w (by decide) (by decide) (by decide) (by decide) rfl rfl rfl rfl
        · cases h
def impl_limited.f (a0 : Int) (l1 : List STile) : Option (Int × List STile × Int) := if lim6 l1.length = true then some ((limR a0 (l1.map toT)).1.1, (limR a0 (l1.map toT)).1.2.map toS, (limR a0 (l1.map toT)).2) else none
theorem impl_limited.calls (a0 : Int) (A1 : Option Addr) (c1 : Nat) (l1 : List STile) (r1 : Int) (r2 : List STile) (r3 : Int) (w : World) (hr1 : Kd.C k45 w A1 l1.length l1) (hc1 : l1.length ≤ c1) (h : impl_limited.f a0 l1 = some (r1, r2, r3)) :
    Calls Try.prog 57 #[.int .i64 a0, .slice A1 l1.length c1] w fun e w' => ∃ v1_ : Value, e = .returned (.tuple #[.agg #[.int .i64 r1, v1_], .int .i64 r3]) ∧ Kd.R k45 45 w' w.heap.size (fun _ => True) v1_ r2 ∧ Below w.heap.size w w' := by
  unfold impl_limited.f at h
  split at h
  · rename_i hl
    simp only [Option.some.injEq, Prod.mk.injEq] at h
    obtain ⟨rfl, rfl, rfl⟩ := h
    refine (limited_any a0 A1 (l1.map toT) _ c1 w (by simp) (rt_of_C hr1) (by simpa [lim6] using hl)).mono ?_
    rintro e w' ⟨v, xc, xs, code, hR, rfl, hO, hB⟩
    rw [hR]
    exact ⟨_, rfl, R_of_OW hO rfl, hB⟩
  · cases h
def spec_l01Has.f (a0_0 : Int) (l0_1 : List STile) (a1_0 a1_1 a1_2 a1_3 : Int) : Option Bool := if inLim l0_1.length = true then some (hasT (l0_1.map toT) ⟨a1_0, a1_1, a1_2, a1_3⟩) else none
theorem spec_l01Has.calls (a0_0 : Int) (A0_1 : Option Addr) (c0_1 : Nat) (l0_1 : List STile) (a1_0 a1_1 a1_2 a1_3 : Int) (r : Bool) (w : World) (hr0_1 : Kd.C k45 w A0_1 l0_1.length l0_1) (hc0_1 : l0_1.length ≤ c0_1) (h : spec_l01Has.f a0_0 l0_1 a1_0 a1_1 a1_2 a1_3 = some r) :
    Calls Try.prog 76 #[.agg #[.int .i64 a0_0, .slice A0_1 l0_1.length c0_1], .agg #[.int .i64 a1_0, .int .i64 a1_1, .int .i64 a1_2, .int .i64 a1_3]] w fun e w' => e = .returned (.bool r) ∧ Below w.heap.size w w' := by
  unfold spec_l01Has.f at h
  split at h
  · rename_i hl
    obtain rfl := Option.some.inj h
    exact l01Has_any a0_0 A0_1 (l0_1.map toT) _ c0_1 ⟨a1_0, a1_1, a1_2, a1_3⟩ w (by simp) (rt_of_C hr0_1) (by simpa [inLim] using hl)
  · cases h
def slices_Contains_impl_Tile_impl_Tile.f (l0 : List STile) (a1_0 a1_1 a1_2 a1_3 : Int) : Option Bool := if inLim l0.length = true then some (hasT (l0.map toT) ⟨a1_0, a1_1, a1_2, a1_3⟩) else none
theorem slices_Contains_impl_Tile_impl_Tile.calls (A0 : Option Addr) (c0 : Nat) (l0 : List STile) (a1_0 a1_1 a1_2 a1_3 : Int) (r : Bool) (w : World) (hr0 : Kd.C k45 w A0 l0.length l0) (hc0 : l0.length ≤ c0) (h : slices_Contains_impl_Tile_impl_Tile.f l0 a1_0 a1_1 a1_2 a1_3 = some r) :
    Calls Try.prog 79 #[.slice A0 l0.length c0, .agg #[.int .i64 a1_0, .int .i64 a1_1, .int .i64 a1_2, .int .i64 a1_3]] w fun e w' => e = .returned (.bool r) ∧ Below w.heap.size w w' := by
  unfold slices_Contains_impl_Tile_impl_Tile.f at h
  split at h
  · rename_i hl
    obtain rfl := Option.some.inj h
    exact ContainsT_any A0 (l0.map toT) _ c0 ⟨a1_0, a1_1, a1_2, a1_3⟩ w (by simp) (rt_of_C hr0) (by simpa [inLim] using hl)
  · cases h
theorem CloneNil_any (c : Nat) (w : World) : Calls Try.prog 72 #[.slice none 0 c] w fun e w' => e = .returned (.slice none 0 0) ∧ Below w.heap.size w w' := by
  have hEQ := fun w => Lib.run_eql_slice_nil (P := Try.prog) w 24 45 none 0 c 0 0 Try.underlying24
  simp only [Option.isNone_none] at hEQ
  go_enter Try.func72, Try.ntmps72
  go_wp2_with fail
  go_ret
  exact ⟨rfl, Below.refl _ _⟩
def slices_Clone_impl_Tile_impl_Tile.f (l0 : List STile) : Option (List STile) := if lim6 l0.length = true then some l0 else none
theorem slices_Clone_impl_Tile_impl_Tile.calls (A0 : Option Addr) (c0 : Nat) (l0 : List STile) (r : List STile) (w : World) (hr0 : Kd.C k45 w A0 l0.length l0) (hc0 : l0.length ≤ c0) (h : slices_Clone_impl_Tile_impl_Tile.f l0 = some r) :
    Calls Try.prog 72 #[.slice A0 l0.length c0] w fun e w' => ∃ v, e = .returned v ∧ Kd.R k45 45 w' w.heap.size (fun _ => True) v r ∧ Below w.heap.size w w' := by
  unfold slices_Clone_impl_Tile_impl_Tile.f at h
  split at h
  · rename_i hl
    obtain rfl := Option.some.inj h
    cases A0 with
    | none =>
      have hn : l0.length = 0 := by
        rcases Nat.eq_zero_or_pos l0.length with h0 | h0
        · exact h0
        · obtain ⟨ad, e, -⟩ := hr0.2.2 h0
          cases e
      obtain rfl := List.eq_nil_of_length_eq_zero hn
      refine (CloneNil_any c0 w).mono ?_
      rintro e w' ⟨rfl, hB⟩
      exact ⟨_, rfl, Kd.R_nil _ _ _ _ _, hB⟩
    | some ad =>
      refine (CloneT_any ad (l0.map toT) _ c0 w (by simp) (rt_of_C hr0) (by simpa [lim6] using hl)).mono ?_
      rintro e w' ⟨g, c', rfl, hO, hB⟩
      have := R_of_OT hO
      rw [map_toST] at this
      exact ⟨_, rfl, this, hB⟩
  · cases h
end Go.Proofs.Ytnjmgmdpkogocaa.Q
namespace Go.Proofs.Ytnjmgmdpkogocaa
open Go Go.RowKit Go.Proofs Go.Proofs.YtnjmgmdpkogocaaW.PrintWords Go.Proofs.YtnjmgmdpkogocaaW.PrintMore Go.Proofs.Ytnjmgmdpkogocaa.Q
set_option linter.unusedVariables false
set_option linter.unusedSimpArgs false
theorem wrap_succ (m : Nat) (h : m < 1000000000) : wrap64 ((m : Int) + 1) = ((m + 1 : Nat) : Int) := by unfold wrap64; omega
theorem rdT_get (l : List STile) (i : Nat) (h : i < l.length) : rd_T45 l (i : Int) = l[i] := by simp [rd_T45, List.getD, List.getElem?_eq_getElem h]
theorem isS_lens {C : Int} {ts : List T4} (h : isS C ts = true) : 1 ≤ C ∧ C ≤ 6 ∧ ts.length ≤ 16 := by
  simp only [isS, Bool.and_eq_true, inB, decide_eq_true_eq] at h
  omega
def flat (r : (Int × List T4) × Int) : Int × List STile × Int := (r.1.1, r.1.2.map toS, r.2)
theorem limited_f (C : Int) (l : List STile) (h : l.length ≤ 1000000) : impl_limited.f C l = some (flat (limR C (l.map toT))) := by
  unfold impl_limited.f flat
  rw [if_pos (by simpa [lim6] using h)]
end Go.Proofs.Ytnjmgmdpkogocaa
namespace Go.Proofs.Ytnjmgmdpkogocaa
open Go Go.RowKit Go.Proofs Go.Proofs.YtnjmgmdpkogocaaW.PrintWords Go.Proofs.YtnjmgmdpkogocaaW.PrintMore Go.Proofs.Ytnjmgmdpkogocaa.Q
set_option linter.unusedVariables false
set_option linter.unusedSimpArgs false
theorem told_f (C : Int) (us : List T4) : spec_l01Told.f C (us.map toS) = some (flat (if (decide (C ≤ 6) && decide (us.length ≤ 16)) = true then ((C, us), 0) else ((0, []), 3))) := by
  unfold spec_l01Told.f flat
  rw [List.length_map]
  by_cases h1 : C ≤ 6
  · rw [if_neg (show ¬ C > 6 by omega)]
    by_cases h2 : us.length ≤ 16
    · rw [if_neg (show ¬ (us.length : Int) > 16 by omega), if_pos (by simp [h1, h2])]
    · rw [if_pos (show (us.length : Int) > 16 by omega), if_neg (by simp [h2])]; rfl
  · rw [if_pos (show C > 6 by omega), if_neg (by simp [h1])]; rfl
theorem specMade_f (C : Int) (l : List STile) (h : l.length ≤ 1000000) : spec_l01Made.f C l = some (C, (sortT (l.map toT)).map toS) := by
  unfold spec_l01Made.f
  rw [if_pos (by simpa [lim6] using h)]
end Go.Proofs.Ytnjmgmdpkogocaa
namespace Go.Proofs.Ytnjmgmdpkogocaa
open Go Go.RowKit Go.Proofs Go.Proofs.YtnjmgmdpkogocaaW.PrintWords Go.Proofs.YtnjmgmdpkogocaaW.PrintMore Go.Proofs.Ytnjmgmdpkogocaa.Q
set_option linter.unusedVariables false
set_option linter.unusedSimpArgs false
abbrev SSet := Q.S26
theorem wy0 : wrap64 (0 + 1) = 1 := by unfold wrap64; omega
theorem wy1 : wrap64 (1 + 1) = 2 := by unfold wrap64; omega
theorem areOne (C : Int) (l : List STile) (hl : l.length ≤ 35184372088832) : impl_areSets_1.f C l = some (!isS C (l.map toT)) := by
  have hin : inLim l.length = true := by simpa [inLim] using hl
  rw [impl_areSets_1.f, impl_IsSet.f, if_pos hin]; rfl
theorem areSets_ev (C : Int) (l : List STile) (D : Int) (u : List STile) (hl : l.length ≤ 35184372088832) (hu : u.length ≤ 35184372088832) :
    Ev (fun k => impl_areSets.f k [(⟨C, l⟩ : SSet), (⟨D, u⟩ : SSet)]) (isS C (l.map toT) && isS D (u.map toT)) := by
  have hidx : ∃ j : Int, Ev (fun k => impl_Set_112_at_impl_areSets_1.f k [(⟨C, l⟩ : SSet), (⟨D, u⟩ : SSet)]) j ∧ (!decide (j ≥ 0)) = (isS C (l.map toT) && isS D (u.map toT)) := by
    have r0 : ∀ k, impl_Set_112_at_impl_areSets_1.l0 (k + 1) [(⟨C, l⟩ : SSet), (⟨D, u⟩ : SSet)] 2 0 = (impl_areSets_1.f C l).bind fun t => if t = true then some 0 else impl_Set_112_at_impl_areSets_1.l0 k [(⟨C, l⟩ : SSet), (⟨D, u⟩ : SSet)] 2 1 := by
      intro k
      rw [impl_Set_112_at_impl_areSets_1.l0, if_pos (by decide), if_pos (by decide), if_pos (by simp), wy0]; rfl
    have r1 : ∀ k, impl_Set_112_at_impl_areSets_1.l0 (k + 1) [(⟨C, l⟩ : SSet), (⟨D, u⟩ : SSet)] 2 1 = (impl_areSets_1.f D u).bind fun t => if t = true then some 1 else impl_Set_112_at_impl_areSets_1.l0 k [(⟨C, l⟩ : SSet), (⟨D, u⟩ : SSet)] 2 2 := by
      intro k
      rw [impl_Set_112_at_impl_areSets_1.l0, if_pos (by decide), if_pos (by decide), if_pos (by simp), wy1]; rfl
    have r2 : ∀ k, impl_Set_112_at_impl_areSets_1.l0 (k + 1) [(⟨C, l⟩ : SSet), (⟨D, u⟩ : SSet)] 2 2 = some (-1) := by
      intro k
      rw [impl_Set_112_at_impl_areSets_1.l0, if_neg (by decide)]
    have e0 : ∀ k, impl_Set_112_at_impl_areSets_1.f k [(⟨C, l⟩ : SSet), (⟨D, u⟩ : SSet)] = impl_Set_112_at_impl_areSets_1.l0 k [(⟨C, l⟩ : SSet), (⟨D, u⟩ : SSet)] 2 0 := fun k => by rw [impl_Set_112_at_impl_areSets_1.f]; rfl
    cases h1 : isS C (l.map toT)
    · refine ⟨0, Ev.congr e0 (Ev.step (f := fun _ => some 0) (fun k => ?_) (Ev.now _)), rfl⟩
      rw [r0, areOne C l hl, h1]; rfl
    · cases h2 : isS D (u.map toT)
      · refine ⟨1, Ev.congr e0 (Ev.step (f := fun k => impl_Set_112_at_impl_areSets_1.l0 k [(⟨C, l⟩ : SSet), (⟨D, u⟩ : SSet)] 2 1) (fun k => ?_) (Ev.step (f := fun _ => some 1) (fun k => ?_) (Ev.now _))), rfl⟩
        · rw [r0, areOne C l hl, h1]; rfl
        · rw [r1, areOne D u hu, h2]; rfl
      · refine ⟨-1, Ev.congr e0 (Ev.step (f := fun k => impl_Set_112_at_impl_areSets_1.l0 k [(⟨C, l⟩ : SSet), (⟨D, u⟩ : SSet)] 2 1) (fun k => ?_) (Ev.step (f := fun k => impl_Set_112_at_impl_areSets_1.l0 k [(⟨C, l⟩ : SSet), (⟨D, u⟩ : SSet)] 2 2) (fun k => ?_) (Ev.step (f := fun _ => some (-1)) (fun k => ?_) (Ev.now _)))), rfl⟩
        · rw [r0, areOne C l hl, h1]; rfl
        · rw [r1, areOne D u hu, h2]; rfl
        · rw [r2]
  obtain ⟨j, hj, hd⟩ := hidx
  refine Ev.congr (f := fun k => (impl_Set_97_at_impl_areSets_1.f k [(⟨C, l⟩ : SSet), (⟨D, u⟩ : SSet)]).bind fun t => some (!t)) (fun k => by rw [impl_areSets.f]) ?_
  refine Ev.bind (a := decide (j ≥ 0)) ?_ (Ev.congr (fun k => by rw [hd]) (Ev.now _))
  exact Ev.congr (f := fun k => (impl_Set_112_at_impl_areSets_1.f k [(⟨C, l⟩ : SSet), (⟨D, u⟩ : SSet)]).bind fun t => some (decide (t ≥ 0))) (fun k => by rw [impl_Set_97_at_impl_areSets_1.f]) (Ev.bind hj (Ev.now _))
theorem isS_cols {C : Int} {ts : List T4} (h : isS C ts = true) : ∀ t ∈ ts, (0 ≤ t.a ∧ t.a < C) ∧ (0 ≤ t.b ∧ t.b < C) ∧ (0 ≤ t.c ∧ t.c < C) ∧ (0 ≤ t.d ∧ t.d < C) := by
  obtain ⟨-, -, h3⟩ := isS_iff.1 h
  intro t ht
  obtain ⟨i, hi, rfl⟩ := List.mem_iff_getElem.1 ht
  have := (h3 i hi).1
  rw [← tk_at hi] at this
  simp only [tileB, Bool.and_eq_true, inB_iff, T4.get] at this
  simp at this
  omega
theorem RT.block {w w' : World} {A : Option Addr} {ts : List T4} (h : RT w A ts) (hW : ∀ k, k < w.heap.size → w'.heap[k]? = w.heap[k]?) : RT w' A ts := by
  intro k hk
  obtain ⟨b, o, e, hlt, h0, h1, h2, h3⟩ := h k hk
  have hb := hW b hlt
  exact ⟨b, o, e, heap_lt hb hlt, (World.cell?_of_block (w := w) hb).trans h0, (World.cell?_of_block (w := w) hb).trans h1, (World.cell?_of_block (w := w) hb).trans h2, (World.cell?_of_block (w := w) hb).trans h3⟩
theorem V_of_rt {w : World} {A : Option Addr} {ts : List T4} {base c : Nat} (h : RT w A ts) (hl : ts.length ≤ 9223372036854775807) (hc : ts.length ≤ c) : Kd.V k45 45 w base (fun k_ => (fun _ => True : Nat → Prop) k_) (.slice A (ts.map toS).length c) (ts.map toS) :=
  Kd.V_mk (by simpa using hc) (fun W' hW => C_of_rt (h.block (fun k hk => hW k trivial hk)) hl)
end Go.Proofs.Ytnjmgmdpkogocaa
namespace Go.Proofs.Ytnjmgmdpkogocaa.Q
open Go.RowKit Go.Proofs.YtnjmgmdpkogocaaW.PrintWords Go.Proofs.YtnjmgmdpkogocaaW.PrintLast Go.Proofs.YtnjmgmdpkogocaaW.PrintMore
attribute [local go_sem] max2_int min2_int max_two min_two max_three min_three max_four min_four
set_option linter.unusedVariables false
set_option linter.unusedSimpArgs false
mutual
def spec_l01Product.l0 : Nat → List (S45) → Int → Int → List (S45) → Int → List (S45) → Option (Int × (List (S45)))
 | 0, _, _, _, _, _, _ => none
 | k + 1, x5, x6, x1144000, x1144001, x1145000, x1145001 => if x6 < (x1144001.length : Int) then (spec_l01Product.l1 k x5 x6 0 x1144000 x1144001 x1145000 x1145001) else ((spec_l01Made.f (wrap64 (x1144000 * x1145000)) x5).bind fun bt1149 => (some (bt1149.1, bt1149.2)))
def spec_l01Product.l1 : Nat → List (S45) → Int → Int → Int → List (S45) → Int → List (S45) → Option (Int × (List (S45)))
 | 0, _, _, _, _, _, _, _ => none
 | k + 1, x5, x6, x7, x1144000, x1144001, x1145000, x1145001 => if x7 < (x1145001.length : Int) then (spec_l01Product.l2 k x5 x6 x7 0 x1144000 x1144001 x1145000 x1145001 0 0 0 0) else (spec_l01Product.l0 k x5 (wrap64 (x6 + 1)) x1144000 x1144001 x1145000 x1145001)
def spec_l01Product.l2 : Nat → List (S45) → Int → Int → Int → Int → List (S45) → Int → List (S45) → Int → Int → Int → Int → Option (Int × (List (S45)))
 | 0, _, _, _, _, _, _, _, _, _, _, _, _ => none
 | k + 1, x5, x6, x7, x9, x1144000, x1144001, x1145000, x1145001, x1154000, x1154001, x1154002, x1154003 => if x9 < 4 then (if 0 ≤ x6 then (if x6 < (x1144001.length : Int) then (if x9 = 0 then (if 0 ≤ x7 then (if x7 < (x1145001.length : Int) then (spec_l01Product.l2 k x5 x6 x7 (wrap64 (x9 + 1)) x1144000 x1144001 x1145000 x1145001 (wrap64 ((wrap64 (((rd_T45 x1144001 x6).f0) * x1145000)) + ((rd_T45 x1145001 x7).f0))) x1154001 x1154002 x1154003) else (none)) else (none)) else (if x9 = 1 then (if 0 ≤ x7 then (if x7 < (x1145001.length : Int) then (spec_l01Product.l2 k x5 x6 x7 (wrap64 (x9 + 1)) x1144000 x1144001 x1145000 x1145001 x1154000 (wrap64 ((wrap64 (((rd_T45 x1144001 x6).f1) * x1145000)) + ((rd_T45 x1145001 x7).f1))) x1154002 x1154003) else (none)) else (none)) else (if x9 = 2 then (if 0 ≤ x7 then (if x7 < (x1145001.length : Int) then (spec_l01Product.l2 k x5 x6 x7 (wrap64 (x9 + 1)) x1144000 x1144001 x1145000 x1145001 x1154000 x1154001 (wrap64 ((wrap64 (((rd_T45 x1144001 x6).f2) * x1145000)) + ((rd_T45 x1145001 x7).f2))) x1154003) else (none)) else (none)) else (if x9 = 3 then (if 0 ≤ x7 then (if x7 < (x1145001.length : Int) then (spec_l01Product.l2 k x5 x6 x7 (wrap64 (x9 + 1)) x1144000 x1144001 x1145000 x1145001 x1154000 x1154001 x1154002 (wrap64 ((wrap64 (((rd_T45 x1144001 x6).f3) * x1145000)) + ((rd_T45 x1145001 x7).f3)))) else (none)) else (none)) else (none))))) else (none)) else (none)) else (if x5.length < 4398046511104 then (spec_l01Product.l1 k (x5 ++ [(⟨x1154000, x1154001, x1154002, x1154003⟩ : S45)]) x6 (wrap64 (x7 + 1)) x1144000 x1144001 x1145000 x1145001) else (none))
end
def spec_l01Product.f (k : Nat) (a0_0 : Int) (l0_1 : List (S45)) (a1_0 : Int) (l1_1 : List (S45)) : Option (Int × (List (S45))) := spec_l01Product.l0 k (([] : List (S45))) 0 a0_0 l0_1 a1_0 l1_1
theorem spec_l01Product.mono_l : ∀ k, (∀ y0 y1 y2 y3 y4 y5, LeO (spec_l01Product.l0 k y0 y1 y2 y3 y4 y5) (spec_l01Product.l0 (k + 1) y0 y1 y2 y3 y4 y5)) ∧ (∀ y0 y1 y2 y3 y4 y5 y6, LeO (spec_l01Product.l1 k y0 y1 y2 y3 y4 y5 y6) (spec_l01Product.l1 (k + 1) y0 y1 y2 y3 y4 y5 y6)) ∧ (∀ y0 y1 y2 y3 y4 y5 y6 y7 y8 y9 y10 y11, LeO (spec_l01Product.l2 k y0 y1 y2 y3 y4 y5 y6 y7 y8 y9 y10 y11) (spec_l01Product.l2 (k + 1) y0 y1 y2 y3 y4 y5 y6 y7 y8 y9 y10 y11))
 | 0 => ⟨fun _ _ _ _ _ _ r h => by simp [spec_l01Product.l0] at h, fun _ _ _ _ _ _ _ r h => by simp [spec_l01Product.l1] at h, fun _ _ _ _ _ _ _ _ _ _ _ _ r h => by simp [spec_l01Product.l2] at h⟩
 | k + 1 => by
  obtain ⟨ih0, ih1, ih2⟩ := spec_l01Product.mono_l k
  refine ⟨?_, ?_, ?_⟩
  ·intro y0 y1 y2 y3 y4 y5
   unfold spec_l01Product.l0
   repeat' first
   | (with_reducible exact ih0 _ _ _ _ _ _)
   | (with_reducible exact ih1 _ _ _ _ _ _ _)
   | (with_reducible exact ih2 _ _ _ _ _ _ _ _ _ _ _ _)
   | (with_reducible exact LeO.refl _)
   | (with_reducible exact LeO.none _)
   | (with_reducible refine LeO.ite ?_ ?_)
   | (with_reducible refine LeO.bind ?_ (fun _ => ?_))
   | exact ih0 _ _ _ _ _ _
   | exact ih1 _ _ _ _ _ _ _
   | exact ih2 _ _ _ _ _ _ _ _ _ _ _ _
   | exact LeO.none _
   | refine LeO.ite ?_ ?_
   | refine LeO.bind ?_ (fun _ => ?_)
  ·intro y0 y1 y2 y3 y4 y5 y6
   unfold spec_l01Product.l1
   repeat' first
   | (with_reducible exact ih0 _ _ _ _ _ _)
   | (with_reducible exact ih1 _ _ _ _ _ _ _)
   | (with_reducible exact ih2 _ _ _ _ _ _ _ _ _ _ _ _)
   | (with_reducible exact LeO.refl _)
   | (with_reducible exact LeO.none _)
   | (with_reducible refine LeO.ite ?_ ?_)
   | (with_reducible refine LeO.bind ?_ (fun _ => ?_))
   | exact ih0 _ _ _ _ _ _
   | exact ih1 _ _ _ _ _ _ _
   | exact ih2 _ _ _ _ _ _ _ _ _ _ _ _
   | exact LeO.none _
   | refine LeO.ite ?_ ?_
   | refine LeO.bind ?_ (fun _ => ?_)
  ·intro y0 y1 y2 y3 y4 y5 y6 y7 y8 y9 y10 y11
   unfold spec_l01Product.l2
   repeat' first
   | (with_reducible exact ih0 _ _ _ _ _ _)
   | (with_reducible exact ih1 _ _ _ _ _ _ _)
   | (with_reducible exact ih2 _ _ _ _ _ _ _ _ _ _ _ _)
   | (with_reducible exact LeO.refl _)
   | (with_reducible exact LeO.none _)
   | (with_reducible refine LeO.ite ?_ ?_)
   | (with_reducible refine LeO.bind ?_ (fun _ => ?_))
   | exact ih0 _ _ _ _ _ _
   | exact ih1 _ _ _ _ _ _ _
   | exact ih2 _ _ _ _ _ _ _ _ _ _ _ _
   | exact LeO.none _
   | refine LeO.ite ?_ ?_
   | refine LeO.bind ?_ (fun _ => ?_)
theorem spec_l01Product.mono : ∀ a0 a1 a2 a3 k, LeO (spec_l01Product.f k a0 a1 a2 a3) (spec_l01Product.f (k + 1) a0 a1 a2 a3) := by
 intro a0 a1 a2 a3 k
 obtain ⟨ih0, ih1, ih2⟩ := spec_l01Product.mono_l k
 unfold spec_l01Product.f
 repeat' first
   | (with_reducible exact ih0 _ _ _ _ _ _)
   | (with_reducible exact ih1 _ _ _ _ _ _ _)
   | (with_reducible exact ih2 _ _ _ _ _ _ _ _ _ _ _ _)
   | (with_reducible exact LeO.refl _)
   | (with_reducible exact LeO.none _)
   | (with_reducible refine LeO.ite ?_ ?_)
   | (with_reducible refine LeO.bind ?_ (fun _ => ?_))
   | exact ih0 _ _ _ _ _ _
   | exact ih1 _ _ _ _ _ _ _
   | exact ih2 _ _ _ _ _ _ _ _ _ _ _ _
   | exact LeO.none _
   | refine LeO.ite ?_ ?_
   | refine LeO.bind ?_ (fun _ => ?_)
def spec_l01Product.T12 : Bool × List (List Nat × List Nat) := (true, [([], []), ([], []), ([1], [1]), ([], []), ([], []), ([2, 3], [2, 3]), ([5, 4], [4, 5]), ([6], [6]), ([], []), ([8], [8]), ([7, 9], [7, 9]), ([], []), ([11], [11]), ([], []), ([], []), ([12, 13], [12, 13]), ([15, 14], [14, 15]), ([16], [16]), ([10, 17], [10, 17]), ([0, 0, 1, 2, 3, 4, 5, 6, 7, 8, 9, 10, 11, 12, 13, 14, 15, 16, 17, 18], [0]), ([19, 18, 0, 1, 2, 3, 4, 5, 6, 7, 8, 9, 10, 11, 12, 13, 14, 15, 16, 17, 18], [18, 19])])
def spec_l01Product.B12 : List Nat := [0, 0, 2, 0, 0, 14, 62, 126, 0, 256, 1022, 0, 2048, 0, 0, 14336, 63488, 129024, 262142, 524287, 1048575]
theorem spec_l01Product.tab12 : rtab .any (opsOf Try.f75 12) = spec_l01Product.T12 := by kernel_rfl
theorem spec_l01Product.bits12 : waitsOk spec_l01Product.T12.2 spec_l01Product.B12 = true := by kernel_rfl
set_option maxHeartbeats 8000000 in
set_option maxRecDepth 100000 in
theorem spec_l01Product.calls (k : Nat) (a0_0 : Int) (A0_1 : Option Addr) (c0_1 : Nat) (l0_1 : List (S45)) (a1_0 : Int) (A1_1 : Option Addr) (c1_1 : Nat) (l1_1 : List (S45)) (r1 : Int) (r2 : List (S45)) (w : World) (hr0_1 : Kd.C k45 w A0_1 l0_1.length l0_1) (hc0_1 : l0_1.length ≤ c0_1) (hr1_1 : Kd.C k45 w A1_1 l1_1.length l1_1) (hc1_1 : l1_1.length ≤ c1_1) (h : spec_l01Product.f k a0_0 l0_1 a1_0 l1_1 = some (r1, r2)) :
  Calls Try.prog 75 #[.agg #[.int .i64 a0_0, .slice A0_1 l0_1.length c0_1], .agg #[.int .i64 a1_0, .slice A1_1 l1_1.length c1_1]] w fun e w' => ∃ v1_ : Value, e = .returned (.agg #[.int .i64 r1, v1_]) ∧ Kd.R k45 45 w' w.heap.size (fun _ => True) v1_ r2 ∧ Below w.heap.size w w' := by
 have hu26 := Try.underlying26
 have hu45 := Try.underlying45
 have HR0_1 := Aside0.mk hr0_1
 have HC0_1 := Aside0.mk hc0_1
 clear hr0_1 hc0_1
 have HR1_1 := Aside0.mk hr1_1
 have HC1_1 := Aside0.mk hc1_1
 clear hr1_1 hc1_1
 have HB := Aside0.mk (Below.refl w.heap.size w)
 have H : (spec_l01Product.l0 k (([] : List (S45))) 0 a0_0 l0_1 a1_0 l1_1) = some (r1, r2) := h
 clear h
 obtain ⟨y1146, hy1146⟩ : ∃ y_ : List (S45), y_ = (([] : List (S45))) := ⟨_, rfl⟩
 replace H : (spec_l01Product.l0 k y1146 0 a0_0 l0_1 a1_0 l1_1) = some (r1, r2) := by first | (rw [hy1146]; with_reducible exact H) | (have H2_ := (Option.bind_some _ _).symm.trans H; rw [hy1146]; with_reducible exact H2_) | (have H2_ := (Option.bind_some _ _).symm.trans H; with_reducible exact H2_) | with_reducible exact H | (rw [hy1146]; exact H) | exact H
 have Ny1146 := Aside0.mk hy1146
 clear hy1146
 have H' := Aside0.mk H
 clear H
 go_enter Try.func75, Try.ntmps75
 go_wp2_with (first | ((with_reducible refine gate_dst (N := 2) rfl ?_); refine box_event ?hg (N := 2) ?hd (cs := #[.int .i64 a0_0, .slice A0_1 l0_1.length c0_1]) (t := 26) ?hr ?_; (case hd => rfl); (case hg => rfl); (case hr => first | (go_simp; done) | (go_simp; rfl)); intro gb1143 hg w3 hbox hb; have n0_ := Aside0.mk (below_step (by repeat (first | (with_reducible first | exact HB.out | apply below_alloc | apply pw_below_drewN | apply below_drew1) | exact HB.out)) hb); have n1_ := Aside0.mk (hbox); have n2_ := Aside0.mk ((by rw [hg]; exact (below_size (by repeat (first | (with_reducible first | exact HB.out | apply below_alloc | apply pw_below_drewN | apply below_drew1) | exact HB.out))) : w.heap.size ≤ gb1143)); have n3_ := Aside0.mk ((by rw [hg]; exact (below_size (by repeat (first | (with_reducible first | exact HB.out | apply below_alloc | apply pw_below_drewN | apply below_drew1) | exact HB.out))) : w.heap.size ≤ gb1143)); clear HB; have HB := n0_; have BK1143 := n1_; have GW1143 := n2_; have GE1143 := n3_; clear n0_ n1_ n2_ n3_; clear hb hbox hg) | ((with_reducible refine gate_dst (N := 3) rfl ?_); refine box_event ?hg (N := 3) ?hd (cs := #[.int .i64 a1_0, .slice A1_1 l1_1.length c1_1]) (t := 26) ?hr ?_; (case hd => rfl); (case hg => rfl); (case hr => first | (go_simp; done) | (go_simp; rfl)); intro gb1144 hg w4 hbox hb; have n0_ := Aside0.mk (blk_below (g := gb1143) (o := .cells #[.int .i64 a0_0, .slice A0_1 l0_1.length c0_1] 26 (0, 0)) (by (with_reducible repeat (first | refine blk_drewN ?_ _ | refine blk_drew ?_ | refine blk_alloc ?_ _)); exact BK1143.out) hb); have n1_ := Aside0.mk (below_step (by repeat (first | (with_reducible first | exact HB.out | apply below_alloc | apply pw_below_drewN | apply below_drew1 | refine below_set ?_ GE1143.out) | exact HB.out)) hb); have n2_ := Aside0.mk (hbox); have n3_ := Aside0.mk ((by rw [hg]; exact (below_size (by repeat (first | (with_reducible first | exact HB.out | apply below_alloc | apply pw_below_drewN | apply below_drew1 | refine below_set ?_ GE1143.out) | exact HB.out))) : w.heap.size ≤ gb1144)); have n4_ := Aside0.mk ((by rw [hg]; exact (below_size (by repeat (first | (with_reducible first | exact HB.out | apply below_alloc | apply pw_below_drewN | apply below_drew1 | refine below_set ?_ GE1143.out) | exact HB.out))) : w.heap.size ≤ gb1144)); have n5_ := Aside0.mk ((by rw [hg]; exact Nat.ne_of_lt (blk_lt (g := gb1143) (o := .cells #[.int .i64 a0_0, .slice A0_1 l0_1.length c0_1] 26 (0, 0)) (by (with_reducible repeat (first | refine blk_drewN ?_ _ | refine blk_drew ?_ | refine blk_alloc ?_ _)); exact BK1143.out)) : gb1143 ≠ gb1144)); have n6_ := Aside0.mk ((by rw [hg]; exact Nat.ne_of_gt (blk_lt (g := gb1143) (o := .cells #[.int .i64 a0_0, .slice A0_1 l0_1.length c0_1] 26 (0, 0)) (by (with_reducible repeat (first | refine blk_drewN ?_ _ | refine blk_drew ?_ | refine blk_alloc ?_ _)); exact BK1143.out)) : gb1144 ≠ gb1143)); clear BK1143; clear HB; have BK1143 := n0_; have HB := n1_; have BK1144 := n2_; have GW1144 := n3_; have GE1144 := n4_; have NB1143_1144 := n5_; have NB1144_1143 := n6_; clear n0_ n1_ n2_ n3_ n4_ n5_ n6_; clear hb hbox hg) | ((with_reducible refine gate_dst (N := 4) rfl ?_); refine box_event ?hg (N := 4) ?hd (cs := #[.int .i64 0, .slice none 0 0]) (t := 26) ?hr ?_; (case hd => rfl); (case hg => rfl); (case hr => first | (go_simp; done) | (go_simp; rfl)); intro gb1145 hg w5 hbox hb; have n0_ := Aside0.mk (blk_below (g := gb1143) (o := .cells #[.int .i64 a0_0, .slice A0_1 l0_1.length c0_1] 26 (0, 0)) (by (with_reducible repeat (first | refine blk_drewN ?_ _ | refine blk_drew ?_ | refine blk_alloc ?_ _)); exact BK1143.out) hb); have n1_ := Aside0.mk (blk_below (g := gb1144) (o := .cells #[.int .i64 a1_0, .slice A1_1 l1_1.length c1_1] 26 (0, 0)) (by (with_reducible repeat (first | refine blk_drewN ?_ _ | refine blk_drew ?_ | refine blk_alloc ?_ _)); exact BK1144.out) hb); have n2_ := Aside0.mk (below_step (by repeat (first | (with_reducible first | exact HB.out | apply below_alloc | apply pw_below_drewN | apply below_drew1 | refine below_set ?_ GE1143.out | refine below_set ?_ GE1144.out) | exact HB.out)) hb); have n3_ := Aside0.mk (hbox); have n4_ := Aside0.mk ((by rw [hg]; exact (below_size (by repeat (first | (with_reducible first | exact HB.out | apply below_alloc | apply pw_below_drewN | apply below_drew1 | refine below_set ?_ GE1143.out | refine below_set ?_ GE1144.out) | exact HB.out))) : w.heap.size ≤ gb1145)); have n5_ := Aside0.mk ((by rw [hg]; exact (below_size (by repeat (first | (with_reducible first | exact HB.out | apply below_alloc | apply pw_below_drewN | apply below_drew1 | refine below_set ?_ GE1143.out | refine below_set ?_ GE1144.out) | exact HB.out))) : w.heap.size ≤ gb1145)); have n6_ := Aside0.mk ((by rw [hg]; exact Nat.ne_of_lt (blk_lt (g := gb1143) (o := .cells #[.int .i64 a0_0, .slice A0_1 l0_1.length c0_1] 26 (0, 0)) (by (with_reducible repeat (first | refine blk_drewN ?_ _ | refine blk_drew ?_ | refine blk_alloc ?_ _)); exact BK1143.out)) : gb1143 ≠ gb1145)); have n7_ := Aside0.mk ((by rw [hg]; exact Nat.ne_of_gt (blk_lt (g := gb1143) (o := .cells #[.int .i64 a0_0, .slice A0_1 l0_1.length c0_1] 26 (0, 0)) (by (with_reducible repeat (first | refine blk_drewN ?_ _ | refine blk_drew ?_ | refine blk_alloc ?_ _)); exact BK1143.out)) : gb1145 ≠ gb1143)); have n8_ := Aside0.mk ((by rw [hg]; exact Nat.ne_of_lt (blk_lt (g := gb1144) (o := .cells #[.int .i64 a1_0, .slice A1_1 l1_1.length c1_1] 26 (0, 0)) (by (with_reducible repeat (first | refine blk_drewN ?_ _ | refine blk_drew ?_ | refine blk_alloc ?_ _)); exact BK1144.out)) : gb1144 ≠ gb1145)); have n9_ := Aside0.mk ((by rw [hg]; exact Nat.ne_of_gt (blk_lt (g := gb1144) (o := .cells #[.int .i64 a1_0, .slice A1_1 l1_1.length c1_1] 26 (0, 0)) (by (with_reducible repeat (first | refine blk_drewN ?_ _ | refine blk_drew ?_ | refine blk_alloc ?_ _)); exact BK1144.out)) : gb1145 ≠ gb1144)); clear BK1143; clear BK1144; clear HB; have BK1143 := n0_; have BK1144 := n1_; have HB := n2_; have BK1145 := n3_; have GW1145 := n4_; have GE1145 := n5_; have NB1143_1145 := n6_; have NB1145_1143 := n7_; have NB1144_1145 := n8_; have NB1145_1144 := n9_; clear n0_ n1_ n2_ n3_ n4_ n5_ n6_ n7_ n8_ n9_; clear hb hbox hg) | ((with_reducible refine gate_dst (N := 10) rfl ?_); refine Kd.R_lit k45 _ 45 ?hg (N := 10) ?hd (xs := ([] : List (S45))) (inner := []) (ok := fun _ => True) (okp := fun _ => True) ?hr ?hp (fun _ hk => hk) trivial (Below.refl _ _) (Nat.le_refl _) (by simp) ?_; (case hd => rfl); (case hg => rfl); (case hr => first | (go_simp; done) | (go_simp; rfl)); (case hp => exact (Reps.none _ _)); intro v1147 w6 ho7 hb hg_ hnew_; clear hg_ hnew_; (first | rw [← Ny1146.out] at ho7 | (simp only [Int.reduceToNat] at ho7; rw [← Ny1146.out] at ho7)); have n0_ := Aside0.mk (Kd.R_lower ho7 (below_size (by repeat (first | (with_reducible first | exact HB.out | apply below_alloc | apply pw_below_drewN | apply below_drew1 | refine below_set ?_ GE1143.out | refine below_set ?_ GE1144.out | refine below_set ?_ GE1145.out) | exact HB.out)))); have n1_ := Aside0.mk (blk_below (g := gb1143) (o := .cells #[.int .i64 a0_0, .slice A0_1 l0_1.length c0_1] 26 (0, 0)) (by (with_reducible repeat (first | refine blk_drewN ?_ _ | refine blk_drew ?_ | refine blk_alloc ?_ _)); exact BK1143.out) hb); have n2_ := Aside0.mk (blk_below (g := gb1144) (o := .cells #[.int .i64 a1_0, .slice A1_1 l1_1.length c1_1] 26 (0, 0)) (by (with_reducible repeat (first | refine blk_drewN ?_ _ | refine blk_drew ?_ | refine blk_alloc ?_ _)); exact BK1144.out) hb); have n3_ := Aside0.mk (blk_below (g := gb1145) (o := .cells #[.int .i64 0, .slice none 0 0] 26 (0, 0)) (by (with_reducible repeat (first | refine blk_drewN ?_ _ | refine blk_drew ?_ | refine blk_alloc ?_ _)); exact BK1145.out) hb); have n4_ := Aside0.mk (below_step (by repeat (first | (with_reducible first | exact HB.out | apply below_alloc | apply pw_below_drewN | apply below_drew1 | refine below_set ?_ GE1143.out | refine below_set ?_ GE1144.out | refine below_set ?_ GE1145.out) | exact HB.out)) hb); clear BK1143; clear BK1144; clear BK1145; clear HB; have HO1148 := n0_; have BK1143 := n1_; have BK1144 := n2_; have BK1145 := n3_; have HB := n4_; clear n0_ n1_ n2_ n3_ n4_; clear hb ho7))
 go_loopg [5, 6] k (fun kq v5 v6 w' => ∃ (x5_1 : List (S45)) (x6_1 : Int), v6 = .int .i64 x6_1 ∧ Aside0 (spec_l01Product.l0 kq x5_1 x6_1 a0_0 l0_1 a1_0 l1_1 = some (r1, r2)) ∧ Aside0 (kq ≤ k) ∧ Aside0 (Kd.R k45 45 w' w.heap.size (fun _ => True) v5 x5_1) ∧ Aside0 (w'.heap[gb1143]? = some (.cells #[.int .i64 a0_0, (.slice A0_1 l0_1.length c0_1)] 26 (0, 0))) ∧ Aside0 (w'.heap[gb1144]? = some (.cells #[.int .i64 a1_0, (.slice A1_1 l1_1.length c1_1)] 26 (0, 0))) ∧ Aside0 (w'.heap[gb1145]? = some (.cells #[.int .i64 0, (.slice none 0 0)] 26 (0, 0))) ∧ Aside0 (Below w.heap.size w w'))
 case atStart => exact ⟨(y1146), (0), (by first | rfl | (simp; done) | (simp [*]; done) | (simp; decide +kernel)), H', ⟨Nat.le_refl _⟩, ⟨by (with_reducible repeat (first | apply Kd.R_alloc | apply Kd.R_drewN | apply Kd.R_drew)); exact HO1148.out⟩, ⟨by (with_reducible repeat (first | refine blk_drewN ?_ _ | refine blk_drew ?_ | refine blk_alloc ?_ _)); exact BK1143.out⟩, ⟨by (with_reducible repeat (first | refine blk_drewN ?_ _ | refine blk_drew ?_ | refine blk_alloc ?_ _)); exact BK1144.out⟩, ⟨by (with_reducible repeat (first | refine blk_drewN ?_ _ | refine blk_drew ?_ | refine blk_alloc ?_ _)); exact BK1145.out⟩, ⟨by repeat (first | (with_reducible first | exact HB.out | apply below_alloc | apply pw_below_drewN | apply below_drew1 | refine below_set ?_ GE1143.out | refine below_set ?_ GE1144.out | refine below_set ?_ GE1145.out) | exact HB.out)⟩⟩
 case round =>
  clear H'
  try clear c1
  try clear p2
  try clear c7
  obtain ⟨x5_1, x6_1, rfl, HA, HK1, HO_5, BK1143, BK1144, BK1145, HB⟩ := hrel
  cases gk with
  | zero => exact absurd HA.out (by simp [spec_l01Product.l0])
  | succ k1 =>
   have H := HA.out
   clear HA
   simp only [spec_l01Product.l0] at H
   by_cases c8 : x6_1 < (l0_1.length : Int)
   ·rw [if_pos c8] at H
    have c8b0 : decide (x6_1 < (l0_1.length : Int)) = true := decide_eq_true c8
    clear c8
    have H' := Aside0.mk H
    clear H
    have hnb9 := NB1143_1144.out
    have hnc9 := NB1144_1143.out
    have hnb10 := NB1143_1145.out
    have hnc10 := NB1145_1143.out
    have hcz11_0 : wr.cell? ⟨gb1143, 0, none⟩ = some (.int .i64 a0_0) := (blk_cell BK1143.out 0).trans rfl
    have hcz11_1 : wr.cell? ⟨gb1143, 1, none⟩ = some (.slice A0_1 l0_1.length c0_1) := (blk_cell BK1143.out 1).trans rfl
    have hfz11_0 := blk_frozen BK1143.out 0
    have hfz11_1 := blk_frozen BK1143.out 1
    go_wp2
    go_loopg [5, 7] k1 (fun kq v5 v7 w' => ∃ (x5_2 : List (S45)) (x7_2 : Int), v7 = .int .i64 x7_2 ∧ Aside0 (spec_l01Product.l1 kq x5_2 x6_1 x7_2 a0_0 l0_1 a1_0 l1_1 = some (r1, r2)) ∧ Aside0 (kq ≤ k1) ∧ Aside0 (Kd.R k45 45 w' w.heap.size (fun _ => True) v5 x5_2) ∧ Aside0 (w'.heap[gb1143]? = some (.cells #[.int .i64 a0_0, (.slice A0_1 l0_1.length c0_1)] 26 (0, 0))) ∧ Aside0 (w'.heap[gb1144]? = some (.cells #[.int .i64 a1_0, (.slice A1_1 l1_1.length c1_1)] 26 (0, 0))) ∧ Aside0 (w'.heap[gb1145]? = some (.cells #[.int .i64 0, (.slice none 0 0)] 26 (0, 0))) ∧ Aside0 (Below w.heap.size w w'))
    case atStart => exact ⟨(x5_1), (0), (by first | rfl | (simp; done) | (simp [*]; done) | (simp; decide +kernel)), H', ⟨Nat.le_refl _⟩, ⟨by (with_reducible repeat (first | apply Kd.R_alloc | apply Kd.R_drewN | apply Kd.R_drew)); exact HO_5.out⟩, ⟨by (with_reducible repeat (first | refine blk_drewN ?_ _ | refine blk_drew ?_ | refine blk_alloc ?_ _)); exact BK1143.out⟩, ⟨by (with_reducible repeat (first | refine blk_drewN ?_ _ | refine blk_drew ?_ | refine blk_alloc ?_ _)); exact BK1144.out⟩, ⟨by (with_reducible repeat (first | refine blk_drewN ?_ _ | refine blk_drew ?_ | refine blk_alloc ?_ _)); exact BK1145.out⟩, ⟨by repeat (first | (with_reducible first | exact HB.out | apply below_alloc | apply pw_below_drewN | apply below_drew1 | refine below_set ?_ GE1143.out | refine below_set ?_ GE1144.out | refine below_set ?_ GE1145.out) | exact HB.out)⟩⟩
    case round =>
     clear H'
     try clear c1
     try clear p2
     try clear c7
     try clear c8
     try clear c8b0
     try clear c9
     try clear c10
     try clear hcz11_0
     try clear hcz11_1
     try clear hfz11_0
     try clear hfz11_1
     try clear p2
     obtain ⟨x5_2, x7_2, rfl, HA, HK2, HO_5, BK1143, BK1144, BK1145, HB⟩ := hrel
     cases gk with
     | zero => exact absurd HA.out (by simp [spec_l01Product.l1])
     | succ k2 =>
      have H := HA.out
      clear HA
      simp only [spec_l01Product.l1] at H
      by_cases c12 : x7_2 < (l1_1.length : Int)
      ·rw [if_pos c12] at H
       have c12b0 : decide (x7_2 < (l1_1.length : Int)) = true := decide_eq_true c12
       clear c12
       have H' := Aside0.mk H
       clear H
       have hnb13 := NB1144_1143.out
       have hnc13 := NB1143_1144.out
       have hnb14 := NB1144_1145.out
       have hnc14 := NB1145_1144.out
       have hcz15_0 : wr.cell? ⟨gb1144, 0, none⟩ = some (.int .i64 a1_0) := (blk_cell BK1144.out 0).trans rfl
       have hcz15_1 : wr.cell? ⟨gb1144, 1, none⟩ = some (.slice A1_1 l1_1.length c1_1) := (blk_cell BK1144.out 1).trans rfl
       have hfz15_0 := blk_frozen BK1144.out 0
       have hfz15_1 := blk_frozen BK1144.out 1
       go_wp2_with (first | ((with_reducible refine gate_dst (N := 8) rfl ?_); refine box_event ?hg (N := 8) ?hd (cs := #[.int .i64 0, .int .i64 0, .int .i64 0, .int .i64 0]) (t := 45) ?hr ?_; (case hd => rfl); (case hg => rfl); (case hr => first | (go_simp; done) | (go_simp; rfl)); intro gb1153 hg w16 hbox hb; have n0_ := Aside0.mk (Kd.R_below (Kd.R_elderB (by (with_reducible repeat (first | apply Kd.R_alloc | apply Kd.R_drewN | apply Kd.R_drew)); exact HO_5.out) gb1153 (Nat.le_of_eq hg.symm)) hb); have n1_ := Aside0.mk (blk_below (g := gb1143) (o := .cells #[.int .i64 a0_0, .slice A0_1 l0_1.length c0_1] 26 (0, 0)) (by (with_reducible repeat (first | refine blk_drewN ?_ _ | refine blk_drew ?_ | refine blk_alloc ?_ _)); exact BK1143.out) hb); have n2_ := Aside0.mk (blk_below (g := gb1144) (o := .cells #[.int .i64 a1_0, .slice A1_1 l1_1.length c1_1] 26 (0, 0)) (by (with_reducible repeat (first | refine blk_drewN ?_ _ | refine blk_drew ?_ | refine blk_alloc ?_ _)); exact BK1144.out) hb); have n3_ := Aside0.mk (blk_below (g := gb1145) (o := .cells #[.int .i64 0, .slice none 0 0] 26 (0, 0)) (by (with_reducible repeat (first | refine blk_drewN ?_ _ | refine blk_drew ?_ | refine blk_alloc ?_ _)); exact BK1145.out) hb); have n4_ := Aside0.mk (below_step (by repeat (first | (with_reducible first | exact HB.out | apply below_alloc | apply pw_below_drewN | apply below_drew1 | refine below_set ?_ GE1143.out | refine below_set ?_ GE1144.out | refine below_set ?_ GE1145.out) | exact HB.out)) hb); have n5_ := Aside0.mk (hbox); have n6_ := Aside0.mk ((by rw [hg]; exact (below_size (by repeat (first | (with_reducible first | exact HB.out | apply below_alloc | apply pw_below_drewN | apply below_drew1 | refine below_set ?_ GE1143.out | refine below_set ?_ GE1144.out | refine below_set ?_ GE1145.out) | exact HB.out))) : w.heap.size ≤ gb1153)); have n7_ := Aside0.mk ((by rw [hg]; exact (below_size (by repeat (first | (with_reducible first | exact HB.out | apply below_alloc | apply pw_below_drewN | apply below_drew1 | refine below_set ?_ GE1143.out | refine below_set ?_ GE1144.out | refine below_set ?_ GE1145.out) | exact HB.out))) : w.heap.size ≤ gb1153)); have n8_ := Aside0.mk ((by rw [hg]; exact Nat.ne_of_lt (blk_lt (g := gb1143) (o := .cells #[.int .i64 a0_0, .slice A0_1 l0_1.length c0_1] 26 (0, 0)) (by (with_reducible repeat (first | refine blk_drewN ?_ _ | refine blk_drew ?_ | refine blk_alloc ?_ _)); exact BK1143.out)) : gb1143 ≠ gb1153)); have n9_ := Aside0.mk ((by rw [hg]; exact Nat.ne_of_gt (blk_lt (g := gb1143) (o := .cells #[.int .i64 a0_0, .slice A0_1 l0_1.length c0_1] 26 (0, 0)) (by (with_reducible repeat (first | refine blk_drewN ?_ _ | refine blk_drew ?_ | refine blk_alloc ?_ _)); exact BK1143.out)) : gb1153 ≠ gb1143)); have n10_ := Aside0.mk ((by rw [hg]; exact Nat.ne_of_lt (blk_lt (g := gb1144) (o := .cells #[.int .i64 a1_0, .slice A1_1 l1_1.length c1_1] 26 (0, 0)) (by (with_reducible repeat (first | refine blk_drewN ?_ _ | refine blk_drew ?_ | refine blk_alloc ?_ _)); exact BK1144.out)) : gb1144 ≠ gb1153)); have n11_ := Aside0.mk ((by rw [hg]; exact Nat.ne_of_gt (blk_lt (g := gb1144) (o := .cells #[.int .i64 a1_0, .slice A1_1 l1_1.length c1_1] 26 (0, 0)) (by (with_reducible repeat (first | refine blk_drewN ?_ _ | refine blk_drew ?_ | refine blk_alloc ?_ _)); exact BK1144.out)) : gb1153 ≠ gb1144)); have n12_ := Aside0.mk ((by rw [hg]; exact Nat.ne_of_lt (blk_lt (g := gb1145) (o := .cells #[.int .i64 0, .slice none 0 0] 26 (0, 0)) (by (with_reducible repeat (first | refine blk_drewN ?_ _ | refine blk_drew ?_ | refine blk_alloc ?_ _)); exact BK1145.out)) : gb1145 ≠ gb1153)); have n13_ := Aside0.mk ((by rw [hg]; exact Nat.ne_of_gt (blk_lt (g := gb1145) (o := .cells #[.int .i64 0, .slice none 0 0] 26 (0, 0)) (by (with_reducible repeat (first | refine blk_drewN ?_ _ | refine blk_drew ?_ | refine blk_alloc ?_ _)); exact BK1145.out)) : gb1153 ≠ gb1145)); clear HO_5; clear BK1143; clear BK1144; clear BK1145; clear HB; have HO_5 := n0_; have BK1143 := n1_; have BK1144 := n2_; have BK1145 := n3_; have HB := n4_; have BK1153 := n5_; have GW1153 := n6_; have GE1153 := n7_; have NB1143_1153 := n8_; have NB1153_1143 := n9_; have NB1144_1153 := n10_; have NB1153_1144 := n11_; have NB1145_1153 := n12_; have NB1153_1145 := n13_; clear n0_ n1_ n2_ n3_ n4_ n5_ n6_ n7_ n8_ n9_ n10_ n11_ n12_ n13_; clear hb hbox hg; have hnb17 := NB1153_1143.out; have hnc17 := NB1143_1153.out; have hnb18 := NB1153_1144.out; have hnc18 := NB1144_1153.out; have hnb19 := NB1153_1145.out; have hnc19 := NB1145_1153.out; have hcz20_0 : w16.cell? ⟨gb1153, 0, none⟩ = some (.int .i64 0) := (blk_cell BK1153.out 0).trans rfl; have hcz20_1 : w16.cell? ⟨gb1153, 1, none⟩ = some (.int .i64 0) := (blk_cell BK1153.out 1).trans rfl; have hcz20_2 : w16.cell? ⟨gb1153, 2, none⟩ = some (.int .i64 0) := (blk_cell BK1153.out 2).trans rfl; have hcz20_3 : w16.cell? ⟨gb1153, 3, none⟩ = some (.int .i64 0) := (blk_cell BK1153.out 3).trans rfl; have hfz20_0 := blk_frozen BK1153.out 0; have hfz20_1 := blk_frozen BK1153.out 1; have hfz20_2 := blk_frozen BK1153.out 2; have hfz20_3 := blk_frozen BK1153.out 3))
       go_loopg [9] k2 (fun kq v9 w' => ∃ (x9_3 : Int) (x1154000_3 : Int) (x1154001_3 : Int) (x1154002_3 : Int) (x1154003_3 : Int), v9 = .int .i64 x9_3 ∧ Aside0 (spec_l01Product.l2 kq x5_2 x6_1 x7_2 x9_3 a0_0 l0_1 a1_0 l1_1 x1154000_3 x1154001_3 x1154002_3 x1154003_3 = some (r1, r2)) ∧ Aside0 (kq ≤ k2) ∧ Aside0 (Kd.R k45 45 w' w.heap.size (fun k_ => k_ ≠ gb1153) u5 x5_2) ∧ Aside0 (w'.heap[gb1143]? = some (.cells #[.int .i64 a0_0, (.slice A0_1 l0_1.length c0_1)] 26 (0, 0))) ∧ Aside0 (w'.heap[gb1144]? = some (.cells #[.int .i64 a1_0, (.slice A1_1 l1_1.length c1_1)] 26 (0, 0))) ∧ Aside0 (w'.heap[gb1145]? = some (.cells #[.int .i64 0, (.slice none 0 0)] 26 (0, 0))) ∧ Aside0 (w'.heap[gb1153]? = some (.cells #[.int .i64 x1154000_3, .int .i64 x1154001_3, .int .i64 x1154002_3, .int .i64 x1154003_3] 45 (0, 0))) ∧ Aside0 (Below w.heap.size w w'))
       case atStart => exact ⟨(0), (0), (0), (0), (0), (by first | rfl | (simp; done) | (simp [*]; done) | (simp; decide +kernel)), H', ⟨Nat.le_refl _⟩, ⟨by (with_reducible repeat (first | apply Kd.R_alloc | apply Kd.R_drewN | apply Kd.R_drew)); exact Kd.R_mono (Kd.R_far (p := ⟨gb1153, 3, none⟩) (Kd.R_far (p := ⟨gb1153, 2, none⟩) (Kd.R_far (p := ⟨gb1153, 1, none⟩) (Kd.R_far (p := ⟨gb1153, 0, none⟩) (Kd.R_mono HO_5.out (fun k_ hk => (⟨hk, hk.2⟩ : _ ∧ k_ ≠ gb1153))) (fun _ hk => hk.2) (.int .i64 0)) (fun _ hk => hk.2) (.int .i64 0)) (fun _ hk => hk.2) (.int .i64 0)) (fun _ hk => hk.2) (.int .i64 0)) (fun _ hk => hk.1.2)⟩, ⟨by (with_reducible repeat (first | refine blk_drewN ?_ _ | refine blk_drew ?_ | refine blk_alloc ?_ _)); refine blk_far ?_ NB1143_1153.out _; (with_reducible repeat (first | refine blk_drewN ?_ _ | refine blk_drew ?_ | refine blk_alloc ?_ _)); refine blk_far ?_ NB1143_1153.out _; (with_reducible repeat (first | refine blk_drewN ?_ _ | refine blk_drew ?_ | refine blk_alloc ?_ _)); refine blk_far ?_ NB1143_1153.out _; (with_reducible repeat (first | refine blk_drewN ?_ _ | refine blk_drew ?_ | refine blk_alloc ?_ _)); refine blk_far ?_ NB1143_1153.out _; (with_reducible repeat (first | refine blk_drewN ?_ _ | refine blk_drew ?_ | refine blk_alloc ?_ _)); exact BK1143.out⟩, ⟨by (with_reducible repeat (first | refine blk_drewN ?_ _ | refine blk_drew ?_ | refine blk_alloc ?_ _)); refine blk_far ?_ NB1144_1153.out _; (with_reducible repeat (first | refine blk_drewN ?_ _ | refine blk_drew ?_ | refine blk_alloc ?_ _)); refine blk_far ?_ NB1144_1153.out _; (with_reducible repeat (first | refine blk_drewN ?_ _ | refine blk_drew ?_ | refine blk_alloc ?_ _)); refine blk_far ?_ NB1144_1153.out _; (with_reducible repeat (first | refine blk_drewN ?_ _ | refine blk_drew ?_ | refine blk_alloc ?_ _)); refine blk_far ?_ NB1144_1153.out _; (with_reducible repeat (first | refine blk_drewN ?_ _ | refine blk_drew ?_ | refine blk_alloc ?_ _)); exact BK1144.out⟩, ⟨by (with_reducible repeat (first | refine blk_drewN ?_ _ | refine blk_drew ?_ | refine blk_alloc ?_ _)); refine blk_far ?_ NB1145_1153.out _; (with_reducible repeat (first | refine blk_drewN ?_ _ | refine blk_drew ?_ | refine blk_alloc ?_ _)); refine blk_far ?_ NB1145_1153.out _; (with_reducible repeat (first | refine blk_drewN ?_ _ | refine blk_drew ?_ | refine blk_alloc ?_ _)); refine blk_far ?_ NB1145_1153.out _; (with_reducible repeat (first | refine blk_drewN ?_ _ | refine blk_drew ?_ | refine blk_alloc ?_ _)); refine blk_far ?_ NB1145_1153.out _; (with_reducible repeat (first | refine blk_drewN ?_ _ | refine blk_drew ?_ | refine blk_alloc ?_ _)); exact BK1145.out⟩, ⟨by (with_reducible repeat (first | refine blk_drewN ?_ _ | refine blk_drew ?_ | refine blk_alloc ?_ _)); refine blk_put (cs := #[.int .i64 0, .int .i64 0, .int .i64 0, .int .i64 0]) ?_ 3 _ rfl; (with_reducible repeat (first | refine blk_drewN ?_ _ | refine blk_drew ?_ | refine blk_alloc ?_ _)); refine blk_put (cs := #[.int .i64 0, .int .i64 0, .int .i64 0, .int .i64 0]) ?_ 2 _ rfl; (with_reducible repeat (first | refine blk_drewN ?_ _ | refine blk_drew ?_ | refine blk_alloc ?_ _)); refine blk_put (cs := #[.int .i64 0, .int .i64 0, .int .i64 0, .int .i64 0]) ?_ 1 _ rfl; (with_reducible repeat (first | refine blk_drewN ?_ _ | refine blk_drew ?_ | refine blk_alloc ?_ _)); refine blk_put (cs := #[.int .i64 0, .int .i64 0, .int .i64 0, .int .i64 0]) ?_ 0 _ rfl; (with_reducible repeat (first | refine blk_drewN ?_ _ | refine blk_drew ?_ | refine blk_alloc ?_ _)); exact BK1153.out⟩, ⟨by repeat (first | (with_reducible first | exact HB.out | apply below_alloc | apply pw_below_drewN | apply below_drew1 | refine below_set ?_ GE1143.out | refine below_set ?_ GE1144.out | refine below_set ?_ GE1145.out | refine below_set ?_ GE1153.out) | exact HB.out)⟩⟩
       case round =>
        clear H'
        try clear c1
        try clear p2
        try clear c7
        try clear c8
        try clear c8b0
        try clear c9
        try clear c10
        try clear c12
        try clear c12b0
        try clear c13
        try clear c14
        try clear c17
        try clear c18
        try clear c19
        try clear hcz11_0
        try clear hcz11_1
        try clear hcz15_0
        try clear hcz15_1
        try clear hcz20_0
        try clear hcz20_1
        try clear hcz20_2
        try clear hcz20_3
        try clear hfz11_0
        try clear hfz11_1
        try clear hfz15_0
        try clear hfz15_1
        try clear hfz20_0
        try clear hfz20_1
        try clear hfz20_2
        try clear hfz20_3
        try clear p2
        obtain ⟨x9_3, x1154000_3, x1154001_3, x1154002_3, x1154003_3, rfl, HA, HK3, HO_5, BK1143, BK1144, BK1145, BK1153, HB⟩ := hrel
        cases gk with
        | zero => exact absurd HA.out (by simp [spec_l01Product.l2])
        | succ k3 =>
         have H := HA.out
         clear HA
         simp only [spec_l01Product.l2] at H
         by_cases c21 : x9_3 < 4
         ·rw [if_pos c21] at H
          have c21b0 : decide (x9_3 < 4) = true := decide_eq_true c21
          clear c21
          by_cases c22 : 0 ≤ x6_1
          ·rw [if_pos c22] at H
           have c22b0 : decide (0 ≤ x6_1) = true := decide_eq_true c22
           clear c22
           by_cases c23 : x6_1 < (l0_1.length : Int)
           ·rw [if_pos c23] at H
            have c23b0 : decide (x6_1 < (l0_1.length : Int)) = true := decide_eq_true c23
            clear c23
            by_cases c24 : x9_3 = 0
            ·subst c24
             have H1 : (if 0 ≤ x7_2 then (if x7_2 < (l1_1.length : Int) then (spec_l01Product.l2 k3 x5_2 x6_1 x7_2 (wrap64 (0 + 1)) a0_0 l0_1 a1_0 l1_1 (wrap64 ((wrap64 (((rd_T45 l0_1 x6_1).f0) * a1_0)) + ((rd_T45 l1_1 x7_2).f0))) x1154001_3 x1154002_3 x1154003_3) else (none)) else (none)) = some (r1, r2) := by rw [if_pos rfl] at H; exact H
             clear H
             have H := H1
             clear H1
             by_cases c25 : 0 ≤ x7_2
             ·rw [if_pos c25] at H
              have c25b0 : decide (0 ≤ x7_2) = true := decide_eq_true c25
              clear c25
              by_cases c26 : x7_2 < (l1_1.length : Int)
              ·rw [if_pos c26] at H
               have c26b0 : decide (x7_2 < (l1_1.length : Int)) = true := decide_eq_true c26
               clear c26
               have H' := Aside0.mk H
               clear H
               try go_wp2
               have n0_ := Aside0.mk (Kd.R_drew HO_5.out)
               have n1_ := Aside0.mk (blk_drew BK1143.out)
               have n2_ := Aside0.mk (blk_drew BK1144.out)
               have n3_ := Aside0.mk (blk_drew BK1145.out)
               have n4_ := Aside0.mk (blk_drew BK1153.out)
               have n5_ := Aside0.mk (below_drew1 HB.out)
               clear HO_5
               clear BK1143
               clear BK1144
               clear BK1145
               clear BK1153
               clear HB
               have HO_5 := n0_
               have BK1143 := n1_
               have BK1144 := n2_
               have BK1145 := n3_
               have BK1153 := n4_
               have HB := n5_
               clear n0_ n1_ n2_ n3_ n4_ n5_
               have p1154 : 0 ≤ (x6_1 : Int) := of_decide_eq_true (by first | (with_reducible assumption) | assumption)
               have q1154 : x6_1 < (l0_1.length : Int) := of_decide_eq_true (by first | (with_reducible assumption) | assumption)
               obtain ⟨ad1154, e1154, hx1154_0, hx1154_1, hx1154_2, hx1154_3⟩ := at_T45 HR0_1.out x6_1 p1154 q1154
               have hw1154_3 := hx1154_3
               have hw1154_2 := hx1154_2
               have hw1154_1 := hx1154_1
               have hw1154_0 := hx1154_0
               cases e1154
               replace hx1154_0 := (HB.out.cell (World.block_lt_of_cell? w _ hx1154_0)).trans hx1154_0
               replace hx1154_1 := (HB.out.cell (World.block_lt_of_cell? w _ hx1154_1)).trans hx1154_1
               replace hx1154_2 := (HB.out.cell (World.block_lt_of_cell? w _ hx1154_2)).trans hx1154_2
               replace hx1154_3 := (HB.out.cell (World.block_lt_of_cell? w _ hx1154_3)).trans hx1154_3
               replace p1154 := eq_true p1154
               replace q1154 := eq_true q1154
               have p1155 : 0 ≤ (x7_2 : Int) := of_decide_eq_true (by first | (with_reducible assumption) | assumption)
               have q1155 : x7_2 < (l1_1.length : Int) := of_decide_eq_true (by first | (with_reducible assumption) | assumption)
               obtain ⟨ad1155, e1155, hx1155_0, hx1155_1, hx1155_2, hx1155_3⟩ := at_T45 HR1_1.out x7_2 p1155 q1155
               have hw1155_3 := hx1155_3
               have hw1155_2 := hx1155_2
               have hw1155_1 := hx1155_1
               have hw1155_0 := hx1155_0
               cases e1155
               replace hx1155_0 := (HB.out.cell (World.block_lt_of_cell? w _ hx1155_0)).trans hx1155_0
               replace hx1155_1 := (HB.out.cell (World.block_lt_of_cell? w _ hx1155_1)).trans hx1155_1
               replace hx1155_2 := (HB.out.cell (World.block_lt_of_cell? w _ hx1155_2)).trans hx1155_2
               replace hx1155_3 := (HB.out.cell (World.block_lt_of_cell? w _ hx1155_3)).trans hx1155_3
               replace p1155 := eq_true p1155
               replace q1155 := eq_true q1155
               refine start_ (n := 21) (S := fun w' => w'.cell? ⟨gb1143, 0, none⟩ = some (.int .i64 a0_0) ∧ w'.cell? ⟨gb1143, 1, none⟩ = some (.slice (some ad1154) l0_1.length c0_1) ∧ w'.cell? ⟨gb1144, 0, none⟩ = some (.int .i64 a1_0) ∧ w'.cell? ⟨gb1144, 1, none⟩ = some (.slice (some ad1155) l1_1.length c1_1) ∧ w'.cell? (ad1154.add ((x6_1).toNat * 4)) = some (.int .i64 ((rd_T45 l0_1 x6_1).f0)) ∧ w'.cell? ⟨(ad1154.add ((x6_1).toNat * 4)).block, (ad1154.add ((x6_1).toNat * 4)).off + 1, none⟩ = some (.int .i64 ((rd_T45 l0_1 x6_1).f1)) ∧ w'.cell? ⟨(ad1154.add ((x6_1).toNat * 4)).block, (ad1154.add ((x6_1).toNat * 4)).off + 2, none⟩ = some (.int .i64 ((rd_T45 l0_1 x6_1).f2)) ∧ w'.cell? ⟨(ad1154.add ((x6_1).toNat * 4)).block, (ad1154.add ((x6_1).toNat * 4)).off + 3, none⟩ = some (.int .i64 ((rd_T45 l0_1 x6_1).f3)) ∧ w'.cell? (ad1155.add ((x7_2).toNat * 4)) = some (.int .i64 ((rd_T45 l1_1 x7_2).f0)) ∧ w'.cell? ⟨(ad1155.add ((x7_2).toNat * 4)).block, (ad1155.add ((x7_2).toNat * 4)).off + 1, none⟩ = some (.int .i64 ((rd_T45 l1_1 x7_2).f1)) ∧ w'.cell? ⟨(ad1155.add ((x7_2).toNat * 4)).block, (ad1155.add ((x7_2).toNat * 4)).off + 2, none⟩ = some (.int .i64 ((rd_T45 l1_1 x7_2).f2)) ∧ w'.cell? ⟨(ad1155.add ((x7_2).toNat * 4)).block, (ad1155.add ((x7_2).toNat * 4)).off + 3, none⟩ = some (.int .i64 ((rd_T45 l1_1 x7_2).f3))) (ds := []) #[false, false, false, false, false, false, false, false, false, false, false, false, false, false, false, false, false, false, false, false, false] (by kernel_rfl) rfl rfl ⟨(blk_cell BK1143.out 0).trans rfl, (blk_cell BK1143.out 1).trans rfl, (blk_cell BK1144.out 0).trans rfl, (blk_cell BK1144.out 1).trans rfl, ((HB.out.cell (World.block_lt_of_cell? w _ hw1154_0)).trans hw1154_0), ((HB.out.cell (World.block_lt_of_cell? w _ hw1154_1)).trans hw1154_1), ((HB.out.cell (World.block_lt_of_cell? w _ hw1154_2)).trans hw1154_2), ((HB.out.cell (World.block_lt_of_cell? w _ hw1154_3)).trans hw1154_3), ((HB.out.cell (World.block_lt_of_cell? w _ hw1155_0)).trans hw1155_0), ((HB.out.cell (World.block_lt_of_cell? w _ hw1155_1)).trans hw1155_1), ((HB.out.cell (World.block_lt_of_cell? w _ hw1155_2)).trans hw1155_2), ((HB.out.cell (World.block_lt_of_cell? w _ hw1155_3)).trans hw1155_3)⟩ (fun hHeld => ?_); refine with_tabW spec_l01Product.tab12 spec_l01Product.bits12 (fun HT_ HW_ => ?_)
               generalize wr.drew = w27 at HO_5 BK1143 BK1144 BK1145 BK1153 HB hx1154_0 hx1154_1 hx1154_2 hx1154_3 hx1155_0 hx1155_1 hx1155_2 hx1155_3 hHeld ⊢
               refine pure_ (i := 0) (N := some 30) (v := ?_) (a' := ?_) #[true, false, false, false, false, false, false, false, false, false, false, false, false, false, false, false, false, false, false, false, false] rfl rfl (any_of HT_.out (by kernel_rfl)) (fun _ _ _ h => h) (Or.inl ⟨by rfl, ?_⟩) ?_ ?_
               rotate_left
               ·intro w'
                go_simp
                with_reducible rfl
               rotate_left
               ·simp only [Act.put, List.setIfInBounds_toArray, List.set_cons_zero, List.set_cons_succ, i64_w, i32_w]
                rfl
               refine pure_ (i := 1) (N := some 31) (v := ?_) (a' := ?_) #[true, true, false, false, false, false, false, false, false, false, false, false, false, false, false, false, false, false, false, false, false] rfl rfl (any_of HT_.out (by kernel_rfl)) (fun _ _ _ h => h) (Or.inl ⟨by rfl, ?_⟩) ?_ ?_
               rotate_left
               ·intro w'
                go_simp
                with_reducible rfl
               rotate_left
               ·simp only [Act.put, List.setIfInBounds_toArray, List.set_cons_zero, List.set_cons_succ, i64_w, i32_w]
                rfl
               refine pure_ (i := 3) (N := some 33) (v := ?_) (a' := ?_) #[true, true, false, true, false, false, false, false, false, false, false, false, false, false, false, false, false, false, false, false, false] rfl rfl (any_of HT_.out (by kernel_rfl)) (fun _ _ _ h => h) (Or.inl ⟨by rfl, ?_⟩) ?_ ?_
               rotate_left
               ·intro w'
                go_simp
                with_reducible rfl
               rotate_left
               ·simp only [Act.put, List.setIfInBounds_toArray, List.set_cons_zero, List.set_cons_succ, i64_w, i32_w]
                rfl
               refine pure_ (i := 4) (N := some 34) (v := ?_) (a' := ?_) #[true, true, false, true, true, false, false, false, false, false, false, false, false, false, false, false, false, false, false, false, false] rfl rfl (any_of HT_.out (by kernel_rfl)) (fun _ _ _ h => h) (Or.inl ⟨by rfl, ?_⟩) ?_ ?_
               rotate_left
               ·intro w'
                go_simp
                with_reducible rfl
               rotate_left
               ·simp only [Act.put, List.setIfInBounds_toArray, List.set_cons_zero, List.set_cons_succ, i64_w, i32_w]
                rfl
               refine pure_ (i := 8) (N := some 38) (v := ?_) (a' := ?_) #[true, true, false, true, true, false, false, false, true, false, false, false, false, false, false, false, false, false, false, false, false] rfl rfl (any_of HT_.out (by kernel_rfl)) (fun _ _ _ h => h) (Or.inl ⟨by rfl, ?_⟩) ?_ ?_
               rotate_left
               ·intro w'
                go_simp
                with_reducible rfl
               rotate_left
               ·simp only [Act.put, List.setIfInBounds_toArray, List.set_cons_zero, List.set_cons_succ, i64_w, i32_w]
                rfl
               refine pure_ (i := 11) (N := some 41) (v := ?_) (a' := ?_) #[true, true, false, true, true, false, false, false, true, false, false, true, false, false, false, false, false, false, false, false, false] rfl rfl (any_of HT_.out (by kernel_rfl)) (fun _ _ _ h => h) (Or.inl ⟨by rfl, ?_⟩) ?_ ?_
               rotate_left
               ·intro w'
                go_simp
                with_reducible rfl
               rotate_left
               ·simp only [Act.put, List.setIfInBounds_toArray, List.set_cons_zero, List.set_cons_succ, i64_w, i32_w]
                rfl
               refine pure_ (i := 13) (N := some 43) (v := ?_) (a' := ?_) #[true, true, false, true, true, false, false, false, true, false, false, true, false, true, false, false, false, false, false, false, false] rfl rfl (any_of HT_.out (by kernel_rfl)) (fun _ _ _ h => h) (Or.inl ⟨by rfl, ?_⟩) ?_ ?_
               rotate_left
               ·intro w'
                go_simp
                with_reducible rfl
               rotate_left
               ·simp only [Act.put, List.setIfInBounds_toArray, List.set_cons_zero, List.set_cons_succ, i64_w, i32_w]
                rfl
               refine pure_ (i := 14) (N := some 44) (v := ?_) (a' := ?_) #[true, true, false, true, true, false, false, false, true, false, false, true, false, true, true, false, false, false, false, false, false] rfl rfl (any_of HT_.out (by kernel_rfl)) (fun _ _ _ h => h) (Or.inl ⟨by rfl, ?_⟩) ?_ ?_
               rotate_left
               ·intro w'
                go_simp
                with_reducible rfl
               rotate_left
               ·simp only [Act.put, List.setIfInBounds_toArray, List.set_cons_zero, List.set_cons_succ, i64_w, i32_w]
                rfl
               refine take_ (i := 2) (N := some 32) (v := ?_) (a' := ?_) #[true, true, true, true, true, false, false, false, true, false, false, true, false, true, true, false, false, false, false, false, false] rfl rfl (take_ofW HT_.out HW_.out (by kernel_rfl)) (fun _ _ _ h => h) (Or.inl ⟨by rfl, ?_⟩) hHeld ?_ ?_
               rotate_left
               ·rintro w' ⟨s0, s1, s2, s3, s4, s5, s6, s7, s8, s9, s10, s11⟩
                go_simp
                with_reducible rfl
               rotate_left
               ·simp only [Act.put, List.setIfInBounds_toArray, List.set_cons_zero, List.set_cons_succ, i64_w, i32_w]
                rfl
               refine pure_ (i := 5) (N := some 35) (v := ?_) (a' := ?_) #[true, true, true, true, true, true, false, false, true, false, false, true, false, true, true, false, false, false, false, false, false] rfl rfl (any_of HT_.out (by kernel_rfl)) (fun _ _ _ h => h) (Or.inl ⟨by rfl, ?_⟩) ?_ ?_
               rotate_left
               ·intro w'
                go_simp
                with_reducible rfl
               rotate_left
               ·simp only [Act.put, List.setIfInBounds_toArray, List.set_cons_zero, List.set_cons_succ, i64_w, i32_w]
                rfl
               refine pure_ (i := 6) (N := some 36) (v := ?_) (a' := ?_) #[true, true, true, true, true, true, true, false, true, false, false, true, false, true, true, false, false, false, false, false, false] rfl rfl (any_of HT_.out (by kernel_rfl)) (fun _ _ _ h => h) (Or.inl ⟨by rfl, ?_⟩) ?_ ?_
               rotate_left
               ·intro w'
                go_simp
                with_reducible rfl
               rotate_left
               ·simp only [Act.put, List.setIfInBounds_toArray, List.set_cons_zero, List.set_cons_succ, i64_w, i32_w]
                rfl
               refine take_ (i := 7) (N := some 37) (v := ?_) (a' := ?_) #[true, true, true, true, true, true, true, true, true, false, false, true, false, true, true, false, false, false, false, false, false] rfl rfl (take_ofW HT_.out HW_.out (by kernel_rfl)) (fun _ _ _ h => h) (Or.inl ⟨by rfl, ?_⟩) hHeld ?_ ?_
               rotate_left
               ·rintro w' ⟨s0, s1, s2, s3, s4, s5, s6, s7, s8, s9, s10, s11⟩
                go_simp
                with_reducible rfl
               rotate_left
               ·simp only [Act.put, List.setIfInBounds_toArray, List.set_cons_zero, List.set_cons_succ, i64_w, i32_w]
                rfl
               refine take_ (i := 9) (N := some 39) (v := ?_) (a' := ?_) #[true, true, true, true, true, true, true, true, true, true, false, true, false, true, true, false, false, false, false, false, false] rfl rfl (take_ofW HT_.out HW_.out (by kernel_rfl)) (fun _ _ _ h => h) (Or.inl ⟨by rfl, ?_⟩) hHeld ?_ ?_
               rotate_left
               ·rintro w' ⟨s0, s1, s2, s3, s4, s5, s6, s7, s8, s9, s10, s11⟩
                go_simp
                with_reducible rfl
               rotate_left
               ·simp only [Act.put, List.setIfInBounds_toArray, List.set_cons_zero, List.set_cons_succ, i64_w, i32_w]
                rfl
               refine pure_ (i := 10) (N := some 40) (v := ?_) (a' := ?_) #[true, true, true, true, true, true, true, true, true, true, true, true, false, true, true, false, false, false, false, false, false] rfl rfl (any_of HT_.out (by kernel_rfl)) (fun _ _ _ h => h) (Or.inl ⟨by rfl, ?_⟩) ?_ ?_
               rotate_left
               ·intro w'
                go_simp
                with_reducible rfl
               rotate_left
               ·simp only [Act.put, List.setIfInBounds_toArray, List.set_cons_zero, List.set_cons_succ, i64_w, i32_w]
                rfl
               refine take_ (i := 12) (N := some 42) (v := ?_) (a' := ?_) #[true, true, true, true, true, true, true, true, true, true, true, true, true, true, true, false, false, false, false, false, false] rfl rfl (take_ofW HT_.out HW_.out (by kernel_rfl)) (fun _ _ _ h => h) (Or.inl ⟨by rfl, ?_⟩) hHeld ?_ ?_
               rotate_left
               ·rintro w' ⟨s0, s1, s2, s3, s4, s5, s6, s7, s8, s9, s10, s11⟩
                go_simp
                with_reducible rfl
               rotate_left
               ·simp only [Act.put, List.setIfInBounds_toArray, List.set_cons_zero, List.set_cons_succ, i64_w, i32_w]
                rfl
               refine pure_ (i := 15) (N := some 45) (v := ?_) (a' := ?_) #[true, true, true, true, true, true, true, true, true, true, true, true, true, true, true, true, false, false, false, false, false] rfl rfl (any_of HT_.out (by kernel_rfl)) (fun _ _ _ h => h) (Or.inl ⟨by rfl, ?_⟩) ?_ ?_
               rotate_left
               ·intro w'
                go_simp
                with_reducible rfl
               rotate_left
               ·simp only [Act.put, List.setIfInBounds_toArray, List.set_cons_zero, List.set_cons_succ, i64_w, i32_w]
                rfl
               refine pure_ (i := 16) (N := some 46) (v := ?_) (a' := ?_) #[true, true, true, true, true, true, true, true, true, true, true, true, true, true, true, true, true, false, false, false, false] rfl rfl (any_of HT_.out (by kernel_rfl)) (fun _ _ _ h => h) (Or.inl ⟨by rfl, ?_⟩) ?_ ?_
               rotate_left
               ·intro w'
                go_simp
                with_reducible rfl
               rotate_left
               ·simp only [Act.put, List.setIfInBounds_toArray, List.set_cons_zero, List.set_cons_succ, i64_w, i32_w]
                rfl
               refine take_ (i := 17) (N := some 47) (v := ?_) (a' := ?_) #[true, true, true, true, true, true, true, true, true, true, true, true, true, true, true, true, true, true, false, false, false] rfl rfl (take_ofW HT_.out HW_.out (by kernel_rfl)) (fun _ _ _ h => h) (Or.inl ⟨by rfl, ?_⟩) hHeld ?_ ?_
               rotate_left
               ·rintro w' ⟨s0, s1, s2, s3, s4, s5, s6, s7, s8, s9, s10, s11⟩
                go_simp
                with_reducible rfl
               rotate_left
               ·simp only [Act.put, List.setIfInBounds_toArray, List.set_cons_zero, List.set_cons_succ, i64_w, i32_w]
                rfl
               refine pure_ (i := 18) (N := some 48) (v := ?_) (a' := ?_) #[true, true, true, true, true, true, true, true, true, true, true, true, true, true, true, true, true, true, true, false, false] rfl rfl (any_of HT_.out (by kernel_rfl)) (fun _ _ _ h => h) (Or.inl ⟨by rfl, ?_⟩) ?_ ?_
               rotate_left
               ·intro w'
                go_simp
                with_reducible rfl
               rotate_left
               ·simp only [Act.put, List.setIfInBounds_toArray, List.set_cons_zero, List.set_cons_succ, i64_w, i32_w]
                rfl
               refine pure_ (i := 19) (N := some 49) (v := ?_) (a' := ?_) #[true, true, true, true, true, true, true, true, true, true, true, true, true, true, true, true, true, true, true, true, false] rfl rfl (any_of HT_.out (by kernel_rfl)) (fun _ _ _ h => h) (Or.inl ⟨by rfl, ?_⟩) ?_ ?_
               rotate_left
               ·intro w'
                go_simp
                with_reducible rfl
               rotate_left
               ·simp only [Act.put, List.setIfInBounds_toArray, List.set_cons_zero, List.set_cons_succ, i64_w, i32_w]
                rfl
               refine one_ (i := 20) (N := none) #[true, true, true, true, true, true, true, true, true, true, true, true, true, true, true, true, true, true, true, true, true] rfl rfl (one_of HT_.out (by kernel_rfl)) (by decide) (fun K hK => ?_)
               have hs28 : w27.cell? ⟨gb1153, 0, none⟩ = some (.int .i64 x1154000_3) := (blk_cell BK1153.out 0).trans rfl
               have hfs28 := blk_frozen BK1153.out 0
               have hns28_0 := NB1143_1153.out
               have hns28_1 := NB1144_1153.out
               have hns28_2 := NB1145_1153.out
               have hms28_0 := NB1153_1143.out
               have hms28_1 := NB1153_1144.out
               have hms28_2 := NB1153_1145.out
               refine skip_ (w1 := ?_) (by rfl) rfl ?_ ?_
               rotate_left
               ·go_simp
                rfl
               refine hK.out _ _ ⟨((cell_far (p := ⟨gb1153, _, none⟩) NB1143_1153.out _).trans (hHeld.1)), ((cell_far (p := ⟨gb1153, _, none⟩) NB1143_1153.out _).trans (hHeld.2.1)), ((cell_far (p := ⟨gb1153, _, none⟩) NB1144_1153.out _).trans (hHeld.2.2.1)), ((cell_far (p := ⟨gb1153, _, none⟩) NB1144_1153.out _).trans (hHeld.2.2.2.1)), ((cell_far (p := ⟨gb1153, _, none⟩) (by first | exact Nat.ne_of_lt (Nat.lt_of_lt_of_le (by have := World.block_lt_of_cell? _ _ hw1154_0; first | rwa [add_block] at this | exact this) GW1153.out) | (rw [add_block]; exact Nat.ne_of_lt (Nat.lt_of_lt_of_le (by have := World.block_lt_of_cell? _ _ hw1154_0; first | rwa [add_block] at this | exact this) GW1153.out)) | (show (Addr.add _ _).block ≠ _; rw [add_block]; exact Nat.ne_of_lt (Nat.lt_of_lt_of_le (by have := World.block_lt_of_cell? _ _ hw1154_0; first | rwa [add_block] at this | exact this) GW1153.out)) | (dsimp only; exact Nat.ne_of_lt (Nat.lt_of_lt_of_le (by have := World.block_lt_of_cell? _ _ hw1154_0; first | rwa [add_block] at this | exact this) GW1153.out))) _).trans (hHeld.2.2.2.2.1)), ((cell_far (p := ⟨gb1153, _, none⟩) (by first | exact Nat.ne_of_lt (Nat.lt_of_lt_of_le (by have := World.block_lt_of_cell? _ _ hw1154_1; first | rwa [add_block] at this | exact this) GW1153.out) | (rw [add_block]; exact Nat.ne_of_lt (Nat.lt_of_lt_of_le (by have := World.block_lt_of_cell? _ _ hw1154_1; first | rwa [add_block] at this | exact this) GW1153.out)) | (show (Addr.add _ _).block ≠ _; rw [add_block]; exact Nat.ne_of_lt (Nat.lt_of_lt_of_le (by have := World.block_lt_of_cell? _ _ hw1154_1; first | rwa [add_block] at this | exact this) GW1153.out)) | (dsimp only; exact Nat.ne_of_lt (Nat.lt_of_lt_of_le (by have := World.block_lt_of_cell? _ _ hw1154_1; first | rwa [add_block] at this | exact this) GW1153.out))) _).trans (hHeld.2.2.2.2.2.1)), ((cell_far (p := ⟨gb1153, _, none⟩) (by first | exact Nat.ne_of_lt (Nat.lt_of_lt_of_le (by have := World.block_lt_of_cell? _ _ hw1154_2; first | rwa [add_block] at this | exact this) GW1153.out) | (rw [add_block]; exact Nat.ne_of_lt (Nat.lt_of_lt_of_le (by have := World.block_lt_of_cell? _ _ hw1154_2; first | rwa [add_block] at this | exact this) GW1153.out)) | (show (Addr.add _ _).block ≠ _; rw [add_block]; exact Nat.ne_of_lt (Nat.lt_of_lt_of_le (by have := World.block_lt_of_cell? _ _ hw1154_2; first | rwa [add_block] at this | exact this) GW1153.out)) | (dsimp only; exact Nat.ne_of_lt (Nat.lt_of_lt_of_le (by have := World.block_lt_of_cell? _ _ hw1154_2; first | rwa [add_block] at this | exact this) GW1153.out))) _).trans (hHeld.2.2.2.2.2.2.1)), ((cell_far (p := ⟨gb1153, _, none⟩) (by first | exact Nat.ne_of_lt (Nat.lt_of_lt_of_le (by have := World.block_lt_of_cell? _ _ hw1154_3; first | rwa [add_block] at this | exact this) GW1153.out) | (rw [add_block]; exact Nat.ne_of_lt (Nat.lt_of_lt_of_le (by have := World.block_lt_of_cell? _ _ hw1154_3; first | rwa [add_block] at this | exact this) GW1153.out)) | (show (Addr.add _ _).block ≠ _; rw [add_block]; exact Nat.ne_of_lt (Nat.lt_of_lt_of_le (by have := World.block_lt_of_cell? _ _ hw1154_3; first | rwa [add_block] at this | exact this) GW1153.out)) | (dsimp only; exact Nat.ne_of_lt (Nat.lt_of_lt_of_le (by have := World.block_lt_of_cell? _ _ hw1154_3; first | rwa [add_block] at this | exact this) GW1153.out))) _).trans (hHeld.2.2.2.2.2.2.2.1)), ((cell_far (p := ⟨gb1153, _, none⟩) (by first | exact Nat.ne_of_lt (Nat.lt_of_lt_of_le (by have := World.block_lt_of_cell? _ _ hw1155_0; first | rwa [add_block] at this | exact this) GW1153.out) | (rw [add_block]; exact Nat.ne_of_lt (Nat.lt_of_lt_of_le (by have := World.block_lt_of_cell? _ _ hw1155_0; first | rwa [add_block] at this | exact this) GW1153.out)) | (show (Addr.add _ _).block ≠ _; rw [add_block]; exact Nat.ne_of_lt (Nat.lt_of_lt_of_le (by have := World.block_lt_of_cell? _ _ hw1155_0; first | rwa [add_block] at this | exact this) GW1153.out)) | (dsimp only; exact Nat.ne_of_lt (Nat.lt_of_lt_of_le (by have := World.block_lt_of_cell? _ _ hw1155_0; first | rwa [add_block] at this | exact this) GW1153.out))) _).trans (hHeld.2.2.2.2.2.2.2.2.1)), ((cell_far (p := ⟨gb1153, _, none⟩) (by first | exact Nat.ne_of_lt (Nat.lt_of_lt_of_le (by have := World.block_lt_of_cell? _ _ hw1155_1; first | rwa [add_block] at this | exact this) GW1153.out) | (rw [add_block]; exact Nat.ne_of_lt (Nat.lt_of_lt_of_le (by have := World.block_lt_of_cell? _ _ hw1155_1; first | rwa [add_block] at this | exact this) GW1153.out)) | (show (Addr.add _ _).block ≠ _; rw [add_block]; exact Nat.ne_of_lt (Nat.lt_of_lt_of_le (by have := World.block_lt_of_cell? _ _ hw1155_1; first | rwa [add_block] at this | exact this) GW1153.out)) | (dsimp only; exact Nat.ne_of_lt (Nat.lt_of_lt_of_le (by have := World.block_lt_of_cell? _ _ hw1155_1; first | rwa [add_block] at this | exact this) GW1153.out))) _).trans (hHeld.2.2.2.2.2.2.2.2.2.1)), ((cell_far (p := ⟨gb1153, _, none⟩) (by first | exact Nat.ne_of_lt (Nat.lt_of_lt_of_le (by have := World.block_lt_of_cell? _ _ hw1155_2; first | rwa [add_block] at this | exact this) GW1153.out) | (rw [add_block]; exact Nat.ne_of_lt (Nat.lt_of_lt_of_le (by have := World.block_lt_of_cell? _ _ hw1155_2; first | rwa [add_block] at this | exact this) GW1153.out)) | (show (Addr.add _ _).block ≠ _; rw [add_block]; exact Nat.ne_of_lt (Nat.lt_of_lt_of_le (by have := World.block_lt_of_cell? _ _ hw1155_2; first | rwa [add_block] at this | exact this) GW1153.out)) | (dsimp only; exact Nat.ne_of_lt (Nat.lt_of_lt_of_le (by have := World.block_lt_of_cell? _ _ hw1155_2; first | rwa [add_block] at this | exact this) GW1153.out))) _).trans (hHeld.2.2.2.2.2.2.2.2.2.2.1)), ((cell_far (p := ⟨gb1153, _, none⟩) (by first | exact Nat.ne_of_lt (Nat.lt_of_lt_of_le (by have := World.block_lt_of_cell? _ _ hw1155_3; first | rwa [add_block] at this | exact this) GW1153.out) | (rw [add_block]; exact Nat.ne_of_lt (Nat.lt_of_lt_of_le (by have := World.block_lt_of_cell? _ _ hw1155_3; first | rwa [add_block] at this | exact this) GW1153.out)) | (show (Addr.add _ _).block ≠ _; rw [add_block]; exact Nat.ne_of_lt (Nat.lt_of_lt_of_le (by have := World.block_lt_of_cell? _ _ hw1155_3; first | rwa [add_block] at this | exact this) GW1153.out)) | (dsimp only; exact Nat.ne_of_lt (Nat.lt_of_lt_of_le (by have := World.block_lt_of_cell? _ _ hw1155_3; first | rwa [add_block] at this | exact this) GW1153.out))) _).trans (hHeld.2.2.2.2.2.2.2.2.2.2.2))⟩ (fun hHeld => ?_)
               clear hK K
               refine done_ (done_of HT_.out (by kernel_rfl)) ?_
               try go_wp2
               go_roundg k3
               case measure => have := HK1.out; have := HK2.out; have := HK3.out; omega
               case rel => exact ⟨(wrap64 (0 + 1)), (wrap64 ((wrap64 (((rd_T45 l0_1 x6_1).f0) * a1_0)) + ((rd_T45 l1_1 x7_2).f0))), (x1154001_3), (x1154002_3), (x1154003_3), (by first | rfl | (simp; done) | (simp [*]; done) | (simp; decide +kernel)), H', ⟨by have := HK1.out; have := HK2.out; have := HK3.out; omega⟩, ⟨by (with_reducible repeat (first | apply Kd.R_alloc | apply Kd.R_drewN | apply Kd.R_drew)); exact Kd.R_mono (Kd.R_far (p := ⟨gb1153, 0, none⟩) (Kd.R_mono HO_5.out (fun k_ hk => (⟨hk, hk⟩ : _ ∧ k_ ≠ gb1153))) (fun _ hk => hk.2) (.int .i64 (wrap64 ((wrap64 (((rd_T45 l0_1 x6_1).f0) * a1_0)) + ((rd_T45 l1_1 x7_2).f0))))) (fun _ hk => hk.1)⟩, ⟨by (with_reducible repeat (first | refine blk_drewN ?_ _ | refine blk_drew ?_ | refine blk_alloc ?_ _)); refine blk_far ?_ NB1143_1153.out _; (with_reducible repeat (first | refine blk_drewN ?_ _ | refine blk_drew ?_ | refine blk_alloc ?_ _)); exact BK1143.out⟩, ⟨by (with_reducible repeat (first | refine blk_drewN ?_ _ | refine blk_drew ?_ | refine blk_alloc ?_ _)); refine blk_far ?_ NB1144_1153.out _; (with_reducible repeat (first | refine blk_drewN ?_ _ | refine blk_drew ?_ | refine blk_alloc ?_ _)); exact BK1144.out⟩, ⟨by (with_reducible repeat (first | refine blk_drewN ?_ _ | refine blk_drew ?_ | refine blk_alloc ?_ _)); refine blk_far ?_ NB1145_1153.out _; (with_reducible repeat (first | refine blk_drewN ?_ _ | refine blk_drew ?_ | refine blk_alloc ?_ _)); exact BK1145.out⟩, ⟨by (with_reducible repeat (first | refine blk_drewN ?_ _ | refine blk_drew ?_ | refine blk_alloc ?_ _)); refine blk_put (cs := #[.int .i64 x1154000_3, .int .i64 x1154001_3, .int .i64 x1154002_3, .int .i64 x1154003_3]) ?_ 0 _ rfl; (with_reducible repeat (first | refine blk_drewN ?_ _ | refine blk_drew ?_ | refine blk_alloc ?_ _)); exact BK1153.out⟩, ⟨by repeat (first | (with_reducible first | exact HB.out | apply below_alloc | apply pw_below_drewN | apply below_drew1 | refine below_set ?_ GE1143.out | refine below_set ?_ GE1144.out | refine below_set ?_ GE1145.out | refine below_set ?_ GE1153.out) | exact HB.out)⟩⟩
              ·rw [if_neg c26] at H
               exact absurd H (by simp)
             ·rw [if_neg c25] at H
              exact absurd H (by simp)
            ·rw [if_neg c24] at H
             clear c24
             by_cases c29 : x9_3 = 1
             ·subst c29
              have H1 : (if 0 ≤ x7_2 then (if x7_2 < (l1_1.length : Int) then (spec_l01Product.l2 k3 x5_2 x6_1 x7_2 (wrap64 (1 + 1)) a0_0 l0_1 a1_0 l1_1 x1154000_3 (wrap64 ((wrap64 (((rd_T45 l0_1 x6_1).f1) * a1_0)) + ((rd_T45 l1_1 x7_2).f1))) x1154002_3 x1154003_3) else (none)) else (none)) = some (r1, r2) := by rw [if_pos rfl] at H; exact H
              clear H
              have H := H1
              clear H1
              by_cases c30 : 0 ≤ x7_2
              ·rw [if_pos c30] at H
               have c30b0 : decide (0 ≤ x7_2) = true := decide_eq_true c30
               clear c30
               by_cases c31 : x7_2 < (l1_1.length : Int)
               ·rw [if_pos c31] at H
                have c31b0 : decide (x7_2 < (l1_1.length : Int)) = true := decide_eq_true c31
                clear c31
                have H' := Aside0.mk H
                clear H
                try go_wp2
                have n0_ := Aside0.mk (Kd.R_drew HO_5.out)
                have n1_ := Aside0.mk (blk_drew BK1143.out)
                have n2_ := Aside0.mk (blk_drew BK1144.out)
                have n3_ := Aside0.mk (blk_drew BK1145.out)
                have n4_ := Aside0.mk (blk_drew BK1153.out)
                have n5_ := Aside0.mk (below_drew1 HB.out)
                clear HO_5
                clear BK1143
                clear BK1144
                clear BK1145
                clear BK1153
                clear HB
                have HO_5 := n0_
                have BK1143 := n1_
                have BK1144 := n2_
                have BK1145 := n3_
                have BK1153 := n4_
                have HB := n5_
                clear n0_ n1_ n2_ n3_ n4_ n5_
                have p1154 : 0 ≤ (x6_1 : Int) := of_decide_eq_true (by first | (with_reducible assumption) | assumption)
                have q1154 : x6_1 < (l0_1.length : Int) := of_decide_eq_true (by first | (with_reducible assumption) | assumption)
                obtain ⟨ad1154, e1154, hx1154_0, hx1154_1, hx1154_2, hx1154_3⟩ := at_T45 HR0_1.out x6_1 p1154 q1154
                have hw1154_3 := hx1154_3
                have hw1154_2 := hx1154_2
                have hw1154_1 := hx1154_1
                have hw1154_0 := hx1154_0
                cases e1154
                replace hx1154_0 := (HB.out.cell (World.block_lt_of_cell? w _ hx1154_0)).trans hx1154_0
                replace hx1154_1 := (HB.out.cell (World.block_lt_of_cell? w _ hx1154_1)).trans hx1154_1
                replace hx1154_2 := (HB.out.cell (World.block_lt_of_cell? w _ hx1154_2)).trans hx1154_2
                replace hx1154_3 := (HB.out.cell (World.block_lt_of_cell? w _ hx1154_3)).trans hx1154_3
                replace p1154 := eq_true p1154
                replace q1154 := eq_true q1154
                have p1156 : 0 ≤ (x7_2 : Int) := of_decide_eq_true (by first | (with_reducible assumption) | assumption)
                have q1156 : x7_2 < (l1_1.length : Int) := of_decide_eq_true (by first | (with_reducible assumption) | assumption)
                obtain ⟨ad1156, e1156, hx1156_0, hx1156_1, hx1156_2, hx1156_3⟩ := at_T45 HR1_1.out x7_2 p1156 q1156
                have hw1156_3 := hx1156_3
                have hw1156_2 := hx1156_2
                have hw1156_1 := hx1156_1
                have hw1156_0 := hx1156_0
                cases e1156
                replace hx1156_0 := (HB.out.cell (World.block_lt_of_cell? w _ hx1156_0)).trans hx1156_0
                replace hx1156_1 := (HB.out.cell (World.block_lt_of_cell? w _ hx1156_1)).trans hx1156_1
                replace hx1156_2 := (HB.out.cell (World.block_lt_of_cell? w _ hx1156_2)).trans hx1156_2
                replace hx1156_3 := (HB.out.cell (World.block_lt_of_cell? w _ hx1156_3)).trans hx1156_3
                replace p1156 := eq_true p1156
                replace q1156 := eq_true q1156
                refine start_ (n := 21) (S := fun w' => w'.cell? ⟨gb1143, 0, none⟩ = some (.int .i64 a0_0) ∧ w'.cell? ⟨gb1143, 1, none⟩ = some (.slice (some ad1154) l0_1.length c0_1) ∧ w'.cell? ⟨gb1144, 0, none⟩ = some (.int .i64 a1_0) ∧ w'.cell? ⟨gb1144, 1, none⟩ = some (.slice (some ad1156) l1_1.length c1_1) ∧ w'.cell? (ad1154.add ((x6_1).toNat * 4)) = some (.int .i64 ((rd_T45 l0_1 x6_1).f0)) ∧ w'.cell? ⟨(ad1154.add ((x6_1).toNat * 4)).block, (ad1154.add ((x6_1).toNat * 4)).off + 1, none⟩ = some (.int .i64 ((rd_T45 l0_1 x6_1).f1)) ∧ w'.cell? ⟨(ad1154.add ((x6_1).toNat * 4)).block, (ad1154.add ((x6_1).toNat * 4)).off + 2, none⟩ = some (.int .i64 ((rd_T45 l0_1 x6_1).f2)) ∧ w'.cell? ⟨(ad1154.add ((x6_1).toNat * 4)).block, (ad1154.add ((x6_1).toNat * 4)).off + 3, none⟩ = some (.int .i64 ((rd_T45 l0_1 x6_1).f3)) ∧ w'.cell? (ad1156.add ((x7_2).toNat * 4)) = some (.int .i64 ((rd_T45 l1_1 x7_2).f0)) ∧ w'.cell? ⟨(ad1156.add ((x7_2).toNat * 4)).block, (ad1156.add ((x7_2).toNat * 4)).off + 1, none⟩ = some (.int .i64 ((rd_T45 l1_1 x7_2).f1)) ∧ w'.cell? ⟨(ad1156.add ((x7_2).toNat * 4)).block, (ad1156.add ((x7_2).toNat * 4)).off + 2, none⟩ = some (.int .i64 ((rd_T45 l1_1 x7_2).f2)) ∧ w'.cell? ⟨(ad1156.add ((x7_2).toNat * 4)).block, (ad1156.add ((x7_2).toNat * 4)).off + 3, none⟩ = some (.int .i64 ((rd_T45 l1_1 x7_2).f3))) (ds := []) #[false, false, false, false, false, false, false, false, false, false, false, false, false, false, false, false, false, false, false, false, false] (by kernel_rfl) rfl rfl ⟨(blk_cell BK1143.out 0).trans rfl, (blk_cell BK1143.out 1).trans rfl, (blk_cell BK1144.out 0).trans rfl, (blk_cell BK1144.out 1).trans rfl, ((HB.out.cell (World.block_lt_of_cell? w _ hw1154_0)).trans hw1154_0), ((HB.out.cell (World.block_lt_of_cell? w _ hw1154_1)).trans hw1154_1), ((HB.out.cell (World.block_lt_of_cell? w _ hw1154_2)).trans hw1154_2), ((HB.out.cell (World.block_lt_of_cell? w _ hw1154_3)).trans hw1154_3), ((HB.out.cell (World.block_lt_of_cell? w _ hw1156_0)).trans hw1156_0), ((HB.out.cell (World.block_lt_of_cell? w _ hw1156_1)).trans hw1156_1), ((HB.out.cell (World.block_lt_of_cell? w _ hw1156_2)).trans hw1156_2), ((HB.out.cell (World.block_lt_of_cell? w _ hw1156_3)).trans hw1156_3)⟩ (fun hHeld => ?_); refine with_tabW spec_l01Product.tab12 spec_l01Product.bits12 (fun HT_ HW_ => ?_)
                generalize wr.drew = w32 at HO_5 BK1143 BK1144 BK1145 BK1153 HB hx1154_0 hx1154_1 hx1154_2 hx1154_3 hx1156_0 hx1156_1 hx1156_2 hx1156_3 hHeld ⊢
                refine pure_ (i := 0) (N := some 30) (v := ?_) (a' := ?_) #[true, false, false, false, false, false, false, false, false, false, false, false, false, false, false, false, false, false, false, false, false] rfl rfl (any_of HT_.out (by kernel_rfl)) (fun _ _ _ h => h) (Or.inl ⟨by rfl, ?_⟩) ?_ ?_
                rotate_left
                ·intro w'
                 go_simp
                 with_reducible rfl
                rotate_left
                ·simp only [Act.put, List.setIfInBounds_toArray, List.set_cons_zero, List.set_cons_succ, i64_w, i32_w]
                 rfl
                refine pure_ (i := 1) (N := some 31) (v := ?_) (a' := ?_) #[true, true, false, false, false, false, false, false, false, false, false, false, false, false, false, false, false, false, false, false, false] rfl rfl (any_of HT_.out (by kernel_rfl)) (fun _ _ _ h => h) (Or.inl ⟨by rfl, ?_⟩) ?_ ?_
                rotate_left
                ·intro w'
                 go_simp
                 with_reducible rfl
                rotate_left
                ·simp only [Act.put, List.setIfInBounds_toArray, List.set_cons_zero, List.set_cons_succ, i64_w, i32_w]
                 rfl
                refine pure_ (i := 3) (N := some 33) (v := ?_) (a' := ?_) #[true, true, false, true, false, false, false, false, false, false, false, false, false, false, false, false, false, false, false, false, false] rfl rfl (any_of HT_.out (by kernel_rfl)) (fun _ _ _ h => h) (Or.inl ⟨by rfl, ?_⟩) ?_ ?_
                rotate_left
                ·intro w'
                 go_simp
                 with_reducible rfl
                rotate_left
                ·simp only [Act.put, List.setIfInBounds_toArray, List.set_cons_zero, List.set_cons_succ, i64_w, i32_w]
                 rfl
                refine pure_ (i := 4) (N := some 34) (v := ?_) (a' := ?_) #[true, true, false, true, true, false, false, false, false, false, false, false, false, false, false, false, false, false, false, false, false] rfl rfl (any_of HT_.out (by kernel_rfl)) (fun _ _ _ h => h) (Or.inl ⟨by rfl, ?_⟩) ?_ ?_
                rotate_left
                ·intro w'
                 go_simp
                 with_reducible rfl
                rotate_left
                ·simp only [Act.put, List.setIfInBounds_toArray, List.set_cons_zero, List.set_cons_succ, i64_w, i32_w]
                 rfl
                refine pure_ (i := 8) (N := some 38) (v := ?_) (a' := ?_) #[true, true, false, true, true, false, false, false, true, false, false, false, false, false, false, false, false, false, false, false, false] rfl rfl (any_of HT_.out (by kernel_rfl)) (fun _ _ _ h => h) (Or.inl ⟨by rfl, ?_⟩) ?_ ?_
                rotate_left
                ·intro w'
                 go_simp
                 with_reducible rfl
                rotate_left
                ·simp only [Act.put, List.setIfInBounds_toArray, List.set_cons_zero, List.set_cons_succ, i64_w, i32_w]
                 rfl
                refine pure_ (i := 11) (N := some 41) (v := ?_) (a' := ?_) #[true, true, false, true, true, false, false, false, true, false, false, true, false, false, false, false, false, false, false, false, false] rfl rfl (any_of HT_.out (by kernel_rfl)) (fun _ _ _ h => h) (Or.inl ⟨by rfl, ?_⟩) ?_ ?_
                rotate_left
                ·intro w'
                 go_simp
                 with_reducible rfl
                rotate_left
                ·simp only [Act.put, List.setIfInBounds_toArray, List.set_cons_zero, List.set_cons_succ, i64_w, i32_w]
                 rfl
                refine pure_ (i := 13) (N := some 43) (v := ?_) (a' := ?_) #[true, true, false, true, true, false, false, false, true, false, false, true, false, true, false, false, false, false, false, false, false] rfl rfl (any_of HT_.out (by kernel_rfl)) (fun _ _ _ h => h) (Or.inl ⟨by rfl, ?_⟩) ?_ ?_
                rotate_left
                ·intro w'
                 go_simp
                 with_reducible rfl
                rotate_left
                ·simp only [Act.put, List.setIfInBounds_toArray, List.set_cons_zero, List.set_cons_succ, i64_w, i32_w]
                 rfl
                refine pure_ (i := 14) (N := some 44) (v := ?_) (a' := ?_) #[true, true, false, true, true, false, false, false, true, false, false, true, false, true, true, false, false, false, false, false, false] rfl rfl (any_of HT_.out (by kernel_rfl)) (fun _ _ _ h => h) (Or.inl ⟨by rfl, ?_⟩) ?_ ?_
                rotate_left
                ·intro w'
                 go_simp
                 with_reducible rfl
                rotate_left
                ·simp only [Act.put, List.setIfInBounds_toArray, List.set_cons_zero, List.set_cons_succ, i64_w, i32_w]
                 rfl
                refine take_ (i := 2) (N := some 32) (v := ?_) (a' := ?_) #[true, true, true, true, true, false, false, false, true, false, false, true, false, true, true, false, false, false, false, false, false] rfl rfl (take_ofW HT_.out HW_.out (by kernel_rfl)) (fun _ _ _ h => h) (Or.inl ⟨by rfl, ?_⟩) hHeld ?_ ?_
                rotate_left
                ·rintro w' ⟨s0, s1, s2, s3, s4, s5, s6, s7, s8, s9, s10, s11⟩
                 go_simp
                 with_reducible rfl
                rotate_left
                ·simp only [Act.put, List.setIfInBounds_toArray, List.set_cons_zero, List.set_cons_succ, i64_w, i32_w]
                 rfl
                refine pure_ (i := 5) (N := some 35) (v := ?_) (a' := ?_) #[true, true, true, true, true, true, false, false, true, false, false, true, false, true, true, false, false, false, false, false, false] rfl rfl (any_of HT_.out (by kernel_rfl)) (fun _ _ _ h => h) (Or.inl ⟨by rfl, ?_⟩) ?_ ?_
                rotate_left
                ·intro w'
                 go_simp
                 with_reducible rfl
                rotate_left
                ·simp only [Act.put, List.setIfInBounds_toArray, List.set_cons_zero, List.set_cons_succ, i64_w, i32_w]
                 rfl
                refine pure_ (i := 6) (N := some 36) (v := ?_) (a' := ?_) #[true, true, true, true, true, true, true, false, true, false, false, true, false, true, true, false, false, false, false, false, false] rfl rfl (any_of HT_.out (by kernel_rfl)) (fun _ _ _ h => h) (Or.inl ⟨by rfl, ?_⟩) ?_ ?_
                rotate_left
                ·intro w'
                 go_simp
                 with_reducible rfl
                rotate_left
                ·simp only [Act.put, List.setIfInBounds_toArray, List.set_cons_zero, List.set_cons_succ, i64_w, i32_w]
                 rfl
                refine take_ (i := 7) (N := some 37) (v := ?_) (a' := ?_) #[true, true, true, true, true, true, true, true, true, false, false, true, false, true, true, false, false, false, false, false, false] rfl rfl (take_ofW HT_.out HW_.out (by kernel_rfl)) (fun _ _ _ h => h) (Or.inl ⟨by rfl, ?_⟩) hHeld ?_ ?_
                rotate_left
                ·rintro w' ⟨s0, s1, s2, s3, s4, s5, s6, s7, s8, s9, s10, s11⟩
                 go_simp
                 with_reducible rfl
                rotate_left
                ·simp only [Act.put, List.setIfInBounds_toArray, List.set_cons_zero, List.set_cons_succ, i64_w, i32_w]
                 rfl
                refine take_ (i := 9) (N := some 39) (v := ?_) (a' := ?_) #[true, true, true, true, true, true, true, true, true, true, false, true, false, true, true, false, false, false, false, false, false] rfl rfl (take_ofW HT_.out HW_.out (by kernel_rfl)) (fun _ _ _ h => h) (Or.inl ⟨by rfl, ?_⟩) hHeld ?_ ?_
                rotate_left
                ·rintro w' ⟨s0, s1, s2, s3, s4, s5, s6, s7, s8, s9, s10, s11⟩
                 go_simp
                 with_reducible rfl
                rotate_left
                ·simp only [Act.put, List.setIfInBounds_toArray, List.set_cons_zero, List.set_cons_succ, i64_w, i32_w]
                 rfl
                refine pure_ (i := 10) (N := some 40) (v := ?_) (a' := ?_) #[true, true, true, true, true, true, true, true, true, true, true, true, false, true, true, false, false, false, false, false, false] rfl rfl (any_of HT_.out (by kernel_rfl)) (fun _ _ _ h => h) (Or.inl ⟨by rfl, ?_⟩) ?_ ?_
                rotate_left
                ·intro w'
                 go_simp
                 with_reducible rfl
                rotate_left
                ·simp only [Act.put, List.setIfInBounds_toArray, List.set_cons_zero, List.set_cons_succ, i64_w, i32_w]
                 rfl
                refine take_ (i := 12) (N := some 42) (v := ?_) (a' := ?_) #[true, true, true, true, true, true, true, true, true, true, true, true, true, true, true, false, false, false, false, false, false] rfl rfl (take_ofW HT_.out HW_.out (by kernel_rfl)) (fun _ _ _ h => h) (Or.inl ⟨by rfl, ?_⟩) hHeld ?_ ?_
                rotate_left
                ·rintro w' ⟨s0, s1, s2, s3, s4, s5, s6, s7, s8, s9, s10, s11⟩
                 go_simp
                 with_reducible rfl
                rotate_left
                ·simp only [Act.put, List.setIfInBounds_toArray, List.set_cons_zero, List.set_cons_succ, i64_w, i32_w]
                 rfl
                refine pure_ (i := 15) (N := some 45) (v := ?_) (a' := ?_) #[true, true, true, true, true, true, true, true, true, true, true, true, true, true, true, true, false, false, false, false, false] rfl rfl (any_of HT_.out (by kernel_rfl)) (fun _ _ _ h => h) (Or.inl ⟨by rfl, ?_⟩) ?_ ?_
                rotate_left
                ·intro w'
                 go_simp
                 with_reducible rfl
                rotate_left
                ·simp only [Act.put, List.setIfInBounds_toArray, List.set_cons_zero, List.set_cons_succ, i64_w, i32_w]
                 rfl
                refine pure_ (i := 16) (N := some 46) (v := ?_) (a' := ?_) #[true, true, true, true, true, true, true, true, true, true, true, true, true, true, true, true, true, false, false, false, false] rfl rfl (any_of HT_.out (by kernel_rfl)) (fun _ _ _ h => h) (Or.inl ⟨by rfl, ?_⟩) ?_ ?_
                rotate_left
                ·intro w'
                 go_simp
                 with_reducible rfl
                rotate_left
                ·simp only [Act.put, List.setIfInBounds_toArray, List.set_cons_zero, List.set_cons_succ, i64_w, i32_w]
                 rfl
                refine take_ (i := 17) (N := some 47) (v := ?_) (a' := ?_) #[true, true, true, true, true, true, true, true, true, true, true, true, true, true, true, true, true, true, false, false, false] rfl rfl (take_ofW HT_.out HW_.out (by kernel_rfl)) (fun _ _ _ h => h) (Or.inl ⟨by rfl, ?_⟩) hHeld ?_ ?_
                rotate_left
                ·rintro w' ⟨s0, s1, s2, s3, s4, s5, s6, s7, s8, s9, s10, s11⟩
                 go_simp
                 with_reducible rfl
                rotate_left
                ·simp only [Act.put, List.setIfInBounds_toArray, List.set_cons_zero, List.set_cons_succ, i64_w, i32_w]
                 rfl
                refine pure_ (i := 18) (N := some 48) (v := ?_) (a' := ?_) #[true, true, true, true, true, true, true, true, true, true, true, true, true, true, true, true, true, true, true, false, false] rfl rfl (any_of HT_.out (by kernel_rfl)) (fun _ _ _ h => h) (Or.inl ⟨by rfl, ?_⟩) ?_ ?_
                rotate_left
                ·intro w'
                 go_simp
                 with_reducible rfl
                rotate_left
                ·simp only [Act.put, List.setIfInBounds_toArray, List.set_cons_zero, List.set_cons_succ, i64_w, i32_w]
                 rfl
                refine pure_ (i := 19) (N := some 49) (v := ?_) (a' := ?_) #[true, true, true, true, true, true, true, true, true, true, true, true, true, true, true, true, true, true, true, true, false] rfl rfl (any_of HT_.out (by kernel_rfl)) (fun _ _ _ h => h) (Or.inl ⟨by rfl, ?_⟩) ?_ ?_
                rotate_left
                ·intro w'
                 go_simp
                 with_reducible rfl
                rotate_left
                ·simp only [Act.put, List.setIfInBounds_toArray, List.set_cons_zero, List.set_cons_succ, i64_w, i32_w]
                 rfl
                refine one_ (i := 20) (N := none) #[true, true, true, true, true, true, true, true, true, true, true, true, true, true, true, true, true, true, true, true, true] rfl rfl (one_of HT_.out (by kernel_rfl)) (by decide) (fun K hK => ?_)
                have hs33 : w32.cell? ⟨gb1153, 1, none⟩ = some (.int .i64 x1154001_3) := (blk_cell BK1153.out 1).trans rfl
                have hfs33 := blk_frozen BK1153.out 1
                have hns33_0 := NB1143_1153.out
                have hns33_1 := NB1144_1153.out
                have hns33_2 := NB1145_1153.out
                have hms33_0 := NB1153_1143.out
                have hms33_1 := NB1153_1144.out
                have hms33_2 := NB1153_1145.out
                refine skip_ (w1 := ?_) (by rfl) rfl ?_ ?_
                rotate_left
                ·go_simp
                 rfl
                refine hK.out _ _ ⟨((cell_far (p := ⟨gb1153, _, none⟩) NB1143_1153.out _).trans (hHeld.1)), ((cell_far (p := ⟨gb1153, _, none⟩) NB1143_1153.out _).trans (hHeld.2.1)), ((cell_far (p := ⟨gb1153, _, none⟩) NB1144_1153.out _).trans (hHeld.2.2.1)), ((cell_far (p := ⟨gb1153, _, none⟩) NB1144_1153.out _).trans (hHeld.2.2.2.1)), ((cell_far (p := ⟨gb1153, _, none⟩) (by first | exact Nat.ne_of_lt (Nat.lt_of_lt_of_le (by have := World.block_lt_of_cell? _ _ hw1154_0; first | rwa [add_block] at this | exact this) GW1153.out) | (rw [add_block]; exact Nat.ne_of_lt (Nat.lt_of_lt_of_le (by have := World.block_lt_of_cell? _ _ hw1154_0; first | rwa [add_block] at this | exact this) GW1153.out)) | (show (Addr.add _ _).block ≠ _; rw [add_block]; exact Nat.ne_of_lt (Nat.lt_of_lt_of_le (by have := World.block_lt_of_cell? _ _ hw1154_0; first | rwa [add_block] at this | exact this) GW1153.out)) | (dsimp only; exact Nat.ne_of_lt (Nat.lt_of_lt_of_le (by have := World.block_lt_of_cell? _ _ hw1154_0; first | rwa [add_block] at this | exact this) GW1153.out))) _).trans (hHeld.2.2.2.2.1)), ((cell_far (p := ⟨gb1153, _, none⟩) (by first | exact Nat.ne_of_lt (Nat.lt_of_lt_of_le (by have := World.block_lt_of_cell? _ _ hw1154_1; first | rwa [add_block] at this | exact this) GW1153.out) | (rw [add_block]; exact Nat.ne_of_lt (Nat.lt_of_lt_of_le (by have := World.block_lt_of_cell? _ _ hw1154_1; first | rwa [add_block] at this | exact this) GW1153.out)) | (show (Addr.add _ _).block ≠ _; rw [add_block]; exact Nat.ne_of_lt (Nat.lt_of_lt_of_le (by have := World.block_lt_of_cell? _ _ hw1154_1; first | rwa [add_block] at this | exact this) GW1153.out)) | (dsimp only; exact Nat.ne_of_lt (Nat.lt_of_lt_of_le (by have := World.block_lt_of_cell? _ _ hw1154_1; first | rwa [add_block] at this | exact this) GW1153.out))) _).trans (hHeld.2.2.2.2.2.1)), ((cell_far (p := ⟨gb1153, _, none⟩) (by first | exact Nat.ne_of_lt (Nat.lt_of_lt_of_le (by have := World.block_lt_of_cell? _ _ hw1154_2; first | rwa [add_block] at this | exact this) GW1153.out) | (rw [add_block]; exact Nat.ne_of_lt (Nat.lt_of_lt_of_le (by have := World.block_lt_of_cell? _ _ hw1154_2; first | rwa [add_block] at this | exact this) GW1153.out)) | (show (Addr.add _ _).block ≠ _; rw [add_block]; exact Nat.ne_of_lt (Nat.lt_of_lt_of_le (by have := World.block_lt_of_cell? _ _ hw1154_2; first | rwa [add_block] at this | exact this) GW1153.out)) | (dsimp only; exact Nat.ne_of_lt (Nat.lt_of_lt_of_le (by have := World.block_lt_of_cell? _ _ hw1154_2; first | rwa [add_block] at this | exact this) GW1153.out))) _).trans (hHeld.2.2.2.2.2.2.1)), ((cell_far (p := ⟨gb1153, _, none⟩) (by first | exact Nat.ne_of_lt (Nat.lt_of_lt_of_le (by have := World.block_lt_of_cell? _ _ hw1154_3; first | rwa [add_block] at this | exact this) GW1153.out) | (rw [add_block]; exact Nat.ne_of_lt (Nat.lt_of_lt_of_le (by have := World.block_lt_of_cell? _ _ hw1154_3; first | rwa [add_block] at this | exact this) GW1153.out)) | (show (Addr.add _ _).block ≠ _; rw [add_block]; exact Nat.ne_of_lt (Nat.lt_of_lt_of_le (by have := World.block_lt_of_cell? _ _ hw1154_3; first | rwa [add_block] at this | exact this) GW1153.out)) | (dsimp only; exact Nat.ne_of_lt (Nat.lt_of_lt_of_le (by have := World.block_lt_of_cell? _ _ hw1154_3; first | rwa [add_block] at this | exact this) GW1153.out))) _).trans (hHeld.2.2.2.2.2.2.2.1)), ((cell_far (p := ⟨gb1153, _, none⟩) (by first | exact Nat.ne_of_lt (Nat.lt_of_lt_of_le (by have := World.block_lt_of_cell? _ _ hw1156_0; first | rwa [add_block] at this | exact this) GW1153.out) | (rw [add_block]; exact Nat.ne_of_lt (Nat.lt_of_lt_of_le (by have := World.block_lt_of_cell? _ _ hw1156_0; first | rwa [add_block] at this | exact this) GW1153.out)) | (show (Addr.add _ _).block ≠ _; rw [add_block]; exact Nat.ne_of_lt (Nat.lt_of_lt_of_le (by have := World.block_lt_of_cell? _ _ hw1156_0; first | rwa [add_block] at this | exact this) GW1153.out)) | (dsimp only; exact Nat.ne_of_lt (Nat.lt_of_lt_of_le (by have := World.block_lt_of_cell? _ _ hw1156_0; first | rwa [add_block] at this | exact this) GW1153.out))) _).trans (hHeld.2.2.2.2.2.2.2.2.1)), ((cell_far (p := ⟨gb1153, _, none⟩) (by first | exact Nat.ne_of_lt (Nat.lt_of_lt_of_le (by have := World.block_lt_of_cell? _ _ hw1156_1; first | rwa [add_block] at this | exact this) GW1153.out) | (rw [add_block]; exact Nat.ne_of_lt (Nat.lt_of_lt_of_le (by have := World.block_lt_of_cell? _ _ hw1156_1; first | rwa [add_block] at this | exact this) GW1153.out)) | (show (Addr.add _ _).block ≠ _; rw [add_block]; exact Nat.ne_of_lt (Nat.lt_of_lt_of_le (by have := World.block_lt_of_cell? _ _ hw1156_1; first | rwa [add_block] at this | exact this) GW1153.out)) | (dsimp only; exact Nat.ne_of_lt (Nat.lt_of_lt_of_le (by have := World.block_lt_of_cell? _ _ hw1156_1; first | rwa [add_block] at this | exact this) GW1153.out))) _).trans (hHeld.2.2.2.2.2.2.2.2.2.1)), ((cell_far (p := ⟨gb1153, _, none⟩) (by first | exact Nat.ne_of_lt (Nat.lt_of_lt_of_le (by have := World.block_lt_of_cell? _ _ hw1156_2; first | rwa [add_block] at this | exact this) GW1153.out) | (rw [add_block]; exact Nat.ne_of_lt (Nat.lt_of_lt_of_le (by have := World.block_lt_of_cell? _ _ hw1156_2; first | rwa [add_block] at this | exact this) GW1153.out)) | (show (Addr.add _ _).block ≠ _; rw [add_block]; exact Nat.ne_of_lt (Nat.lt_of_lt_of_le (by have := World.block_lt_of_cell? _ _ hw1156_2; first | rwa [add_block] at this | exact this) GW1153.out)) | (dsimp only; exact Nat.ne_of_lt (Nat.lt_of_lt_of_le (by have := World.block_lt_of_cell? _ _ hw1156_2; first | rwa [add_block] at this | exact this) GW1153.out))) _).trans (hHeld.2.2.2.2.2.2.2.2.2.2.1)), ((cell_far (p := ⟨gb1153, _, none⟩) (by first | exact Nat.ne_of_lt (Nat.lt_of_lt_of_le (by have := World.block_lt_of_cell? _ _ hw1156_3; first | rwa [add_block] at this | exact this) GW1153.out) | (rw [add_block]; exact Nat.ne_of_lt (Nat.lt_of_lt_of_le (by have := World.block_lt_of_cell? _ _ hw1156_3; first | rwa [add_block] at this | exact this) GW1153.out)) | (show (Addr.add _ _).block ≠ _; rw [add_block]; exact Nat.ne_of_lt (Nat.lt_of_lt_of_le (by have := World.block_lt_of_cell? _ _ hw1156_3; first | rwa [add_block] at this | exact this) GW1153.out)) | (dsimp only; exact Nat.ne_of_lt (Nat.lt_of_lt_of_le (by have := World.block_lt_of_cell? _ _ hw1156_3; first | rwa [add_block] at this | exact this) GW1153.out))) _).trans (hHeld.2.2.2.2.2.2.2.2.2.2.2))⟩ (fun hHeld => ?_)
                clear hK K
                refine done_ (done_of HT_.out (by kernel_rfl)) ?_
                try go_wp2
                go_roundg k3
                case measure => have := HK1.out; have := HK2.out; have := HK3.out; omega
                case rel => exact ⟨(wrap64 (1 + 1)), (x1154000_3), (wrap64 ((wrap64 (((rd_T45 l0_1 x6_1).f1) * a1_0)) + ((rd_T45 l1_1 x7_2).f1))), (x1154002_3), (x1154003_3), (by first | rfl | (simp; done) | (simp [*]; done) | (simp; decide +kernel)), H', ⟨by have := HK1.out; have := HK2.out; have := HK3.out; omega⟩, ⟨by (with_reducible repeat (first | apply Kd.R_alloc | apply Kd.R_drewN | apply Kd.R_drew)); exact Kd.R_mono (Kd.R_far (p := ⟨gb1153, 1, none⟩) (Kd.R_mono HO_5.out (fun k_ hk => (⟨hk, hk⟩ : _ ∧ k_ ≠ gb1153))) (fun _ hk => hk.2) (.int .i64 (wrap64 ((wrap64 (((rd_T45 l0_1 x6_1).f1) * a1_0)) + ((rd_T45 l1_1 x7_2).f1))))) (fun _ hk => hk.1)⟩, ⟨by (with_reducible repeat (first | refine blk_drewN ?_ _ | refine blk_drew ?_ | refine blk_alloc ?_ _)); refine blk_far ?_ NB1143_1153.out _; (with_reducible repeat (first | refine blk_drewN ?_ _ | refine blk_drew ?_ | refine blk_alloc ?_ _)); exact BK1143.out⟩, ⟨by (with_reducible repeat (first | refine blk_drewN ?_ _ | refine blk_drew ?_ | refine blk_alloc ?_ _)); refine blk_far ?_ NB1144_1153.out _; (with_reducible repeat (first | refine blk_drewN ?_ _ | refine blk_drew ?_ | refine blk_alloc ?_ _)); exact BK1144.out⟩, ⟨by (with_reducible repeat (first | refine blk_drewN ?_ _ | refine blk_drew ?_ | refine blk_alloc ?_ _)); refine blk_far ?_ NB1145_1153.out _; (with_reducible repeat (first | refine blk_drewN ?_ _ | refine blk_drew ?_ | refine blk_alloc ?_ _)); exact BK1145.out⟩, ⟨by (with_reducible repeat (first | refine blk_drewN ?_ _ | refine blk_drew ?_ | refine blk_alloc ?_ _)); refine blk_put (cs := #[.int .i64 x1154000_3, .int .i64 x1154001_3, .int .i64 x1154002_3, .int .i64 x1154003_3]) ?_ 1 _ rfl; (with_reducible repeat (first | refine blk_drewN ?_ _ | refine blk_drew ?_ | refine blk_alloc ?_ _)); exact BK1153.out⟩, ⟨by repeat (first | (with_reducible first | exact HB.out | apply below_alloc | apply pw_below_drewN | apply below_drew1 | refine below_set ?_ GE1143.out | refine below_set ?_ GE1144.out | refine below_set ?_ GE1145.out | refine below_set ?_ GE1153.out) | exact HB.out)⟩⟩
               ·rw [if_neg c31] at H
                exact absurd H (by simp)
              ·rw [if_neg c30] at H
               exact absurd H (by simp)
             ·rw [if_neg c29] at H
              clear c29
              by_cases c34 : x9_3 = 2
              ·subst c34
               have H1 : (if 0 ≤ x7_2 then (if x7_2 < (l1_1.length : Int) then (spec_l01Product.l2 k3 x5_2 x6_1 x7_2 (wrap64 (2 + 1)) a0_0 l0_1 a1_0 l1_1 x1154000_3 x1154001_3 (wrap64 ((wrap64 (((rd_T45 l0_1 x6_1).f2) * a1_0)) + ((rd_T45 l1_1 x7_2).f2))) x1154003_3) else (none)) else (none)) = some (r1, r2) := by rw [if_pos rfl] at H; exact H
               clear H
               have H := H1
               clear H1
               by_cases c35 : 0 ≤ x7_2
               ·rw [if_pos c35] at H
                have c35b0 : decide (0 ≤ x7_2) = true := decide_eq_true c35
                clear c35
                by_cases c36 : x7_2 < (l1_1.length : Int)
                ·rw [if_pos c36] at H
                 have c36b0 : decide (x7_2 < (l1_1.length : Int)) = true := decide_eq_true c36
                 clear c36
                 have H' := Aside0.mk H
                 clear H
                 try go_wp2
                 have n0_ := Aside0.mk (Kd.R_drew HO_5.out)
                 have n1_ := Aside0.mk (blk_drew BK1143.out)
                 have n2_ := Aside0.mk (blk_drew BK1144.out)
                 have n3_ := Aside0.mk (blk_drew BK1145.out)
                 have n4_ := Aside0.mk (blk_drew BK1153.out)
                 have n5_ := Aside0.mk (below_drew1 HB.out)
                 clear HO_5
                 clear BK1143
                 clear BK1144
                 clear BK1145
                 clear BK1153
                 clear HB
                 have HO_5 := n0_
                 have BK1143 := n1_
                 have BK1144 := n2_
                 have BK1145 := n3_
                 have BK1153 := n4_
                 have HB := n5_
                 clear n0_ n1_ n2_ n3_ n4_ n5_
                 have p1154 : 0 ≤ (x6_1 : Int) := of_decide_eq_true (by first | (with_reducible assumption) | assumption)
                 have q1154 : x6_1 < (l0_1.length : Int) := of_decide_eq_true (by first | (with_reducible assumption) | assumption)
                 obtain ⟨ad1154, e1154, hx1154_0, hx1154_1, hx1154_2, hx1154_3⟩ := at_T45 HR0_1.out x6_1 p1154 q1154
                 have hw1154_3 := hx1154_3
                 have hw1154_2 := hx1154_2
                 have hw1154_1 := hx1154_1
                 have hw1154_0 := hx1154_0
                 cases e1154
                 replace hx1154_0 := (HB.out.cell (World.block_lt_of_cell? w _ hx1154_0)).trans hx1154_0
                 replace hx1154_1 := (HB.out.cell (World.block_lt_of_cell? w _ hx1154_1)).trans hx1154_1
                 replace hx1154_2 := (HB.out.cell (World.block_lt_of_cell? w _ hx1154_2)).trans hx1154_2
                 replace hx1154_3 := (HB.out.cell (World.block_lt_of_cell? w _ hx1154_3)).trans hx1154_3
                 replace p1154 := eq_true p1154
                 replace q1154 := eq_true q1154
                 have p1157 : 0 ≤ (x7_2 : Int) := of_decide_eq_true (by first | (with_reducible assumption) | assumption)
                 have q1157 : x7_2 < (l1_1.length : Int) := of_decide_eq_true (by first | (with_reducible assumption) | assumption)
                 obtain ⟨ad1157, e1157, hx1157_0, hx1157_1, hx1157_2, hx1157_3⟩ := at_T45 HR1_1.out x7_2 p1157 q1157
                 have hw1157_3 := hx1157_3
                 have hw1157_2 := hx1157_2
                 have hw1157_1 := hx1157_1
                 have hw1157_0 := hx1157_0
                 cases e1157
                 replace hx1157_0 := (HB.out.cell (World.block_lt_of_cell? w _ hx1157_0)).trans hx1157_0
                 replace hx1157_1 := (HB.out.cell (World.block_lt_of_cell? w _ hx1157_1)).trans hx1157_1
                 replace hx1157_2 := (HB.out.cell (World.block_lt_of_cell? w _ hx1157_2)).trans hx1157_2
                 replace hx1157_3 := (HB.out.cell (World.block_lt_of_cell? w _ hx1157_3)).trans hx1157_3
                 replace p1157 := eq_true p1157
                 replace q1157 := eq_true q1157
                 refine start_ (n := 21) (S := fun w' => w'.cell? ⟨gb1143, 0, none⟩ = some (.int .i64 a0_0) ∧ w'.cell? ⟨gb1143, 1, none⟩ = some (.slice (some ad1154) l0_1.length c0_1) ∧ w'.cell? ⟨gb1144, 0, none⟩ = some (.int .i64 a1_0) ∧ w'.cell? ⟨gb1144, 1, none⟩ = some (.slice (some ad1157) l1_1.length c1_1) ∧ w'.cell? (ad1154.add ((x6_1).toNat * 4)) = some (.int .i64 ((rd_T45 l0_1 x6_1).f0)) ∧ w'.cell? ⟨(ad1154.add ((x6_1).toNat * 4)).block, (ad1154.add ((x6_1).toNat * 4)).off + 1, none⟩ = some (.int .i64 ((rd_T45 l0_1 x6_1).f1)) ∧ w'.cell? ⟨(ad1154.add ((x6_1).toNat * 4)).block, (ad1154.add ((x6_1).toNat * 4)).off + 2, none⟩ = some (.int .i64 ((rd_T45 l0_1 x6_1).f2)) ∧ w'.cell? ⟨(ad1154.add ((x6_1).toNat * 4)).block, (ad1154.add ((x6_1).toNat * 4)).off + 3, none⟩ = some (.int .i64 ((rd_T45 l0_1 x6_1).f3)) ∧ w'.cell? (ad1157.add ((x7_2).toNat * 4)) = some (.int .i64 ((rd_T45 l1_1 x7_2).f0)) ∧ w'.cell? ⟨(ad1157.add ((x7_2).toNat * 4)).block, (ad1157.add ((x7_2).toNat * 4)).off + 1, none⟩ = some (.int .i64 ((rd_T45 l1_1 x7_2).f1)) ∧ w'.cell? ⟨(ad1157.add ((x7_2).toNat * 4)).block, (ad1157.add ((x7_2).toNat * 4)).off + 2, none⟩ = some (.int .i64 ((rd_T45 l1_1 x7_2).f2)) ∧ w'.cell? ⟨(ad1157.add ((x7_2).toNat * 4)).block, (ad1157.add ((x7_2).toNat * 4)).off + 3, none⟩ = some (.int .i64 ((rd_T45 l1_1 x7_2).f3))) (ds := []) #[false, false, false, false, false, false, false, false, false, false, false, false, false, false, false, false, false, false, false, false, false] (by kernel_rfl) rfl rfl ⟨(blk_cell BK1143.out 0).trans rfl, (blk_cell BK1143.out 1).trans rfl, (blk_cell BK1144.out 0).trans rfl, (blk_cell BK1144.out 1).trans rfl, ((HB.out.cell (World.block_lt_of_cell? w _ hw1154_0)).trans hw1154_0), ((HB.out.cell (World.block_lt_of_cell? w _ hw1154_1)).trans hw1154_1), ((HB.out.cell (World.block_lt_of_cell? w _ hw1154_2)).trans hw1154_2), ((HB.out.cell (World.block_lt_of_cell? w _ hw1154_3)).trans hw1154_3), ((HB.out.cell (World.block_lt_of_cell? w _ hw1157_0)).trans hw1157_0), ((HB.out.cell (World.block_lt_of_cell? w _ hw1157_1)).trans hw1157_1), ((HB.out.cell (World.block_lt_of_cell? w _ hw1157_2)).trans hw1157_2), ((HB.out.cell (World.block_lt_of_cell? w _ hw1157_3)).trans hw1157_3)⟩ (fun hHeld => ?_); refine with_tabW spec_l01Product.tab12 spec_l01Product.bits12 (fun HT_ HW_ => ?_)
                 generalize wr.drew = w37 at HO_5 BK1143 BK1144 BK1145 BK1153 HB hx1154_0 hx1154_1 hx1154_2 hx1154_3 hx1157_0 hx1157_1 hx1157_2 hx1157_3 hHeld ⊢
                 refine pure_ (i := 0) (N := some 30) (v := ?_) (a' := ?_) #[true, false, false, false, false, false, false, false, false, false, false, false, false, false, false, false, false, false, false, false, false] rfl rfl (any_of HT_.out (by kernel_rfl)) (fun _ _ _ h => h) (Or.inl ⟨by rfl, ?_⟩) ?_ ?_
                 rotate_left
                 ·intro w'
                  go_simp
                  with_reducible rfl
                 rotate_left
                 ·simp only [Act.put, List.setIfInBounds_toArray, List.set_cons_zero, List.set_cons_succ, i64_w, i32_w]
                  rfl
                 refine pure_ (i := 1) (N := some 31) (v := ?_) (a' := ?_) #[true, true, false, false, false, false, false, false, false, false, false, false, false, false, false, false, false, false, false, false, false] rfl rfl (any_of HT_.out (by kernel_rfl)) (fun _ _ _ h => h) (Or.inl ⟨by rfl, ?_⟩) ?_ ?_
                 rotate_left
                 ·intro w'
                  go_simp
                  with_reducible rfl
                 rotate_left
                 ·simp only [Act.put, List.setIfInBounds_toArray, List.set_cons_zero, List.set_cons_succ, i64_w, i32_w]
                  rfl
                 refine pure_ (i := 3) (N := some 33) (v := ?_) (a' := ?_) #[true, true, false, true, false, false, false, false, false, false, false, false, false, false, false, false, false, false, false, false, false] rfl rfl (any_of HT_.out (by kernel_rfl)) (fun _ _ _ h => h) (Or.inl ⟨by rfl, ?_⟩) ?_ ?_
                 rotate_left
                 ·intro w'
                  go_simp
                  with_reducible rfl
                 rotate_left
                 ·simp only [Act.put, List.setIfInBounds_toArray, List.set_cons_zero, List.set_cons_succ, i64_w, i32_w]
                  rfl
                 refine pure_ (i := 4) (N := some 34) (v := ?_) (a' := ?_) #[true, true, false, true, true, false, false, false, false, false, false, false, false, false, false, false, false, false, false, false, false] rfl rfl (any_of HT_.out (by kernel_rfl)) (fun _ _ _ h => h) (Or.inl ⟨by rfl, ?_⟩) ?_ ?_
                 rotate_left
                 ·intro w'
                  go_simp
                  with_reducible rfl
                 rotate_left
                 ·simp only [Act.put, List.setIfInBounds_toArray, List.set_cons_zero, List.set_cons_succ, i64_w, i32_w]
                  rfl
                 refine pure_ (i := 8) (N := some 38) (v := ?_) (a' := ?_) #[true, true, false, true, true, false, false, false, true, false, false, false, false, false, false, false, false, false, false, false, false] rfl rfl (any_of HT_.out (by kernel_rfl)) (fun _ _ _ h => h) (Or.inl ⟨by rfl, ?_⟩) ?_ ?_
                 rotate_left
                 ·intro w'
                  go_simp
                  with_reducible rfl
                 rotate_left
                 ·simp only [Act.put, List.setIfInBounds_toArray, List.set_cons_zero, List.set_cons_succ, i64_w, i32_w]
                  rfl
                 refine pure_ (i := 11) (N := some 41) (v := ?_) (a' := ?_) #[true, true, false, true, true, false, false, false, true, false, false, true, false, false, false, false, false, false, false, false, false] rfl rfl (any_of HT_.out (by kernel_rfl)) (fun _ _ _ h => h) (Or.inl ⟨by rfl, ?_⟩) ?_ ?_
                 rotate_left
                 ·intro w'
                  go_simp
                  with_reducible rfl
                 rotate_left
                 ·simp only [Act.put, List.setIfInBounds_toArray, List.set_cons_zero, List.set_cons_succ, i64_w, i32_w]
                  rfl
                 refine pure_ (i := 13) (N := some 43) (v := ?_) (a' := ?_) #[true, true, false, true, true, false, false, false, true, false, false, true, false, true, false, false, false, false, false, false, false] rfl rfl (any_of HT_.out (by kernel_rfl)) (fun _ _ _ h => h) (Or.inl ⟨by rfl, ?_⟩) ?_ ?_
                 rotate_left
                 ·intro w'
                  go_simp
                  with_reducible rfl
                 rotate_left
                 ·simp only [Act.put, List.setIfInBounds_toArray, List.set_cons_zero, List.set_cons_succ, i64_w, i32_w]
                  rfl
                 refine pure_ (i := 14) (N := some 44) (v := ?_) (a' := ?_) #[true, true, false, true, true, false, false, false, true, false, false, true, false, true, true, false, false, false, false, false, false] rfl rfl (any_of HT_.out (by kernel_rfl)) (fun _ _ _ h => h) (Or.inl ⟨by rfl, ?_⟩) ?_ ?_
                 rotate_left
                 ·intro w'
                  go_simp
                  with_reducible rfl
                 rotate_left
                 ·simp only [Act.put, List.setIfInBounds_toArray, List.set_cons_zero, List.set_cons_succ, i64_w, i32_w]
                  rfl
                 refine take_ (i := 2) (N := some 32) (v := ?_) (a' := ?_) #[true, true, true, true, true, false, false, false, true, false, false, true, false, true, true, false, false, false, false, false, false] rfl rfl (take_ofW HT_.out HW_.out (by kernel_rfl)) (fun _ _ _ h => h) (Or.inl ⟨by rfl, ?_⟩) hHeld ?_ ?_
                 rotate_left
                 ·rintro w' ⟨s0, s1, s2, s3, s4, s5, s6, s7, s8, s9, s10, s11⟩
                  go_simp
                  with_reducible rfl
                 rotate_left
                 ·simp only [Act.put, List.setIfInBounds_toArray, List.set_cons_zero, List.set_cons_succ, i64_w, i32_w]
                  rfl
                 refine pure_ (i := 5) (N := some 35) (v := ?_) (a' := ?_) #[true, true, true, true, true, true, false, false, true, false, false, true, false, true, true, false, false, false, false, false, false] rfl rfl (any_of HT_.out (by kernel_rfl)) (fun _ _ _ h => h) (Or.inl ⟨by rfl, ?_⟩) ?_ ?_
                 rotate_left
                 ·intro w'
                  go_simp
                  with_reducible rfl
                 rotate_left
                 ·simp only [Act.put, List.setIfInBounds_toArray, List.set_cons_zero, List.set_cons_succ, i64_w, i32_w]
                  rfl
                 refine pure_ (i := 6) (N := some 36) (v := ?_) (a' := ?_) #[true, true, true, true, true, true, true, false, true, false, false, true, false, true, true, false, false, false, false, false, false] rfl rfl (any_of HT_.out (by kernel_rfl)) (fun _ _ _ h => h) (Or.inl ⟨by rfl, ?_⟩) ?_ ?_
                 rotate_left
                 ·intro w'
                  go_simp
                  with_reducible rfl
                 rotate_left
                 ·simp only [Act.put, List.setIfInBounds_toArray, List.set_cons_zero, List.set_cons_succ, i64_w, i32_w]
                  rfl
                 refine take_ (i := 7) (N := some 37) (v := ?_) (a' := ?_) #[true, true, true, true, true, true, true, true, true, false, false, true, false, true, true, false, false, false, false, false, false] rfl rfl (take_ofW HT_.out HW_.out (by kernel_rfl)) (fun _ _ _ h => h) (Or.inl ⟨by rfl, ?_⟩) hHeld ?_ ?_
                 rotate_left
                 ·rintro w' ⟨s0, s1, s2, s3, s4, s5, s6, s7, s8, s9, s10, s11⟩
                  go_simp
                  with_reducible rfl
                 rotate_left
                 ·simp only [Act.put, List.setIfInBounds_toArray, List.set_cons_zero, List.set_cons_succ, i64_w, i32_w]
                  rfl
                 refine take_ (i := 9) (N := some 39) (v := ?_) (a' := ?_) #[true, true, true, true, true, true, true, true, true, true, false, true, false, true, true, false, false, false, false, false, false] rfl rfl (take_ofW HT_.out HW_.out (by kernel_rfl)) (fun _ _ _ h => h) (Or.inl ⟨by rfl, ?_⟩) hHeld ?_ ?_
                 rotate_left
                 ·rintro w' ⟨s0, s1, s2, s3, s4, s5, s6, s7, s8, s9, s10, s11⟩
                  go_simp
                  with_reducible rfl
                 rotate_left
                 ·simp only [Act.put, List.setIfInBounds_toArray, List.set_cons_zero, List.set_cons_succ, i64_w, i32_w]
                  rfl
                 refine pure_ (i := 10) (N := some 40) (v := ?_) (a' := ?_) #[true, true, true, true, true, true, true, true, true, true, true, true, false, true, true, false, false, false, false, false, false] rfl rfl (any_of HT_.out (by kernel_rfl)) (fun _ _ _ h => h) (Or.inl ⟨by rfl, ?_⟩) ?_ ?_
                 rotate_left
                 ·intro w'
                  go_simp
                  with_reducible rfl
                 rotate_left
                 ·simp only [Act.put, List.setIfInBounds_toArray, List.set_cons_zero, List.set_cons_succ, i64_w, i32_w]
                  rfl
                 refine take_ (i := 12) (N := some 42) (v := ?_) (a' := ?_) #[true, true, true, true, true, true, true, true, true, true, true, true, true, true, true, false, false, false, false, false, false] rfl rfl (take_ofW HT_.out HW_.out (by kernel_rfl)) (fun _ _ _ h => h) (Or.inl ⟨by rfl, ?_⟩) hHeld ?_ ?_
                 rotate_left
                 ·rintro w' ⟨s0, s1, s2, s3, s4, s5, s6, s7, s8, s9, s10, s11⟩
                  go_simp
                  with_reducible rfl
                 rotate_left
                 ·simp only [Act.put, List.setIfInBounds_toArray, List.set_cons_zero, List.set_cons_succ, i64_w, i32_w]
                  rfl
                 refine pure_ (i := 15) (N := some 45) (v := ?_) (a' := ?_) #[true, true, true, true, true, true, true, true, true, true, true, true, true, true, true, true, false, false, false, false, false] rfl rfl (any_of HT_.out (by kernel_rfl)) (fun _ _ _ h => h) (Or.inl ⟨by rfl, ?_⟩) ?_ ?_
                 rotate_left
                 ·intro w'
                  go_simp
                  with_reducible rfl
                 rotate_left
                 ·simp only [Act.put, List.setIfInBounds_toArray, List.set_cons_zero, List.set_cons_succ, i64_w, i32_w]
                  rfl
                 refine pure_ (i := 16) (N := some 46) (v := ?_) (a' := ?_) #[true, true, true, true, true, true, true, true, true, true, true, true, true, true, true, true, true, false, false, false, false] rfl rfl (any_of HT_.out (by kernel_rfl)) (fun _ _ _ h => h) (Or.inl ⟨by rfl, ?_⟩) ?_ ?_
                 rotate_left
                 ·intro w'
                  go_simp
                  with_reducible rfl
                 rotate_left
                 ·simp only [Act.put, List.setIfInBounds_toArray, List.set_cons_zero, List.set_cons_succ, i64_w, i32_w]
                  rfl
                 refine take_ (i := 17) (N := some 47) (v := ?_) (a' := ?_) #[true, true, true, true, true, true, true, true, true, true, true, true, true, true, true, true, true, true, false, false, false] rfl rfl (take_ofW HT_.out HW_.out (by kernel_rfl)) (fun _ _ _ h => h) (Or.inl ⟨by rfl, ?_⟩) hHeld ?_ ?_
                 rotate_left
                 ·rintro w' ⟨s0, s1, s2, s3, s4, s5, s6, s7, s8, s9, s10, s11⟩
                  go_simp
                  with_reducible rfl
                 rotate_left
                 ·simp only [Act.put, List.setIfInBounds_toArray, List.set_cons_zero, List.set_cons_succ, i64_w, i32_w]
                  rfl
                 refine pure_ (i := 18) (N := some 48) (v := ?_) (a' := ?_) #[true, true, true, true, true, true, true, true, true, true, true, true, true, true, true, true, true, true, true, false, false] rfl rfl (any_of HT_.out (by kernel_rfl)) (fun _ _ _ h => h) (Or.inl ⟨by rfl, ?_⟩) ?_ ?_
                 rotate_left
                 ·intro w'
                  go_simp
                  with_reducible rfl
                 rotate_left
                 ·simp only [Act.put, List.setIfInBounds_toArray, List.set_cons_zero, List.set_cons_succ, i64_w, i32_w]
                  rfl
                 refine pure_ (i := 19) (N := some 49) (v := ?_) (a' := ?_) #[true, true, true, true, true, true, true, true, true, true, true, true, true, true, true, true, true, true, true, true, false] rfl rfl (any_of HT_.out (by kernel_rfl)) (fun _ _ _ h => h) (Or.inl ⟨by rfl, ?_⟩) ?_ ?_
                 rotate_left
                 ·intro w'
                  go_simp
                  with_reducible rfl
                 rotate_left
                 ·simp only [Act.put, List.setIfInBounds_toArray, List.set_cons_zero, List.set_cons_succ, i64_w, i32_w]
                  rfl
                 refine one_ (i := 20) (N := none) #[true, true, true, true, true, true, true, true, true, true, true, true, true, true, true, true, true, true, true, true, true] rfl rfl (one_of HT_.out (by kernel_rfl)) (by decide) (fun K hK => ?_)
                 have hs38 : w37.cell? ⟨gb1153, 2, none⟩ = some (.int .i64 x1154002_3) := (blk_cell BK1153.out 2).trans rfl
                 have hfs38 := blk_frozen BK1153.out 2
                 have hns38_0 := NB1143_1153.out
                 have hns38_1 := NB1144_1153.out
                 have hns38_2 := NB1145_1153.out
                 have hms38_0 := NB1153_1143.out
                 have hms38_1 := NB1153_1144.out
                 have hms38_2 := NB1153_1145.out
                 refine skip_ (w1 := ?_) (by rfl) rfl ?_ ?_
                 rotate_left
                 ·go_simp
                  rfl
                 refine hK.out _ _ ⟨((cell_far (p := ⟨gb1153, _, none⟩) NB1143_1153.out _).trans (hHeld.1)), ((cell_far (p := ⟨gb1153, _, none⟩) NB1143_1153.out _).trans (hHeld.2.1)), ((cell_far (p := ⟨gb1153, _, none⟩) NB1144_1153.out _).trans (hHeld.2.2.1)), ((cell_far (p := ⟨gb1153, _, none⟩) NB1144_1153.out _).trans (hHeld.2.2.2.1)), ((cell_far (p := ⟨gb1153, _, none⟩) (by first | exact Nat.ne_of_lt (Nat.lt_of_lt_of_le (by have := World.block_lt_of_cell? _ _ hw1154_0; first | rwa [add_block] at this | exact this) GW1153.out) | (rw [add_block]; exact Nat.ne_of_lt (Nat.lt_of_lt_of_le (by have := World.block_lt_of_cell? _ _ hw1154_0; first | rwa [add_block] at this | exact this) GW1153.out)) | (show (Addr.add _ _).block ≠ _; rw [add_block]; exact Nat.ne_of_lt (Nat.lt_of_lt_of_le (by have := World.block_lt_of_cell? _ _ hw1154_0; first | rwa [add_block] at this | exact this) GW1153.out)) | (dsimp only; exact Nat.ne_of_lt (Nat.lt_of_lt_of_le (by have := World.block_lt_of_cell? _ _ hw1154_0; first | rwa [add_block] at this | exact this) GW1153.out))) _).trans (hHeld.2.2.2.2.1)), ((cell_far (p := ⟨gb1153, _, none⟩) (by first | exact Nat.ne_of_lt (Nat.lt_of_lt_of_le (by have := World.block_lt_of_cell? _ _ hw1154_1; first | rwa [add_block] at this | exact this) GW1153.out) | (rw [add_block]; exact Nat.ne_of_lt (Nat.lt_of_lt_of_le (by have := World.block_lt_of_cell? _ _ hw1154_1; first | rwa [add_block] at this | exact this) GW1153.out)) | (show (Addr.add _ _).block ≠ _; rw [add_block]; exact Nat.ne_of_lt (Nat.lt_of_lt_of_le (by have := World.block_lt_of_cell? _ _ hw1154_1; first | rwa [add_block] at this | exact this) GW1153.out)) | (dsimp only; exact Nat.ne_of_lt (Nat.lt_of_lt_of_le (by have := World.block_lt_of_cell? _ _ hw1154_1; first | rwa [add_block] at this | exact this) GW1153.out))) _).trans (hHeld.2.2.2.2.2.1)), ((cell_far (p := ⟨gb1153, _, none⟩) (by first | exact Nat.ne_of_lt (Nat.lt_of_lt_of_le (by have := World.block_lt_of_cell? _ _ hw1154_2; first | rwa [add_block] at this | exact this) GW1153.out) | (rw [add_block]; exact Nat.ne_of_lt (Nat.lt_of_lt_of_le (by have := World.block_lt_of_cell? _ _ hw1154_2; first | rwa [add_block] at this | exact this) GW1153.out)) | (show (Addr.add _ _).block ≠ _; rw [add_block]; exact Nat.ne_of_lt (Nat.lt_of_lt_of_le (by have := World.block_lt_of_cell? _ _ hw1154_2; first | rwa [add_block] at this | exact this) GW1153.out)) | (dsimp only; exact Nat.ne_of_lt (Nat.lt_of_lt_of_le (by have := World.block_lt_of_cell? _ _ hw1154_2; first | rwa [add_block] at this | exact this) GW1153.out))) _).trans (hHeld.2.2.2.2.2.2.1)), ((cell_far (p := ⟨gb1153, _, none⟩) (by first | exact Nat.ne_of_lt (Nat.lt_of_lt_of_le (by have := World.block_lt_of_cell? _ _ hw1154_3; first | rwa [add_block] at this | exact this) GW1153.out) | (rw [add_block]; exact Nat.ne_of_lt (Nat.lt_of_lt_of_le (by have := World.block_lt_of_cell? _ _ hw1154_3; first | rwa [add_block] at this | exact this) GW1153.out)) | (show (Addr.add _ _).block ≠ _; rw [add_block]; exact Nat.ne_of_lt (Nat.lt_of_lt_of_le (by have := World.block_lt_of_cell? _ _ hw1154_3; first | rwa [add_block] at this | exact this) GW1153.out)) | (dsimp only; exact Nat.ne_of_lt (Nat.lt_of_lt_of_le (by have := World.block_lt_of_cell? _ _ hw1154_3; first | rwa [add_block] at this | exact this) GW1153.out))) _).trans (hHeld.2.2.2.2.2.2.2.1)), ((cell_far (p := ⟨gb1153, _, none⟩) (by first | exact Nat.ne_of_lt (Nat.lt_of_lt_of_le (by have := World.block_lt_of_cell? _ _ hw1157_0; first | rwa [add_block] at this | exact this) GW1153.out) | (rw [add_block]; exact Nat.ne_of_lt (Nat.lt_of_lt_of_le (by have := World.block_lt_of_cell? _ _ hw1157_0; first | rwa [add_block] at this | exact this) GW1153.out)) | (show (Addr.add _ _).block ≠ _; rw [add_block]; exact Nat.ne_of_lt (Nat.lt_of_lt_of_le (by have := World.block_lt_of_cell? _ _ hw1157_0; first | rwa [add_block] at this | exact this) GW1153.out)) | (dsimp only; exact Nat.ne_of_lt (Nat.lt_of_lt_of_le (by have := World.block_lt_of_cell? _ _ hw1157_0; first | rwa [add_block] at this | exact this) GW1153.out))) _).trans (hHeld.2.2.2.2.2.2.2.2.1)), ((cell_far (p := ⟨gb1153, _, none⟩) (by first | exact Nat.ne_of_lt (Nat.lt_of_lt_of_le (by have := World.block_lt_of_cell? _ _ hw1157_1; first | rwa [add_block] at this | exact this) GW1153.out) | (rw [add_block]; exact Nat.ne_of_lt (Nat.lt_of_lt_of_le (by have := World.block_lt_of_cell? _ _ hw1157_1; first | rwa [add_block] at this | exact this) GW1153.out)) | (show (Addr.add _ _).block ≠ _; rw [add_block]; exact Nat.ne_of_lt (Nat.lt_of_lt_of_le (by have := World.block_lt_of_cell? _ _ hw1157_1; first | rwa [add_block] at this | exact this) GW1153.out)) | (dsimp only; exact Nat.ne_of_lt (Nat.lt_of_lt_of_le (by have := World.block_lt_of_cell? _ _ hw1157_1; first | rwa [add_block] at this | exact this) GW1153.out))) _).trans (hHeld.2.2.2.2.2.2.2.2.2.1)), ((cell_far (p := ⟨gb1153, _, none⟩) (by first | exact Nat.ne_of_lt (Nat.lt_of_lt_of_le (by have := World.block_lt_of_cell? _ _ hw1157_2; first | rwa [add_block] at this | exact this) GW1153.out) | (rw [add_block]; exact Nat.ne_of_lt (Nat.lt_of_lt_of_le (by have := World.block_lt_of_cell? _ _ hw1157_2; first | rwa [add_block] at this | exact this) GW1153.out)) | (show (Addr.add _ _).block ≠ _; rw [add_block]; exact Nat.ne_of_lt (Nat.lt_of_lt_of_le (by have := World.block_lt_of_cell? _ _ hw1157_2; first | rwa [add_block] at this | exact this) GW1153.out)) | (dsimp only; exact Nat.ne_of_lt (Nat.lt_of_lt_of_le (by have := World.block_lt_of_cell? _ _ hw1157_2; first | rwa [add_block] at this | exact this) GW1153.out))) _).trans (hHeld.2.2.2.2.2.2.2.2.2.2.1)), ((cell_far (p := ⟨gb1153, _, none⟩) (by first | exact Nat.ne_of_lt (Nat.lt_of_lt_of_le (by have := World.block_lt_of_cell? _ _ hw1157_3; first | rwa [add_block] at this | exact this) GW1153.out) | (rw [add_block]; exact Nat.ne_of_lt (Nat.lt_of_lt_of_le (by have := World.block_lt_of_cell? _ _ hw1157_3; first | rwa [add_block] at this | exact this) GW1153.out)) | (show (Addr.add _ _).block ≠ _; rw [add_block]; exact Nat.ne_of_lt (Nat.lt_of_lt_of_le (by have := World.block_lt_of_cell? _ _ hw1157_3; first | rwa [add_block] at this | exact this) GW1153.out)) | (dsimp only; exact Nat.ne_of_lt (Nat.lt_of_lt_of_le (by have := World.block_lt_of_cell? _ _ hw1157_3; first | rwa [add_block] at this | exact this) GW1153.out))) _).trans (hHeld.2.2.2.2.2.2.2.2.2.2.2))⟩ (fun hHeld => ?_)
                 clear hK K
                 refine done_ (done_of HT_.out (by kernel_rfl)) ?_
                 try go_wp2
                 go_roundg k3
                 case measure => have := HK1.out; have := HK2.out; have := HK3.out; omega
                 case rel => exact ⟨(wrap64 (2 + 1)), (x1154000_3), (x1154001_3), (wrap64 ((wrap64 (((rd_T45 l0_1 x6_1).f2) * a1_0)) + ((rd_T45 l1_1 x7_2).f2))), (x1154003_3), (by first | rfl | (simp; done) | (simp [*]; done) | (simp; decide +kernel)), H', ⟨by have := HK1.out; have := HK2.out; have := HK3.out; omega⟩, ⟨by (with_reducible repeat (first | apply Kd.R_alloc | apply Kd.R_drewN | apply Kd.R_drew)); exact Kd.R_mono (Kd.R_far (p := ⟨gb1153, 2, none⟩) (Kd.R_mono HO_5.out (fun k_ hk => (⟨hk, hk⟩ : _ ∧ k_ ≠ gb1153))) (fun _ hk => hk.2) (.int .i64 (wrap64 ((wrap64 (((rd_T45 l0_1 x6_1).f2) * a1_0)) + ((rd_T45 l1_1 x7_2).f2))))) (fun _ hk => hk.1)⟩, ⟨by (with_reducible repeat (first | refine blk_drewN ?_ _ | refine blk_drew ?_ | refine blk_alloc ?_ _)); refine blk_far ?_ NB1143_1153.out _; (with_reducible repeat (first | refine blk_drewN ?_ _ | refine blk_drew ?_ | refine blk_alloc ?_ _)); exact BK1143.out⟩, ⟨by (with_reducible repeat (first | refine blk_drewN ?_ _ | refine blk_drew ?_ | refine blk_alloc ?_ _)); refine blk_far ?_ NB1144_1153.out _; (with_reducible repeat (first | refine blk_drewN ?_ _ | refine blk_drew ?_ | refine blk_alloc ?_ _)); exact BK1144.out⟩, ⟨by (with_reducible repeat (first | refine blk_drewN ?_ _ | refine blk_drew ?_ | refine blk_alloc ?_ _)); refine blk_far ?_ NB1145_1153.out _; (with_reducible repeat (first | refine blk_drewN ?_ _ | refine blk_drew ?_ | refine blk_alloc ?_ _)); exact BK1145.out⟩, ⟨by (with_reducible repeat (first | refine blk_drewN ?_ _ | refine blk_drew ?_ | refine blk_alloc ?_ _)); refine blk_put (cs := #[.int .i64 x1154000_3, .int .i64 x1154001_3, .int .i64 x1154002_3, .int .i64 x1154003_3]) ?_ 2 _ rfl; (with_reducible repeat (first | refine blk_drewN ?_ _ | refine blk_drew ?_ | refine blk_alloc ?_ _)); exact BK1153.out⟩, ⟨by repeat (first | (with_reducible first | exact HB.out | apply below_alloc | apply pw_below_drewN | apply below_drew1 | refine below_set ?_ GE1143.out | refine below_set ?_ GE1144.out | refine below_set ?_ GE1145.out | refine below_set ?_ GE1153.out) | exact HB.out)⟩⟩
                ·rw [if_neg c36] at H
                 exact absurd H (by simp)
               ·rw [if_neg c35] at H
                exact absurd H (by simp)
              ·rw [if_neg c34] at H
               clear c34
               by_cases c39 : x9_3 = 3
               ·subst c39
                have H1 : (if 0 ≤ x7_2 then (if x7_2 < (l1_1.length : Int) then (spec_l01Product.l2 k3 x5_2 x6_1 x7_2 (wrap64 (3 + 1)) a0_0 l0_1 a1_0 l1_1 x1154000_3 x1154001_3 x1154002_3 (wrap64 ((wrap64 (((rd_T45 l0_1 x6_1).f3) * a1_0)) + ((rd_T45 l1_1 x7_2).f3)))) else (none)) else (none)) = some (r1, r2) := by rw [if_pos rfl] at H; exact H
                clear H
                have H := H1
                clear H1
                by_cases c40 : 0 ≤ x7_2
                ·rw [if_pos c40] at H
                 have c40b0 : decide (0 ≤ x7_2) = true := decide_eq_true c40
                 clear c40
                 by_cases c41 : x7_2 < (l1_1.length : Int)
                 ·rw [if_pos c41] at H
                  have c41b0 : decide (x7_2 < (l1_1.length : Int)) = true := decide_eq_true c41
                  clear c41
                  have H' := Aside0.mk H
                  clear H
                  try go_wp2
                  have n0_ := Aside0.mk (Kd.R_drew HO_5.out)
                  have n1_ := Aside0.mk (blk_drew BK1143.out)
                  have n2_ := Aside0.mk (blk_drew BK1144.out)
                  have n3_ := Aside0.mk (blk_drew BK1145.out)
                  have n4_ := Aside0.mk (blk_drew BK1153.out)
                  have n5_ := Aside0.mk (below_drew1 HB.out)
                  clear HO_5
                  clear BK1143
                  clear BK1144
                  clear BK1145
                  clear BK1153
                  clear HB
                  have HO_5 := n0_
                  have BK1143 := n1_
                  have BK1144 := n2_
                  have BK1145 := n3_
                  have BK1153 := n4_
                  have HB := n5_
                  clear n0_ n1_ n2_ n3_ n4_ n5_
                  have p1154 : 0 ≤ (x6_1 : Int) := of_decide_eq_true (by first | (with_reducible assumption) | assumption)
                  have q1154 : x6_1 < (l0_1.length : Int) := of_decide_eq_true (by first | (with_reducible assumption) | assumption)
                  obtain ⟨ad1154, e1154, hx1154_0, hx1154_1, hx1154_2, hx1154_3⟩ := at_T45 HR0_1.out x6_1 p1154 q1154
                  have hw1154_3 := hx1154_3
                  have hw1154_2 := hx1154_2
                  have hw1154_1 := hx1154_1
                  have hw1154_0 := hx1154_0
                  cases e1154
                  replace hx1154_0 := (HB.out.cell (World.block_lt_of_cell? w _ hx1154_0)).trans hx1154_0
                  replace hx1154_1 := (HB.out.cell (World.block_lt_of_cell? w _ hx1154_1)).trans hx1154_1
                  replace hx1154_2 := (HB.out.cell (World.block_lt_of_cell? w _ hx1154_2)).trans hx1154_2
                  replace hx1154_3 := (HB.out.cell (World.block_lt_of_cell? w _ hx1154_3)).trans hx1154_3
                  replace p1154 := eq_true p1154
                  replace q1154 := eq_true q1154
                  have p1158 : 0 ≤ (x7_2 : Int) := of_decide_eq_true (by first | (with_reducible assumption) | assumption)
                  have q1158 : x7_2 < (l1_1.length : Int) := of_decide_eq_true (by first | (with_reducible assumption) | assumption)
                  obtain ⟨ad1158, e1158, hx1158_0, hx1158_1, hx1158_2, hx1158_3⟩ := at_T45 HR1_1.out x7_2 p1158 q1158
                  have hw1158_3 := hx1158_3
                  have hw1158_2 := hx1158_2
                  have hw1158_1 := hx1158_1
                  have hw1158_0 := hx1158_0
                  cases e1158
                  replace hx1158_0 := (HB.out.cell (World.block_lt_of_cell? w _ hx1158_0)).trans hx1158_0
                  replace hx1158_1 := (HB.out.cell (World.block_lt_of_cell? w _ hx1158_1)).trans hx1158_1
                  replace hx1158_2 := (HB.out.cell (World.block_lt_of_cell? w _ hx1158_2)).trans hx1158_2
                  replace hx1158_3 := (HB.out.cell (World.block_lt_of_cell? w _ hx1158_3)).trans hx1158_3
                  replace p1158 := eq_true p1158
                  replace q1158 := eq_true q1158
                  refine start_ (n := 21) (S := fun w' => w'.cell? ⟨gb1143, 0, none⟩ = some (.int .i64 a0_0) ∧ w'.cell? ⟨gb1143, 1, none⟩ = some (.slice (some ad1154) l0_1.length c0_1) ∧ w'.cell? ⟨gb1144, 0, none⟩ = some (.int .i64 a1_0) ∧ w'.cell? ⟨gb1144, 1, none⟩ = some (.slice (some ad1158) l1_1.length c1_1) ∧ w'.cell? (ad1154.add ((x6_1).toNat * 4)) = some (.int .i64 ((rd_T45 l0_1 x6_1).f0)) ∧ w'.cell? ⟨(ad1154.add ((x6_1).toNat * 4)).block, (ad1154.add ((x6_1).toNat * 4)).off + 1, none⟩ = some (.int .i64 ((rd_T45 l0_1 x6_1).f1)) ∧ w'.cell? ⟨(ad1154.add ((x6_1).toNat * 4)).block, (ad1154.add ((x6_1).toNat * 4)).off + 2, none⟩ = some (.int .i64 ((rd_T45 l0_1 x6_1).f2)) ∧ w'.cell? ⟨(ad1154.add ((x6_1).toNat * 4)).block, (ad1154.add ((x6_1).toNat * 4)).off + 3, none⟩ = some (.int .i64 ((rd_T45 l0_1 x6_1).f3)) ∧ w'.cell? (ad1158.add ((x7_2).toNat * 4)) = some (.int .i64 ((rd_T45 l1_1 x7_2).f0)) ∧ w'.cell? ⟨(ad1158.add ((x7_2).toNat * 4)).block, (ad1158.add ((x7_2).toNat * 4)).off + 1, none⟩ = some (.int .i64 ((rd_T45 l1_1 x7_2).f1)) ∧ w'.cell? ⟨(ad1158.add ((x7_2).toNat * 4)).block, (ad1158.add ((x7_2).toNat * 4)).off + 2, none⟩ = some (.int .i64 ((rd_T45 l1_1 x7_2).f2)) ∧ w'.cell? ⟨(ad1158.add ((x7_2).toNat * 4)).block, (ad1158.add ((x7_2).toNat * 4)).off + 3, none⟩ = some (.int .i64 ((rd_T45 l1_1 x7_2).f3))) (ds := []) #[false, false, false, false, false, false, false, false, false, false, false, false, false, false, false, false, false, false, false, false, false] (by kernel_rfl) rfl rfl ⟨(blk_cell BK1143.out 0).trans rfl, (blk_cell BK1143.out 1).trans rfl, (blk_cell BK1144.out 0).trans rfl, (blk_cell BK1144.out 1).trans rfl, ((HB.out.cell (World.block_lt_of_cell? w _ hw1154_0)).trans hw1154_0), ((HB.out.cell (World.block_lt_of_cell? w _ hw1154_1)).trans hw1154_1), ((HB.out.cell (World.block_lt_of_cell? w _ hw1154_2)).trans hw1154_2), ((HB.out.cell (World.block_lt_of_cell? w _ hw1154_3)).trans hw1154_3), ((HB.out.cell (World.block_lt_of_cell? w _ hw1158_0)).trans hw1158_0), ((HB.out.cell (World.block_lt_of_cell? w _ hw1158_1)).trans hw1158_1), ((HB.out.cell (World.block_lt_of_cell? w _ hw1158_2)).trans hw1158_2), ((HB.out.cell (World.block_lt_of_cell? w _ hw1158_3)).trans hw1158_3)⟩ (fun hHeld => ?_); refine with_tabW spec_l01Product.tab12 spec_l01Product.bits12 (fun HT_ HW_ => ?_)
                  generalize wr.drew = w42 at HO_5 BK1143 BK1144 BK1145 BK1153 HB hx1154_0 hx1154_1 hx1154_2 hx1154_3 hx1158_0 hx1158_1 hx1158_2 hx1158_3 hHeld ⊢
                  refine pure_ (i := 0) (N := some 30) (v := ?_) (a' := ?_) #[true, false, false, false, false, false, false, false, false, false, false, false, false, false, false, false, false, false, false, false, false] rfl rfl (any_of HT_.out (by kernel_rfl)) (fun _ _ _ h => h) (Or.inl ⟨by rfl, ?_⟩) ?_ ?_
                  rotate_left
                  ·intro w'
                   go_simp
                   with_reducible rfl
                  rotate_left
                  ·simp only [Act.put, List.setIfInBounds_toArray, List.set_cons_zero, List.set_cons_succ, i64_w, i32_w]
                   rfl
                  refine pure_ (i := 1) (N := some 31) (v := ?_) (a' := ?_) #[true, true, false, false, false, false, false, false, false, false, false, false, false, false, false, false, false, false, false, false, false] rfl rfl (any_of HT_.out (by kernel_rfl)) (fun _ _ _ h => h) (Or.inl ⟨by rfl, ?_⟩) ?_ ?_
                  rotate_left
                  ·intro w'
                   go_simp
                   with_reducible rfl
                  rotate_left
                  ·simp only [Act.put, List.setIfInBounds_toArray, List.set_cons_zero, List.set_cons_succ, i64_w, i32_w]
                   rfl
                  refine pure_ (i := 3) (N := some 33) (v := ?_) (a' := ?_) #[true, true, false, true, false, false, false, false, false, false, false, false, false, false, false, false, false, false, false, false, false] rfl rfl (any_of HT_.out (by kernel_rfl)) (fun _ _ _ h => h) (Or.inl ⟨by rfl, ?_⟩) ?_ ?_
                  rotate_left
                  ·intro w'
                   go_simp
                   with_reducible rfl
                  rotate_left
                  ·simp only [Act.put, List.setIfInBounds_toArray, List.set_cons_zero, List.set_cons_succ, i64_w, i32_w]
                   rfl
                  refine pure_ (i := 4) (N := some 34) (v := ?_) (a' := ?_) #[true, true, false, true, true, false, false, false, false, false, false, false, false, false, false, false, false, false, false, false, false] rfl rfl (any_of HT_.out (by kernel_rfl)) (fun _ _ _ h => h) (Or.inl ⟨by rfl, ?_⟩) ?_ ?_
                  rotate_left
                  ·intro w'
                   go_simp
                   with_reducible rfl
                  rotate_left
                  ·simp only [Act.put, List.setIfInBounds_toArray, List.set_cons_zero, List.set_cons_succ, i64_w, i32_w]
                   rfl
                  refine pure_ (i := 8) (N := some 38) (v := ?_) (a' := ?_) #[true, true, false, true, true, false, false, false, true, false, false, false, false, false, false, false, false, false, false, false, false] rfl rfl (any_of HT_.out (by kernel_rfl)) (fun _ _ _ h => h) (Or.inl ⟨by rfl, ?_⟩) ?_ ?_
                  rotate_left
                  ·intro w'
                   go_simp
                   with_reducible rfl
                  rotate_left
                  ·simp only [Act.put, List.setIfInBounds_toArray, List.set_cons_zero, List.set_cons_succ, i64_w, i32_w]
                   rfl
                  refine pure_ (i := 11) (N := some 41) (v := ?_) (a' := ?_) #[true, true, false, true, true, false, false, false, true, false, false, true, false, false, false, false, false, false, false, false, false] rfl rfl (any_of HT_.out (by kernel_rfl)) (fun _ _ _ h => h) (Or.inl ⟨by rfl, ?_⟩) ?_ ?_
                  rotate_left
                  ·intro w'
                   go_simp
                   with_reducible rfl
                  rotate_left
                  ·simp only [Act.put, List.setIfInBounds_toArray, List.set_cons_zero, List.set_cons_succ, i64_w, i32_w]
                   rfl
                  refine pure_ (i := 13) (N := some 43) (v := ?_) (a' := ?_) #[true, true, false, true, true, false, false, false, true, false, false, true, false, true, false, false, false, false, false, false, false] rfl rfl (any_of HT_.out (by kernel_rfl)) (fun _ _ _ h => h) (Or.inl ⟨by rfl, ?_⟩) ?_ ?_
                  rotate_left
                  ·intro w'
                   go_simp
                   with_reducible rfl
                  rotate_left
                  ·simp only [Act.put, List.setIfInBounds_toArray, List.set_cons_zero, List.set_cons_succ, i64_w, i32_w]
                   rfl
                  refine pure_ (i := 14) (N := some 44) (v := ?_) (a' := ?_) #[true, true, false, true, true, false, false, false, true, false, false, true, false, true, true, false, false, false, false, false, false] rfl rfl (any_of HT_.out (by kernel_rfl)) (fun _ _ _ h => h) (Or.inl ⟨by rfl, ?_⟩) ?_ ?_
                  rotate_left
                  ·intro w'
                   go_simp
                   with_reducible rfl
                  rotate_left
                  ·simp only [Act.put, List.setIfInBounds_toArray, List.set_cons_zero, List.set_cons_succ, i64_w, i32_w]
                   rfl
                  refine take_ (i := 2) (N := some 32) (v := ?_) (a' := ?_) #[true, true, true, true, true, false, false, false, true, false, false, true, false, true, true, false, false, false, false, false, false] rfl rfl (take_ofW HT_.out HW_.out (by kernel_rfl)) (fun _ _ _ h => h) (Or.inl ⟨by rfl, ?_⟩) hHeld ?_ ?_
                  rotate_left
                  ·rintro w' ⟨s0, s1, s2, s3, s4, s5, s6, s7, s8, s9, s10, s11⟩
                   go_simp
                   with_reducible rfl
                  rotate_left
                  ·simp only [Act.put, List.setIfInBounds_toArray, List.set_cons_zero, List.set_cons_succ, i64_w, i32_w]
                   rfl
                  refine pure_ (i := 5) (N := some 35) (v := ?_) (a' := ?_) #[true, true, true, true, true, true, false, false, true, false, false, true, false, true, true, false, false, false, false, false, false] rfl rfl (any_of HT_.out (by kernel_rfl)) (fun _ _ _ h => h) (Or.inl ⟨by rfl, ?_⟩) ?_ ?_
                  rotate_left
                  ·intro w'
                   go_simp
                   with_reducible rfl
                  rotate_left
                  ·simp only [Act.put, List.setIfInBounds_toArray, List.set_cons_zero, List.set_cons_succ, i64_w, i32_w]
                   rfl
                  refine pure_ (i := 6) (N := some 36) (v := ?_) (a' := ?_) #[true, true, true, true, true, true, true, false, true, false, false, true, false, true, true, false, false, false, false, false, false] rfl rfl (any_of HT_.out (by kernel_rfl)) (fun _ _ _ h => h) (Or.inl ⟨by rfl, ?_⟩) ?_ ?_
                  rotate_left
                  ·intro w'
                   go_simp
                   with_reducible rfl
                  rotate_left
                  ·simp only [Act.put, List.setIfInBounds_toArray, List.set_cons_zero, List.set_cons_succ, i64_w, i32_w]
                   rfl
                  refine take_ (i := 7) (N := some 37) (v := ?_) (a' := ?_) #[true, true, true, true, true, true, true, true, true, false, false, true, false, true, true, false, false, false, false, false, false] rfl rfl (take_ofW HT_.out HW_.out (by kernel_rfl)) (fun _ _ _ h => h) (Or.inl ⟨by rfl, ?_⟩) hHeld ?_ ?_
                  rotate_left
                  ·rintro w' ⟨s0, s1, s2, s3, s4, s5, s6, s7, s8, s9, s10, s11⟩
                   go_simp
                   with_reducible rfl
                  rotate_left
                  ·simp only [Act.put, List.setIfInBounds_toArray, List.set_cons_zero, List.set_cons_succ, i64_w, i32_w]
                   rfl
                  refine take_ (i := 9) (N := some 39) (v := ?_) (a' := ?_) #[true, true, true, true, true, true, true, true, true, true, false, true, false, true, true, false, false, false, false, false, false] rfl rfl (take_ofW HT_.out HW_.out (by kernel_rfl)) (fun _ _ _ h => h) (Or.inl ⟨by rfl, ?_⟩) hHeld ?_ ?_
                  rotate_left
                  ·rintro w' ⟨s0, s1, s2, s3, s4, s5, s6, s7, s8, s9, s10, s11⟩
                   go_simp
                   with_reducible rfl
                  rotate_left
                  ·simp only [Act.put, List.setIfInBounds_toArray, List.set_cons_zero, List.set_cons_succ, i64_w, i32_w]
                   rfl
                  refine pure_ (i := 10) (N := some 40) (v := ?_) (a' := ?_) #[true, true, true, true, true, true, true, true, true, true, true, true, false, true, true, false, false, false, false, false, false] rfl rfl (any_of HT_.out (by kernel_rfl)) (fun _ _ _ h => h) (Or.inl ⟨by rfl, ?_⟩) ?_ ?_
                  rotate_left
                  ·intro w'
                   go_simp
                   with_reducible rfl
                  rotate_left
                  ·simp only [Act.put, List.setIfInBounds_toArray, List.set_cons_zero, List.set_cons_succ, i64_w, i32_w]
                   rfl
                  refine take_ (i := 12) (N := some 42) (v := ?_) (a' := ?_) #[true, true, true, true, true, true, true, true, true, true, true, true, true, true, true, false, false, false, false, false, false] rfl rfl (take_ofW HT_.out HW_.out (by kernel_rfl)) (fun _ _ _ h => h) (Or.inl ⟨by rfl, ?_⟩) hHeld ?_ ?_
                  rotate_left
                  ·rintro w' ⟨s0, s1, s2, s3, s4, s5, s6, s7, s8, s9, s10, s11⟩
                   go_simp
                   with_reducible rfl
                  rotate_left
                  ·simp only [Act.put, List.setIfInBounds_toArray, List.set_cons_zero, List.set_cons_succ, i64_w, i32_w]
                   rfl
                  refine pure_ (i := 15) (N := some 45) (v := ?_) (a' := ?_) #[true, true, true, true, true, true, true, true, true, true, true, true, true, true, true, true, false, false, false, false, false] rfl rfl (any_of HT_.out (by kernel_rfl)) (fun _ _ _ h => h) (Or.inl ⟨by rfl, ?_⟩) ?_ ?_
                  rotate_left
                  ·intro w'
                   go_simp
                   with_reducible rfl
                  rotate_left
                  ·simp only [Act.put, List.setIfInBounds_toArray, List.set_cons_zero, List.set_cons_succ, i64_w, i32_w]
                   rfl
                  refine pure_ (i := 16) (N := some 46) (v := ?_) (a' := ?_) #[true, true, true, true, true, true, true, true, true, true, true, true, true, true, true, true, true, false, false, false, false] rfl rfl (any_of HT_.out (by kernel_rfl)) (fun _ _ _ h => h) (Or.inl ⟨by rfl, ?_⟩) ?_ ?_
                  rotate_left
                  ·intro w'
                   go_simp
                   with_reducible rfl
                  rotate_left
                  ·simp only [Act.put, List.setIfInBounds_toArray, List.set_cons_zero, List.set_cons_succ, i64_w, i32_w]
                   rfl
                  refine take_ (i := 17) (N := some 47) (v := ?_) (a' := ?_) #[true, true, true, true, true, true, true, true, true, true, true, true, true, true, true, true, true, true, false, false, false] rfl rfl (take_ofW HT_.out HW_.out (by kernel_rfl)) (fun _ _ _ h => h) (Or.inl ⟨by rfl, ?_⟩) hHeld ?_ ?_
                  rotate_left
                  ·rintro w' ⟨s0, s1, s2, s3, s4, s5, s6, s7, s8, s9, s10, s11⟩
                   go_simp
                   with_reducible rfl
                  rotate_left
                  ·simp only [Act.put, List.setIfInBounds_toArray, List.set_cons_zero, List.set_cons_succ, i64_w, i32_w]
                   rfl
                  refine pure_ (i := 18) (N := some 48) (v := ?_) (a' := ?_) #[true, true, true, true, true, true, true, true, true, true, true, true, true, true, true, true, true, true, true, false, false] rfl rfl (any_of HT_.out (by kernel_rfl)) (fun _ _ _ h => h) (Or.inl ⟨by rfl, ?_⟩) ?_ ?_
                  rotate_left
                  ·intro w'
                   go_simp
                   with_reducible rfl
                  rotate_left
                  ·simp only [Act.put, List.setIfInBounds_toArray, List.set_cons_zero, List.set_cons_succ, i64_w, i32_w]
                   rfl
                  refine pure_ (i := 19) (N := some 49) (v := ?_) (a' := ?_) #[true, true, true, true, true, true, true, true, true, true, true, true, true, true, true, true, true, true, true, true, false] rfl rfl (any_of HT_.out (by kernel_rfl)) (fun _ _ _ h => h) (Or.inl ⟨by rfl, ?_⟩) ?_ ?_
                  rotate_left
                  ·intro w'
                   go_simp
                   with_reducible rfl
                  rotate_left
                  ·simp only [Act.put, List.setIfInBounds_toArray, List.set_cons_zero, List.set_cons_succ, i64_w, i32_w]
                   rfl
                  refine one_ (i := 20) (N := none) #[true, true, true, true, true, true, true, true, true, true, true, true, true, true, true, true, true, true, true, true, true] rfl rfl (one_of HT_.out (by kernel_rfl)) (by decide) (fun K hK => ?_)
                  have hs43 : w42.cell? ⟨gb1153, 3, none⟩ = some (.int .i64 x1154003_3) := (blk_cell BK1153.out 3).trans rfl
                  have hfs43 := blk_frozen BK1153.out 3
                  have hns43_0 := NB1143_1153.out
                  have hns43_1 := NB1144_1153.out
                  have hns43_2 := NB1145_1153.out
                  have hms43_0 := NB1153_1143.out
                  have hms43_1 := NB1153_1144.out
                  have hms43_2 := NB1153_1145.out
                  refine skip_ (w1 := ?_) (by rfl) rfl ?_ ?_
                  rotate_left
                  ·go_simp
                   rfl
                  refine hK.out _ _ ⟨((cell_far (p := ⟨gb1153, _, none⟩) NB1143_1153.out _).trans (hHeld.1)), ((cell_far (p := ⟨gb1153, _, none⟩) NB1143_1153.out _).trans (hHeld.2.1)), ((cell_far (p := ⟨gb1153, _, none⟩) NB1144_1153.out _).trans (hHeld.2.2.1)), ((cell_far (p := ⟨gb1153, _, none⟩) NB1144_1153.out _).trans (hHeld.2.2.2.1)), ((cell_far (p := ⟨gb1153, _, none⟩) (by first | exact Nat.ne_of_lt (Nat.lt_of_lt_of_le (by have := World.block_lt_of_cell? _ _ hw1154_0; first | rwa [add_block] at this | exact this) GW1153.out) | (rw [add_block]; exact Nat.ne_of_lt (Nat.lt_of_lt_of_le (by have := World.block_lt_of_cell? _ _ hw1154_0; first | rwa [add_block] at this | exact this) GW1153.out)) | (show (Addr.add _ _).block ≠ _; rw [add_block]; exact Nat.ne_of_lt (Nat.lt_of_lt_of_le (by have := World.block_lt_of_cell? _ _ hw1154_0; first | rwa [add_block] at this | exact this) GW1153.out)) | (dsimp only; exact Nat.ne_of_lt (Nat.lt_of_lt_of_le (by have := World.block_lt_of_cell? _ _ hw1154_0; first | rwa [add_block] at this | exact this) GW1153.out))) _).trans (hHeld.2.2.2.2.1)), ((cell_far (p := ⟨gb1153, _, none⟩) (by first | exact Nat.ne_of_lt (Nat.lt_of_lt_of_le (by have := World.block_lt_of_cell? _ _ hw1154_1; first | rwa [add_block] at this | exact this) GW1153.out) | (rw [add_block]; exact Nat.ne_of_lt (Nat.lt_of_lt_of_le (by have := World.block_lt_of_cell? _ _ hw1154_1; first | rwa [add_block] at this | exact this) GW1153.out)) | (show (Addr.add _ _).block ≠ _; rw [add_block]; exact Nat.ne_of_lt (Nat.lt_of_lt_of_le (by have := World.block_lt_of_cell? _ _ hw1154_1; first | rwa [add_block] at this | exact this) GW1153.out)) | (dsimp only; exact Nat.ne_of_lt (Nat.lt_of_lt_of_le (by have := World.block_lt_of_cell? _ _ hw1154_1; first | rwa [add_block] at this | exact this) GW1153.out))) _).trans (hHeld.2.2.2.2.2.1)), ((cell_far (p := ⟨gb1153, _, none⟩) (by first | exact Nat.ne_of_lt (Nat.lt_of_lt_of_le (by have := World.block_lt_of_cell? _ _ hw1154_2; first | rwa [add_block] at this | exact this) GW1153.out) | (rw [add_block]; exact Nat.ne_of_lt (Nat.lt_of_lt_of_le (by have := World.block_lt_of_cell? _ _ hw1154_2; first | rwa [add_block] at this | exact this) GW1153.out)) | (show (Addr.add _ _).block ≠ _; rw [add_block]; exact Nat.ne_of_lt (Nat.lt_of_lt_of_le (by have := World.block_lt_of_cell? _ _ hw1154_2; first | rwa [add_block] at this | exact this) GW1153.out)) | (dsimp only; exact Nat.ne_of_lt (Nat.lt_of_lt_of_le (by have := World.block_lt_of_cell? _ _ hw1154_2; first | rwa [add_block] at this | exact this) GW1153.out))) _).trans (hHeld.2.2.2.2.2.2.1)), ((cell_far (p := ⟨gb1153, _, none⟩) (by first | exact Nat.ne_of_lt (Nat.lt_of_lt_of_le (by have := World.block_lt_of_cell? _ _ hw1154_3; first | rwa [add_block] at this | exact this) GW1153.out) | (rw [add_block]; exact Nat.ne_of_lt (Nat.lt_of_lt_of_le (by have := World.block_lt_of_cell? _ _ hw1154_3; first | rwa [add_block] at this | exact this) GW1153.out)) | (show (Addr.add _ _).block ≠ _; rw [add_block]; exact Nat.ne_of_lt (Nat.lt_of_lt_of_le (by have := World.block_lt_of_cell? _ _ hw1154_3; first | rwa [add_block] at this | exact this) GW1153.out)) | (dsimp only; exact Nat.ne_of_lt (Nat.lt_of_lt_of_le (by have := World.block_lt_of_cell? _ _ hw1154_3; first | rwa [add_block] at this | exact this) GW1153.out))) _).trans (hHeld.2.2.2.2.2.2.2.1)), ((cell_far (p := ⟨gb1153, _, none⟩) (by first | exact Nat.ne_of_lt (Nat.lt_of_lt_of_le (by have := World.block_lt_of_cell? _ _ hw1158_0; first | rwa [add_block] at this | exact this) GW1153.out) | (rw [add_block]; exact Nat.ne_of_lt (Nat.lt_of_lt_of_le (by have := World.block_lt_of_cell? _ _ hw1158_0; first | rwa [add_block] at this | exact this) GW1153.out)) | (show (Addr.add _ _).block ≠ _; rw [add_block]; exact Nat.ne_of_lt (Nat.lt_of_lt_of_le (by have := World.block_lt_of_cell? _ _ hw1158_0; first | rwa [add_block] at this | exact this) GW1153.out)) | (dsimp only; exact Nat.ne_of_lt (Nat.lt_of_lt_of_le (by have := World.block_lt_of_cell? _ _ hw1158_0; first | rwa [add_block] at this | exact this) GW1153.out))) _).trans (hHeld.2.2.2.2.2.2.2.2.1)), ((cell_far (p := ⟨gb1153, _, none⟩) (by first | exact Nat.ne_of_lt (Nat.lt_of_lt_of_le (by have := World.block_lt_of_cell? _ _ hw1158_1; first | rwa [add_block] at this | exact this) GW1153.out) | (rw [add_block]; exact Nat.ne_of_lt (Nat.lt_of_lt_of_le (by have := World.block_lt_of_cell? _ _ hw1158_1; first | rwa [add_block] at this | exact this) GW1153.out)) | (show (Addr.add _ _).block ≠ _; rw [add_block]; exact Nat.ne_of_lt (Nat.lt_of_lt_of_le (by have := World.block_lt_of_cell? _ _ hw1158_1; first | rwa [add_block] at this | exact this) GW1153.out)) | (dsimp only; exact Nat.ne_of_lt (Nat.lt_of_lt_of_le (by have := World.block_lt_of_cell? _ _ hw1158_1; first | rwa [add_block] at this | exact this) GW1153.out))) _).trans (hHeld.2.2.2.2.2.2.2.2.2.1)), ((cell_far (p := ⟨gb1153, _, none⟩) (by first | exact Nat.ne_of_lt (Nat.lt_of_lt_of_le (by have := World.block_lt_of_cell? _ _ hw1158_2; first | rwa [add_block] at this | exact this) GW1153.out) | (rw [add_block]; exact Nat.ne_of_lt (Nat.lt_of_lt_of_le (by have := World.block_lt_of_cell? _ _ hw1158_2; first | rwa [add_block] at this | exact this) GW1153.out)) | (show (Addr.add _ _).block ≠ _; rw [add_block]; exact Nat.ne_of_lt (Nat.lt_of_lt_of_le (by have := World.block_lt_of_cell? _ _ hw1158_2; first | rwa [add_block] at this | exact this) GW1153.out)) | (dsimp only; exact Nat.ne_of_lt (Nat.lt_of_lt_of_le (by have := World.block_lt_of_cell? _ _ hw1158_2; first | rwa [add_block] at this | exact this) GW1153.out))) _).trans (hHeld.2.2.2.2.2.2.2.2.2.2.1)), ((cell_far (p := ⟨gb1153, _, none⟩) (by first | exact Nat.ne_of_lt (Nat.lt_of_lt_of_le (by have := World.block_lt_of_cell? _ _ hw1158_3; first | rwa [add_block] at this | exact this) GW1153.out) | (rw [add_block]; exact Nat.ne_of_lt (Nat.lt_of_lt_of_le (by have := World.block_lt_of_cell? _ _ hw1158_3; first | rwa [add_block] at this | exact this) GW1153.out)) | (show (Addr.add _ _).block ≠ _; rw [add_block]; exact Nat.ne_of_lt (Nat.lt_of_lt_of_le (by have := World.block_lt_of_cell? _ _ hw1158_3; first | rwa [add_block] at this | exact this) GW1153.out)) | (dsimp only; exact Nat.ne_of_lt (Nat.lt_of_lt_of_le (by have := World.block_lt_of_cell? _ _ hw1158_3; first | rwa [add_block] at this | exact this) GW1153.out))) _).trans (hHeld.2.2.2.2.2.2.2.2.2.2.2))⟩ (fun hHeld => ?_)
                  clear hK K
                  refine done_ (done_of HT_.out (by kernel_rfl)) ?_
                  try go_wp2
                  go_roundg k3
                  case measure => have := HK1.out; have := HK2.out; have := HK3.out; omega
                  case rel => exact ⟨(wrap64 (3 + 1)), (x1154000_3), (x1154001_3), (x1154002_3), (wrap64 ((wrap64 (((rd_T45 l0_1 x6_1).f3) * a1_0)) + ((rd_T45 l1_1 x7_2).f3))), (by first | rfl | (simp; done) | (simp [*]; done) | (simp; decide +kernel)), H', ⟨by have := HK1.out; have := HK2.out; have := HK3.out; omega⟩, ⟨by (with_reducible repeat (first | apply Kd.R_alloc | apply Kd.R_drewN | apply Kd.R_drew)); exact Kd.R_mono (Kd.R_far (p := ⟨gb1153, 3, none⟩) (Kd.R_mono HO_5.out (fun k_ hk => (⟨hk, hk⟩ : _ ∧ k_ ≠ gb1153))) (fun _ hk => hk.2) (.int .i64 (wrap64 ((wrap64 (((rd_T45 l0_1 x6_1).f3) * a1_0)) + ((rd_T45 l1_1 x7_2).f3))))) (fun _ hk => hk.1)⟩, ⟨by (with_reducible repeat (first | refine blk_drewN ?_ _ | refine blk_drew ?_ | refine blk_alloc ?_ _)); refine blk_far ?_ NB1143_1153.out _; (with_reducible repeat (first | refine blk_drewN ?_ _ | refine blk_drew ?_ | refine blk_alloc ?_ _)); exact BK1143.out⟩, ⟨by (with_reducible repeat (first | refine blk_drewN ?_ _ | refine blk_drew ?_ | refine blk_alloc ?_ _)); refine blk_far ?_ NB1144_1153.out _; (with_reducible repeat (first | refine blk_drewN ?_ _ | refine blk_drew ?_ | refine blk_alloc ?_ _)); exact BK1144.out⟩, ⟨by (with_reducible repeat (first | refine blk_drewN ?_ _ | refine blk_drew ?_ | refine blk_alloc ?_ _)); refine blk_far ?_ NB1145_1153.out _; (with_reducible repeat (first | refine blk_drewN ?_ _ | refine blk_drew ?_ | refine blk_alloc ?_ _)); exact BK1145.out⟩, ⟨by (with_reducible repeat (first | refine blk_drewN ?_ _ | refine blk_drew ?_ | refine blk_alloc ?_ _)); refine blk_put (cs := #[.int .i64 x1154000_3, .int .i64 x1154001_3, .int .i64 x1154002_3, .int .i64 x1154003_3]) ?_ 3 _ rfl; (with_reducible repeat (first | refine blk_drewN ?_ _ | refine blk_drew ?_ | refine blk_alloc ?_ _)); exact BK1153.out⟩, ⟨by repeat (first | (with_reducible first | exact HB.out | apply below_alloc | apply pw_below_drewN | apply below_drew1 | refine below_set ?_ GE1143.out | refine below_set ?_ GE1144.out | refine below_set ?_ GE1145.out | refine below_set ?_ GE1153.out) | exact HB.out)⟩⟩
                 ·rw [if_neg c41] at H
                  exact absurd H (by simp)
                ·rw [if_neg c40] at H
                 exact absurd H (by simp)
               ·rw [if_neg c39] at H
                clear c39
                exact absurd H (by simp)
           ·rw [if_neg c23] at H
            exact absurd H (by simp)
          ·rw [if_neg c22] at H
           exact absurd H (by simp)
         ·rw [if_neg c21] at H
          have c21b0 : decide (x9_3 < 4) = false := decide_eq_false c21
          clear c21
          by_cases c44 : x5_2.length < 4398046511104
          ·rw [if_pos c44] at H
           have LMc44 := Aside0.mk c44
           clear c44
           obtain ⟨y1159, hy1159⟩ : ∃ y_ : List (S45), y_ = (x5_2 ++ [(⟨x1154000_3, x1154001_3, x1154002_3, x1154003_3⟩ : S45)]) := ⟨_, rfl⟩
           replace H : (spec_l01Product.l1 k3 y1159 x6_1 (wrap64 (x7_2 + 1)) a0_0 l0_1 a1_0 l1_1) = some (r1, r2) := by first | (rw [hy1159]; with_reducible exact H) | (have H2_ := (Option.bind_some _ _).symm.trans H; rw [hy1159]; with_reducible exact H2_) | (have H2_ := (Option.bind_some _ _).symm.trans H; with_reducible exact H2_) | with_reducible exact H | (rw [hy1159]; exact H) | exact H
           have Ny1159 := Aside0.mk hy1159
           clear hy1159
           have H' := Aside0.mk H
           clear H
           have hnb45 := NB1153_1143.out
           have hnc45 := NB1143_1153.out
           have hnb46 := NB1153_1144.out
           have hnc46 := NB1144_1153.out
           have hnb47 := NB1153_1145.out
           have hnc47 := NB1145_1153.out
           have hcz48_0 : wr.cell? ⟨gb1153, 0, none⟩ = some (.int .i64 x1154000_3) := (blk_cell BK1153.out 0).trans rfl
           have hcz48_1 : wr.cell? ⟨gb1153, 1, none⟩ = some (.int .i64 x1154001_3) := (blk_cell BK1153.out 1).trans rfl
           have hcz48_2 : wr.cell? ⟨gb1153, 2, none⟩ = some (.int .i64 x1154002_3) := (blk_cell BK1153.out 2).trans rfl
           have hcz48_3 : wr.cell? ⟨gb1153, 3, none⟩ = some (.int .i64 x1154003_3) := (blk_cell BK1153.out 3).trans rfl
           have hfz48_0 := blk_frozen BK1153.out 0
           have hfz48_1 := blk_frozen BK1153.out 1
           have hfz48_2 := blk_frozen BK1153.out 2
           have hfz48_3 := blk_frozen BK1153.out 3
           go_wp2_with (first | ((with_reducible refine gate_builtin (b := .append) (xs := #[.tmp 50, .tmp 52]) rfl ?_); at_builtin; refine Kd.R_append k45 (w0 := w) w.heap.size rfl (.tmp 50) (.tmp 52) 24 45 (.agg #[(.int .i64 0), (.int .i64 0), (.int .i64 0), (.int .i64 0)]) 32 rfl Try.underlying24 info45 rfl (by decide) (by omega) u5 x5_2 (⟨x1154000_3, x1154001_3, x1154002_3, x1154003_3⟩ : S45) [.int .i64 x1154000_3, .int .i64 x1154001_3, .int .i64 x1154002_3, .int .i64 x1154003_3] (fun k_ => k_ ≠ gb1153) (fun _ => False) rfl rfl ?aP (fun _ hk => hk.elim) ?aF ?aO ?aB ?aS ?aL ?_; (case aP => exact k45_mkM _ _ _ (⟨x1154000_3, x1154001_3, x1154002_3, x1154003_3⟩ : S45)); (case aB => exact (by repeat (first | (with_reducible first | exact HB.out | apply below_alloc | apply pw_below_drewN | apply below_drew1 | refine below_set ?_ GE1143.out | refine below_set ?_ GE1144.out | refine below_set ?_ GE1145.out | refine below_set ?_ GE1153.out) | exact HB.out))); (case aF => exact (fun k_ hk => Kd.freshB (g := gb1153) (o := .cells #[.int .i64 x1154000_3, .int .i64 x1154001_3, .int .i64 x1154002_3, .int .i64 x1154003_3] 45 (0, 0)) (by (with_reducible repeat (first | refine blk_drewN ?_ _ | refine blk_drew ?_ | refine blk_alloc ?_ _)); exact BK1153.out) k_ hk)); (case aO => exact (by (with_reducible repeat (first | apply Kd.R_alloc | apply Kd.R_drewN | apply Kd.R_drew)); exact HO_5.out)); (case aS => exact (below_size (by repeat (first | (with_reducible first | exact HB.out | apply below_alloc | apply pw_below_drewN | apply below_drew1 | refine below_set ?_ GE1143.out | refine below_set ?_ GE1144.out | refine below_set ?_ GE1145.out | refine below_set ?_ GE1153.out) | exact HB.out)))); (case aL => have := LMc44.out; omega); intro v1160 w49 ho hb hg hat; rw [← Ny1159.out] at ho; have n0_ := Aside0.mk (blk_grown (g := gb1143) (o := .cells #[.int .i64 a0_0, .slice A0_1 l0_1.length c0_1] 26 (0, 0)) (by (with_reducible repeat (first | refine blk_drewN ?_ _ | refine blk_drew ?_ | refine blk_alloc ?_ _)); exact BK1143.out) hg (Kd.R_ne HO_5.out BK1143.out (by decide))); have n1_ := Aside0.mk (blk_grown (g := gb1144) (o := .cells #[.int .i64 a1_0, .slice A1_1 l1_1.length c1_1] 26 (0, 0)) (by (with_reducible repeat (first | refine blk_drewN ?_ _ | refine blk_drew ?_ | refine blk_alloc ?_ _)); exact BK1144.out) hg (Kd.R_ne HO_5.out BK1144.out (by decide))); have n2_ := Aside0.mk (blk_grown (g := gb1145) (o := .cells #[.int .i64 0, .slice none 0 0] 26 (0, 0)) (by (with_reducible repeat (first | refine blk_drewN ?_ _ | refine blk_drew ?_ | refine blk_alloc ?_ _)); exact BK1145.out) hg (Kd.R_ne HO_5.out BK1145.out (by decide))); have n3_ := Aside0.mk (blk_grown (g := gb1153) (o := .cells #[.int .i64 x1154000_3, .int .i64 x1154001_3, .int .i64 x1154002_3, .int .i64 x1154003_3] 45 (0, 0)) (by (with_reducible repeat (first | refine blk_drewN ?_ _ | refine blk_drew ?_ | refine blk_alloc ?_ _)); exact BK1153.out) hg (Kd.R_away HO_5.out (fun _ hk => hk))); have n4_ := Aside0.mk (hb); have n5_ := Aside0.mk (ho); clear BK1143; clear BK1144; clear BK1145; clear BK1153; clear HB; clear HO_5; have BK1143 := n0_; have BK1144 := n1_; have BK1145 := n2_; have BK1153 := n3_; have HB := n4_; have HO1161 := n5_; clear n0_ n1_ n2_ n3_ n4_ n5_; clear ho hb hg hat))
           go_roundg k3
           case measure => have := HK1.out; have := HK2.out; have := HK3.out; omega
           case rel => exact ⟨(y1159), (wrap64 (x7_2 + 1)), (by first | rfl | (simp; done) | (simp [*]; done) | (simp; decide +kernel)), H', ⟨by have := HK1.out; have := HK2.out; have := HK3.out; omega⟩, ⟨by (with_reducible repeat (first | apply Kd.R_alloc | apply Kd.R_drewN | apply Kd.R_drew)); exact Kd.R_mono HO1161.out (fun _ hk => trivial)⟩, ⟨by (with_reducible repeat (first | refine blk_drewN ?_ _ | refine blk_drew ?_ | refine blk_alloc ?_ _)); exact BK1143.out⟩, ⟨by (with_reducible repeat (first | refine blk_drewN ?_ _ | refine blk_drew ?_ | refine blk_alloc ?_ _)); exact BK1144.out⟩, ⟨by (with_reducible repeat (first | refine blk_drewN ?_ _ | refine blk_drew ?_ | refine blk_alloc ?_ _)); exact BK1145.out⟩, ⟨by repeat (first | (with_reducible first | exact HB.out | apply below_alloc | apply pw_below_drewN | apply below_drew1 | refine below_set ?_ GE1143.out | refine below_set ?_ GE1144.out | refine below_set ?_ GE1145.out | refine below_set ?_ GE1153.out) | exact HB.out)⟩⟩
          ·rw [if_neg c44] at H
           exact absurd H (by simp)
      ·rw [if_neg c12] at H
       have c12b0 : decide (x7_2 < (l1_1.length : Int)) = false := decide_eq_false c12
       clear c12
       have H' := Aside0.mk H
       clear H
       have hnb50 := NB1144_1143.out
       have hnc50 := NB1143_1144.out
       have hnb51 := NB1144_1145.out
       have hnc51 := NB1145_1144.out
       have hcz52_0 : wr.cell? ⟨gb1144, 0, none⟩ = some (.int .i64 a1_0) := (blk_cell BK1144.out 0).trans rfl
       have hcz52_1 : wr.cell? ⟨gb1144, 1, none⟩ = some (.slice A1_1 l1_1.length c1_1) := (blk_cell BK1144.out 1).trans rfl
       have hfz52_0 := blk_frozen BK1144.out 0
       have hfz52_1 := blk_frozen BK1144.out 1
       go_wp2
       go_roundg k2
       case measure => have := HK1.out; have := HK2.out; omega
       case rel => exact ⟨(x5_2), (wrap64 (x6_1 + 1)), (by first | rfl | (simp; done) | (simp [*]; done) | (simp; decide +kernel)), H', ⟨by have := HK1.out; have := HK2.out; omega⟩, ⟨by (with_reducible repeat (first | apply Kd.R_alloc | apply Kd.R_drewN | apply Kd.R_drew)); exact HO_5.out⟩, ⟨by (with_reducible repeat (first | refine blk_drewN ?_ _ | refine blk_drew ?_ | refine blk_alloc ?_ _)); exact BK1143.out⟩, ⟨by (with_reducible repeat (first | refine blk_drewN ?_ _ | refine blk_drew ?_ | refine blk_alloc ?_ _)); exact BK1144.out⟩, ⟨by (with_reducible repeat (first | refine blk_drewN ?_ _ | refine blk_drew ?_ | refine blk_alloc ?_ _)); exact BK1145.out⟩, ⟨by repeat (first | (with_reducible first | exact HB.out | apply below_alloc | apply pw_below_drewN | apply below_drew1 | refine below_set ?_ GE1143.out | refine below_set ?_ GE1144.out | refine below_set ?_ GE1145.out) | exact HB.out)⟩⟩
   ·rw [if_neg c8] at H
    have c8b0 : decide (x6_1 < (l0_1.length : Int)) = false := decide_eq_false c8
    clear c8
    replace H := Option.bind_eq_some_iff.mp H
    obtain ⟨⟨t1149, t1150⟩, A530, H⟩ := H
    replace H : (some (t1149, t1150)) = some (r1, r2) := H
    have A53 := Aside0.mk A530
    clear A530
    simp only [Option.some.injEq, Prod.mk.injEq] at H
    obtain ⟨rfl, rfl⟩ := H
    have hnb54 := NB1143_1144.out
    have hnc54 := NB1144_1143.out
    have hnb55 := NB1143_1145.out
    have hnc55 := NB1145_1143.out
    have hcz56_0 : wr.cell? ⟨gb1143, 0, none⟩ = some (.int .i64 a0_0) := (blk_cell BK1143.out 0).trans rfl
    have hcz56_1 : wr.cell? ⟨gb1143, 1, none⟩ = some (.slice A0_1 l0_1.length c0_1) := (blk_cell BK1143.out 1).trans rfl
    have hfz56_0 := blk_frozen BK1143.out 0
    have hfz56_1 := blk_frozen BK1143.out 1
    have hnb57 := NB1144_1145.out
    have hnc57 := NB1145_1144.out
    have hcz58_0 : wr.cell? ⟨gb1144, 0, none⟩ = some (.int .i64 a1_0) := (blk_cell BK1144.out 0).trans rfl
    have hcz58_1 : wr.cell? ⟨gb1144, 1, none⟩ = some (.slice A1_1 l1_1.length c1_1) := (blk_cell BK1144.out 1).trans rfl
    have hfz58_0 := blk_frozen BK1144.out 0
    have hfz58_1 := blk_frozen BK1144.out 1
    obtain ⟨Ao59, co59, eo59⟩ := Kd.R_slice HO_5.out
    subst eo59
    go_wp2_with (first | ((with_reducible refine gate_callee (f := 52) rfl ?_); refine goesL_ (some 60) rfl rfl Try.func52 (by kernel_rfl) rfl #[.int .i64 (wrap64 (a0_0 * a1_0)), .slice Ao59 x5_1.length co59] rfl (by (try simp only [List.map_toArray, List.map_cons, List.map_nil]); first | done | rfl | (simp only [List.length_drop, List.length_take]; rfl)) ?_; (with_reducible refine (spec_l01Made.calls (wrap64 (a0_0 * a1_0)) _ _ x5_1 t1149 t1150 _ ?side1 ?side2 A53.out).mono ?_); (case side1 => repeat (first | exact (Kd.R_reads' HO_5.out).2.2 | (with_reducible refine Kd.C_alloc ?_ _) | (with_reducible refine Kd.C_drewN ?_ _) | (with_reducible refine Kd.C_drew ?_))); (case side2 => exact (Kd.R_reads' HO_5.out).2.1); rintro e w60 ⟨v1151, rfl, ho0, hb⟩; refine ⟨_, rfl, ?_⟩; have n0_ := Aside0.mk (Kd.R_elder' (by (with_reducible repeat (first | apply Kd.R_alloc | apply Kd.R_drewN | apply Kd.R_drew)); exact HO_5.out) (Kd.R_base ho0) hb); have n1_ := Aside0.mk (Kd.R_lower (Kd.R_new' ho0 (Kd.R_lt (by (with_reducible repeat (first | apply Kd.R_alloc | apply Kd.R_drewN | apply Kd.R_drew)); exact HO_5.out))) (below_size (by repeat (first | (with_reducible first | exact HB.out | apply below_alloc | apply pw_below_drewN | apply below_drew1 | refine below_set ?_ GE1143.out | refine below_set ?_ GE1144.out | refine below_set ?_ GE1145.out) | exact HB.out)))); have n2_ := Aside0.mk (blk_below (g := gb1143) (o := .cells #[.int .i64 a0_0, .slice A0_1 l0_1.length c0_1] 26 (0, 0)) (by (with_reducible repeat (first | refine blk_drewN ?_ _ | refine blk_drew ?_ | refine blk_alloc ?_ _)); exact BK1143.out) hb); have n3_ := Aside0.mk (blk_below (g := gb1144) (o := .cells #[.int .i64 a1_0, .slice A1_1 l1_1.length c1_1] 26 (0, 0)) (by (with_reducible repeat (first | refine blk_drewN ?_ _ | refine blk_drew ?_ | refine blk_alloc ?_ _)); exact BK1144.out) hb); have n4_ := Aside0.mk (blk_below (g := gb1145) (o := .cells #[.int .i64 0, .slice none 0 0] 26 (0, 0)) (by (with_reducible repeat (first | refine blk_drewN ?_ _ | refine blk_drew ?_ | refine blk_alloc ?_ _)); exact BK1145.out) hb); have n5_ := Aside0.mk (below_step (by repeat (first | (with_reducible first | exact HB.out | apply below_alloc | apply pw_below_drewN | apply below_drew1 | refine below_set ?_ GE1143.out | refine below_set ?_ GE1144.out | refine below_set ?_ GE1145.out) | exact HB.out)) hb); clear HO_5; clear BK1143; clear BK1144; clear BK1145; clear HB; have HO_5 := n0_; have HO1152 := n1_; have BK1143 := n2_; have BK1144 := n3_; have BK1145 := n4_; have HB := n5_; clear n0_ n1_ n2_ n3_ n4_ n5_; (try clear hb); (try clear hb2); (try clear hk); (try clear hi); (try clear ho0); have hcz61_0 : w60.cell? ⟨gb1145, 0, none⟩ = some (.int .i64 0) := (blk_cell BK1145.out 0).trans rfl; have hcz61_1 : w60.cell? ⟨gb1145, 1, none⟩ = some (.slice none 0 0) := (blk_cell BK1145.out 1).trans rfl; have hfz61_0 := blk_frozen BK1145.out 0; have hfz61_1 := blk_frozen BK1145.out 1; obtain ⟨Ao62, co62, eo62⟩ := Kd.R_slice HO1152.out; subst eo62))
    refine bodyPost_ret (results_cell_row rfl _ _ gb1145 26 #[.int .i64 t1149, .slice Ao62 t1150.length co62] (0, 0) _ rfl (by (with_reducible repeat (first | refine blk_drewN ?_ _ | refine blk_drew ?_ | refine blk_alloc ?_ _)); refine blk_put (cs := #[.int .i64 t1149, .slice none 0 0]) ?_ 1 _ rfl; (with_reducible repeat (first | refine blk_drewN ?_ _ | refine blk_drew ?_ | refine blk_alloc ?_ _)); refine blk_put (cs := #[.int .i64 0, .slice none 0 0]) ?_ 0 _ rfl; (with_reducible repeat (first | refine blk_drewN ?_ _ | refine blk_drew ?_ | refine blk_alloc ?_ _)); exact BK1145.out) Try.underlying26 rfl (by kernel_rfl)) rfl ?_
    exact ⟨_, by first | rfl | (simp [errW_none, errW_some] <;> rfl) | (simp [*, errW_none, errW_some] <;> rfl), by (with_reducible repeat (first | apply Kd.R_alloc | apply Kd.R_drewN | apply Kd.R_drew)); exact Kd.R_mono (Kd.R_far (p := ⟨gb1145, 1, none⟩) (Kd.R_far (p := ⟨gb1145, 0, none⟩) (Kd.R_types HO1152.out BK1145.out (by decide)) (fun _ hk => hk.2) (.int .i64 t1149)) (fun _ hk => hk.2) (.slice Ao62 t1150.length co62)) (fun _ hk => trivial), by repeat (first | (with_reducible first | exact HB.out | apply below_alloc | apply pw_below_drewN | apply below_drew1 | refine below_set ?_ GE1143.out | refine below_set ?_ GE1144.out | refine below_set ?_ GE1145.out) | exact HB.out)⟩
end Go.Proofs.Ytnjmgmdpkogocaa.Q
namespace Go.Proofs.Ytnjmgmdpkogocaa.Q
open Go.RowKit Go.Proofs.YtnjmgmdpkogocaaW.PrintWords Go.Proofs.YtnjmgmdpkogocaaW.PrintLast Go.Proofs.YtnjmgmdpkogocaaW.PrintMore
attribute [local go_sem] max2_int min2_int max_two min_two max_three min_three max_four min_four
set_option linter.unusedVariables false
set_option linter.unusedSimpArgs false
def spec_ProductOfSets.j0 : Nat → Bool → Int → List (S45) → Int → List (S45) → Option (Int × (List (S45)) × Int)
 | 0, _, _, _, _, _ => none
 | k + 1, x15, x1163000, x1163001, x1164000, x1164001 => if x15 = true then (some (0, ([] : List (S45)), 1)) else ((spec_l01Product.f k x1163000 x1163001 x1164000 x1164001).bind fun bt1167 => ((spec_l01Told.f bt1167.1 bt1167.2).bind fun bt1171 => (some (bt1171.1, bt1171.2.1, bt1171.2.2))))
def spec_ProductOfSets.f (k : Nat) (a0_0 : Int) (l0_1 : List (S45)) (a1_0 : Int) (l1_1 : List (S45)) : Option (Int × (List (S45)) × Int) := (spec_l01Is.f a0_0 l0_1).bind fun t1165 => (if t1165 = true then ((spec_l01Is.f a1_0 l1_1).bind fun t1166 => (spec_ProductOfSets.j0 k (!t1166) a0_0 l0_1 a1_0 l1_1)) else (spec_ProductOfSets.j0 k true a0_0 l0_1 a1_0 l1_1))
theorem spec_ProductOfSets.mono_l : ∀ k, (∀ y0 y1 y2 y3 y4, LeO (spec_ProductOfSets.j0 k y0 y1 y2 y3 y4) (spec_ProductOfSets.j0 (k + 1) y0 y1 y2 y3 y4))
 | 0 => fun _ _ _ _ _ r h => by simp [spec_ProductOfSets.j0] at h
 | k + 1 => by
  have ih0 := spec_ProductOfSets.mono_l k
  ·intro y0 y1 y2 y3 y4
   unfold spec_ProductOfSets.j0
   repeat' first
   | (with_reducible exact ih0 _ _ _ _ _)
   | (with_reducible exact spec_l01Product.mono _ _ _ _ _)
   | (with_reducible exact LeO.refl _)
   | (with_reducible exact LeO.none _)
   | (with_reducible refine LeO.ite ?_ ?_)
   | (with_reducible refine LeO.bind ?_ (fun _ => ?_))
   | exact ih0 _ _ _ _ _
   | exact spec_l01Product.mono _ _ _ _ _
   | exact LeO.none _
   | refine LeO.ite ?_ ?_
   | refine LeO.bind ?_ (fun _ => ?_)
theorem spec_ProductOfSets.mono : ∀ a0 a1 a2 a3 k, LeO (spec_ProductOfSets.f k a0 a1 a2 a3) (spec_ProductOfSets.f (k + 1) a0 a1 a2 a3) := by
 intro a0 a1 a2 a3 k
 have ih0 := spec_ProductOfSets.mono_l k
 unfold spec_ProductOfSets.f
 repeat' first
   | (with_reducible exact ih0 _ _ _ _ _)
   | (with_reducible exact spec_l01Product.mono _ _ _ _ _)
   | (with_reducible exact LeO.refl _)
   | (with_reducible exact LeO.none _)
   | (with_reducible refine LeO.ite ?_ ?_)
   | (with_reducible refine LeO.bind ?_ (fun _ => ?_))
   | exact ih0 _ _ _ _ _
   | exact spec_l01Product.mono _ _ _ _ _
   | exact LeO.none _
   | refine LeO.ite ?_ ?_
   | refine LeO.bind ?_ (fun _ => ?_)
set_option maxHeartbeats 8000000 in
set_option maxRecDepth 100000 in
theorem spec_ProductOfSets.calls (k : Nat) (a0_0 : Int) (A0_1 : Option Addr) (c0_1 : Nat) (l0_1 : List (S45)) (a1_0 : Int) (A1_1 : Option Addr) (c1_1 : Nat) (l1_1 : List (S45)) (r1 : Int) (r2 : List (S45)) (r3 : Int) (w : World) (hr0_1 : Kd.C k45 w A0_1 l0_1.length l0_1) (hc0_1 : l0_1.length ≤ c0_1) (hr1_1 : Kd.C k45 w A1_1 l1_1.length l1_1) (hc1_1 : l1_1.length ≤ c1_1) (h : spec_ProductOfSets.f k a0_0 l0_1 a1_0 l1_1 = some (r1, r2, r3)) :
  Calls Try.prog 34 #[.agg #[.int .i64 a0_0, .slice A0_1 l0_1.length c0_1], .agg #[.int .i64 a1_0, .slice A1_1 l1_1.length c1_1]] w fun e w' => ∃ v1_ : Value, e = .returned (.tuple #[.agg #[.int .i64 r1, v1_], .int .i64 r3]) ∧ Kd.R k45 45 w' w.heap.size (fun _ => True) v1_ r2 ∧ Below w.heap.size w w' := by
 have hu26 := Try.underlying26
 have HR0_1 := Aside0.mk hr0_1
 have HC0_1 := Aside0.mk hc0_1
 clear hr0_1 hc0_1
 have HR1_1 := Aside0.mk hr1_1
 have HC1_1 := Aside0.mk hc1_1
 clear hr1_1 hc1_1
 have HB := Aside0.mk (Below.refl w.heap.size w)
 have H : ((spec_l01Is.f a0_0 l0_1).bind fun t1165 => (if t1165 = true then ((spec_l01Is.f a1_0 l1_1).bind fun t1166 => (spec_ProductOfSets.j0 k (!t1166) a0_0 l0_1 a1_0 l1_1)) else (spec_ProductOfSets.j0 k true a0_0 l0_1 a1_0 l1_1))) = some (r1, r2, r3) := h
 clear h
 have HC3 := Aside0.mk H
 clear H
 go_enter Try.func34, Try.ntmps34
 go_upto_region 1 with (first | ((with_reducible refine gate_dst (N := 2) rfl ?_); refine box_event ?hg (N := 2) ?hd (cs := #[.int .i64 a0_0, .slice A0_1 l0_1.length c0_1]) (t := 26) ?hr ?_; (case hd => rfl); (case hg => rfl); (case hr => first | (go_simp; done) | (go_simp; rfl)); intro gb1162 hg w4 hbox hb; have n0_ := Aside0.mk (below_step (by repeat (first | (with_reducible first | exact HB.out | apply below_alloc | apply pw_below_drewN | apply below_drew1) | exact HB.out)) hb); have n1_ := Aside0.mk (hbox); have n2_ := Aside0.mk ((by rw [hg]; exact (below_size (by repeat (first | (with_reducible first | exact HB.out | apply below_alloc | apply pw_below_drewN | apply below_drew1) | exact HB.out))) : w.heap.size ≤ gb1162)); have n3_ := Aside0.mk ((by rw [hg]; exact (below_size (by repeat (first | (with_reducible first | exact HB.out | apply below_alloc | apply pw_below_drewN | apply below_drew1) | exact HB.out))) : w.heap.size ≤ gb1162)); clear HB; have HB := n0_; have BK1162 := n1_; have GW1162 := n2_; have GE1162 := n3_; clear n0_ n1_ n2_ n3_; clear hb hbox hg) | ((with_reducible refine gate_dst (N := 3) rfl ?_); refine box_event ?hg (N := 3) ?hd (cs := #[.int .i64 a1_0, .slice A1_1 l1_1.length c1_1]) (t := 26) ?hr ?_; (case hd => rfl); (case hg => rfl); (case hr => first | (go_simp; done) | (go_simp; rfl)); intro gb1163 hg w5 hbox hb; have n0_ := Aside0.mk (blk_below (g := gb1162) (o := .cells #[.int .i64 a0_0, .slice A0_1 l0_1.length c0_1] 26 (0, 0)) (by (with_reducible repeat (first | refine blk_drewN ?_ _ | refine blk_drew ?_ | refine blk_alloc ?_ _)); exact BK1162.out) hb); have n1_ := Aside0.mk (below_step (by repeat (first | (with_reducible first | exact HB.out | apply below_alloc | apply pw_below_drewN | apply below_drew1 | refine below_set ?_ GE1162.out) | exact HB.out)) hb); have n2_ := Aside0.mk (hbox); have n3_ := Aside0.mk ((by rw [hg]; exact (below_size (by repeat (first | (with_reducible first | exact HB.out | apply below_alloc | apply pw_below_drewN | apply below_drew1 | refine below_set ?_ GE1162.out) | exact HB.out))) : w.heap.size ≤ gb1163)); have n4_ := Aside0.mk ((by rw [hg]; exact (below_size (by repeat (first | (with_reducible first | exact HB.out | apply below_alloc | apply pw_below_drewN | apply below_drew1 | refine below_set ?_ GE1162.out) | exact HB.out))) : w.heap.size ≤ gb1163)); have n5_ := Aside0.mk ((by rw [hg]; exact Nat.ne_of_lt (blk_lt (g := gb1162) (o := .cells #[.int .i64 a0_0, .slice A0_1 l0_1.length c0_1] 26 (0, 0)) (by (with_reducible repeat (first | refine blk_drewN ?_ _ | refine blk_drew ?_ | refine blk_alloc ?_ _)); exact BK1162.out)) : gb1162 ≠ gb1163)); have n6_ := Aside0.mk ((by rw [hg]; exact Nat.ne_of_gt (blk_lt (g := gb1162) (o := .cells #[.int .i64 a0_0, .slice A0_1 l0_1.length c0_1] 26 (0, 0)) (by (with_reducible repeat (first | refine blk_drewN ?_ _ | refine blk_drew ?_ | refine blk_alloc ?_ _)); exact BK1162.out)) : gb1163 ≠ gb1162)); clear BK1162; clear HB; have BK1162 := n0_; have HB := n1_; have BK1163 := n2_; have GW1163 := n3_; have GE1163 := n4_; have NB1162_1163 := n5_; have NB1163_1162 := n6_; clear n0_ n1_ n2_ n3_ n4_ n5_ n6_; clear hb hbox hg) | ((with_reducible refine gate_dst (N := 4) rfl ?_); refine box_event ?hg (N := 4) ?hd (cs := #[.int .i64 0, .slice none 0 0]) (t := 26) ?hr ?_; (case hd => rfl); (case hg => rfl); (case hr => first | (go_simp; done) | (go_simp; rfl)); intro gb1164 hg w6 hbox hb; have n0_ := Aside0.mk (blk_below (g := gb1162) (o := .cells #[.int .i64 a0_0, .slice A0_1 l0_1.length c0_1] 26 (0, 0)) (by (with_reducible repeat (first | refine blk_drewN ?_ _ | refine blk_drew ?_ | refine blk_alloc ?_ _)); exact BK1162.out) hb); have n1_ := Aside0.mk (blk_below (g := gb1163) (o := .cells #[.int .i64 a1_0, .slice A1_1 l1_1.length c1_1] 26 (0, 0)) (by (with_reducible repeat (first | refine blk_drewN ?_ _ | refine blk_drew ?_ | refine blk_alloc ?_ _)); exact BK1163.out) hb); have n2_ := Aside0.mk (below_step (by repeat (first | (with_reducible first | exact HB.out | apply below_alloc | apply pw_below_drewN | apply below_drew1 | refine below_set ?_ GE1162.out | refine below_set ?_ GE1163.out) | exact HB.out)) hb); have n3_ := Aside0.mk (hbox); have n4_ := Aside0.mk ((by rw [hg]; exact (below_size (by repeat (first | (with_reducible first | exact HB.out | apply below_alloc | apply pw_below_drewN | apply below_drew1 | refine below_set ?_ GE1162.out | refine below_set ?_ GE1163.out) | exact HB.out))) : w.heap.size ≤ gb1164)); have n5_ := Aside0.mk ((by rw [hg]; exact (below_size (by repeat (first | (with_reducible first | exact HB.out | apply below_alloc | apply pw_below_drewN | apply below_drew1 | refine below_set ?_ GE1162.out | refine below_set ?_ GE1163.out) | exact HB.out))) : w.heap.size ≤ gb1164)); have n6_ := Aside0.mk ((by rw [hg]; exact Nat.ne_of_lt (blk_lt (g := gb1162) (o := .cells #[.int .i64 a0_0, .slice A0_1 l0_1.length c0_1] 26 (0, 0)) (by (with_reducible repeat (first | refine blk_drewN ?_ _ | refine blk_drew ?_ | refine blk_alloc ?_ _)); exact BK1162.out)) : gb1162 ≠ gb1164)); have n7_ := Aside0.mk ((by rw [hg]; exact Nat.ne_of_gt (blk_lt (g := gb1162) (o := .cells #[.int .i64 a0_0, .slice A0_1 l0_1.length c0_1] 26 (0, 0)) (by (with_reducible repeat (first | refine blk_drewN ?_ _ | refine blk_drew ?_ | refine blk_alloc ?_ _)); exact BK1162.out)) : gb1164 ≠ gb1162)); have n8_ := Aside0.mk ((by rw [hg]; exact Nat.ne_of_lt (blk_lt (g := gb1163) (o := .cells #[.int .i64 a1_0, .slice A1_1 l1_1.length c1_1] 26 (0, 0)) (by (with_reducible repeat (first | refine blk_drewN ?_ _ | refine blk_drew ?_ | refine blk_alloc ?_ _)); exact BK1163.out)) : gb1163 ≠ gb1164)); have n9_ := Aside0.mk ((by rw [hg]; exact Nat.ne_of_gt (blk_lt (g := gb1163) (o := .cells #[.int .i64 a1_0, .slice A1_1 l1_1.length c1_1] 26 (0, 0)) (by (with_reducible repeat (first | refine blk_drewN ?_ _ | refine blk_drew ?_ | refine blk_alloc ?_ _)); exact BK1163.out)) : gb1164 ≠ gb1163)); clear BK1162; clear BK1163; clear HB; have BK1162 := n0_; have BK1163 := n1_; have HB := n2_; have BK1164 := n3_; have GW1164 := n4_; have GE1164 := n5_; have NB1162_1164 := n6_; have NB1164_1162 := n7_; have NB1163_1164 := n8_; have NB1164_1163 := n9_; clear n0_ n1_ n2_ n3_ n4_ n5_ n6_ n7_ n8_ n9_; clear hb hbox hg))
 (try simp only [Act.put, List.setIfInBounds_toArray, List.set_cons_zero, List.set_cons_succ])
 go_cut [15] (fun v15 wc => ∃ (kq : Nat) (x15_2 : Bool), v15 = .bool x15_2 ∧ Aside0 (spec_ProductOfSets.j0 kq x15_2 a0_0 l0_1 a1_0 l1_1 = some (r1, r2, r3)) ∧ Aside0 (kq ≤ k) ∧ Aside0 (wc.heap[gb1162]? = some (.cells #[.int .i64 a0_0, (.slice A0_1 l0_1.length c0_1)] 26 (0, 0))) ∧ Aside0 (wc.heap[gb1163]? = some (.cells #[.int .i64 a1_0, (.slice A1_1 l1_1.length c1_1)] 26 (0, 0))) ∧ Aside0 (wc.heap[gb1164]? = some (.cells #[.int .i64 0, (.slice none 0 0)] 26 (0, 0))) ∧ Aside0 (Below w.heap.size w wc))
 case first =>
  have H := HC3.out
  clear HC3
  replace H := Option.bind_eq_some_iff.mp H
  obtain ⟨t1165, A70, H⟩ := H
  replace H : (if t1165 = true then ((spec_l01Is.f a1_0 l1_1).bind fun t1166 => (spec_ProductOfSets.j0 k (!t1166) a0_0 l0_1 a1_0 l1_1)) else (spec_ProductOfSets.j0 k true a0_0 l0_1 a1_0 l1_1)) = some (r1, r2, r3) := H
  have A7 := Aside0.mk A70
  clear A70
  by_cases c8 : t1165 = true
  ·subst c8
   have H1 : ((spec_l01Is.f a1_0 l1_1).bind fun t1166 => (spec_ProductOfSets.j0 k (!t1166) a0_0 l0_1 a1_0 l1_1)) = some (r1, r2, r3) := by rw [if_pos rfl] at H; exact H
   clear H
   have H := H1
   clear H1
   replace H := Option.bind_eq_some_iff.mp H
   obtain ⟨t1166, A90, H⟩ := H
   replace H : (spec_ProductOfSets.j0 k (!t1166) a0_0 l0_1 a1_0 l1_1) = some (r1, r2, r3) := H
   have A9 := Aside0.mk A90
   clear A90
   have H' := Aside0.mk H
   clear H
   have hnb10 := NB1162_1163.out
   have hnc10 := NB1163_1162.out
   have hnb11 := NB1162_1164.out
   have hnc11 := NB1164_1162.out
   have hcz12_0 : w6.cell? ⟨gb1162, 0, none⟩ = some (.int .i64 a0_0) := (blk_cell BK1162.out 0).trans rfl
   have hcz12_1 : w6.cell? ⟨gb1162, 1, none⟩ = some (.slice A0_1 l0_1.length c0_1) := (blk_cell BK1162.out 1).trans rfl
   have hfz12_0 := blk_frozen BK1162.out 0
   have hfz12_1 := blk_frozen BK1162.out 1
   go_wp2_with (first | ((with_reducible refine gate_callee (f := 60) rfl ?_); refine goesL_ (some 9) rfl rfl Try.func60 (by kernel_rfl) rfl #[.agg #[.int .i64 a0_0, .slice A0_1 l0_1.length c0_1]] rfl (by (try simp only [List.map_toArray, List.map_cons, List.map_nil]); first | done | rfl | (simp only [List.length_drop, List.length_take]; rfl)) ?_; (with_reducible refine (spec_l01Is.calls a0_0 _ _ l0_1 true _ ?side1 ?side2 A7.out).mono ?_); (case side1 => repeat (first | exact (Kd.C_below HR0_1.out HB.out) | (with_reducible refine Kd.C_alloc ?_ _) | (with_reducible refine Kd.C_drewN ?_ _) | (with_reducible refine Kd.C_drew ?_))); (case side2 => exact HC0_1.out); rintro e w13 ⟨rfl, hb⟩; refine ⟨_, rfl, ?_⟩; have n0_ := Aside0.mk (blk_below (g := gb1162) (o := .cells #[.int .i64 a0_0, .slice A0_1 l0_1.length c0_1] 26 (0, 0)) (by (with_reducible repeat (first | refine blk_drewN ?_ _ | refine blk_drew ?_ | refine blk_alloc ?_ _)); exact BK1162.out) hb); have n1_ := Aside0.mk (blk_below (g := gb1163) (o := .cells #[.int .i64 a1_0, .slice A1_1 l1_1.length c1_1] 26 (0, 0)) (by (with_reducible repeat (first | refine blk_drewN ?_ _ | refine blk_drew ?_ | refine blk_alloc ?_ _)); exact BK1163.out) hb); have n2_ := Aside0.mk (blk_below (g := gb1164) (o := .cells #[.int .i64 0, .slice none 0 0] 26 (0, 0)) (by (with_reducible repeat (first | refine blk_drewN ?_ _ | refine blk_drew ?_ | refine blk_alloc ?_ _)); exact BK1164.out) hb); have n3_ := Aside0.mk (below_step (by repeat (first | (with_reducible first | exact HB.out | apply below_alloc | apply pw_below_drewN | apply below_drew1 | refine below_set ?_ GE1162.out | refine below_set ?_ GE1163.out | refine below_set ?_ GE1164.out) | exact HB.out)) hb); clear BK1162; clear BK1163; clear BK1164; clear HB; have BK1162 := n0_; have BK1163 := n1_; have BK1164 := n2_; have HB := n3_; clear n0_ n1_ n2_ n3_; (try clear hb); (try clear hb2); (try clear hk); (try clear hi); have hnb14 := NB1163_1164.out; have hnc14 := NB1164_1163.out; have hcz15_0 : w13.cell? ⟨gb1163, 0, none⟩ = some (.int .i64 a1_0) := (blk_cell BK1163.out 0).trans rfl; have hcz15_1 : w13.cell? ⟨gb1163, 1, none⟩ = some (.slice A1_1 l1_1.length c1_1) := (blk_cell BK1163.out 1).trans rfl; have hfz15_0 := blk_frozen BK1163.out 0; have hfz15_1 := blk_frozen BK1163.out 1) | (go_at_call 60; (with_reducible refine (spec_l01Is.calls a1_0 _ _ l1_1 t1166 _ ?side1 ?side2 A9.out).mono ?_); (case side1 => repeat (first | exact (Kd.C_below HR1_1.out HB.out) | (with_reducible refine Kd.C_alloc ?_ _) | (with_reducible refine Kd.C_drewN ?_ _) | (with_reducible refine Kd.C_drew ?_))); (case side2 => exact HC1_1.out); rintro e w16 ⟨rfl, hb⟩; have n0_ := Aside0.mk (blk_below (g := gb1162) (o := .cells #[.int .i64 a0_0, .slice A0_1 l0_1.length c0_1] 26 (0, 0)) (by (with_reducible repeat (first | refine blk_drewN ?_ _ | refine blk_drew ?_ | refine blk_alloc ?_ _)); exact BK1162.out) hb); have n1_ := Aside0.mk (blk_below (g := gb1163) (o := .cells #[.int .i64 a1_0, .slice A1_1 l1_1.length c1_1] 26 (0, 0)) (by (with_reducible repeat (first | refine blk_drewN ?_ _ | refine blk_drew ?_ | refine blk_alloc ?_ _)); exact BK1163.out) hb); have n2_ := Aside0.mk (blk_below (g := gb1164) (o := .cells #[.int .i64 0, .slice none 0 0] 26 (0, 0)) (by (with_reducible repeat (first | refine blk_drewN ?_ _ | refine blk_drew ?_ | refine blk_alloc ?_ _)); exact BK1164.out) hb); have n3_ := Aside0.mk (below_step (by repeat (first | (with_reducible first | exact HB.out | apply below_alloc | apply pw_below_drewN | apply below_drew1 | refine below_set ?_ GE1162.out | refine below_set ?_ GE1163.out | refine below_set ?_ GE1164.out) | exact HB.out)) hb); clear BK1162; clear BK1163; clear BK1164; clear HB; have BK1162 := n0_; have BK1163 := n1_; have BK1164 := n2_; have HB := n3_; clear n0_ n1_ n2_ n3_; (try clear hb); (try clear hb2); (try clear hk); (try clear hi)))
   go_meet
   case rel => exact ⟨_, (!t1166), (by first | rfl | (simp; done) | (simp [*]; done) | (simp; decide +kernel)), H', ⟨by first | omega | exact Nat.le_refl _⟩, ⟨by (with_reducible repeat (first | refine blk_drewN ?_ _ | refine blk_drew ?_ | refine blk_alloc ?_ _)); exact BK1162.out⟩, ⟨by (with_reducible repeat (first | refine blk_drewN ?_ _ | refine blk_drew ?_ | refine blk_alloc ?_ _)); exact BK1163.out⟩, ⟨by (with_reducible repeat (first | refine blk_drewN ?_ _ | refine blk_drew ?_ | refine blk_alloc ?_ _)); exact BK1164.out⟩, ⟨by repeat (first | (with_reducible first | exact HB.out | apply below_alloc | apply pw_below_drewN | apply below_drew1 | refine below_set ?_ GE1162.out | refine below_set ?_ GE1163.out | refine below_set ?_ GE1164.out) | exact HB.out)⟩⟩
  ·replace c8 := Bool.eq_false_iff.mpr c8
   subst c8
   have H1 : (spec_ProductOfSets.j0 k true a0_0 l0_1 a1_0 l1_1) = some (r1, r2, r3) := by rw [if_neg (show ¬ (false = true) by decide)] at H; exact H
   clear H
   have H := H1
   clear H1
   have H' := Aside0.mk H
   clear H
   have hnb17 := NB1162_1163.out
   have hnc17 := NB1163_1162.out
   have hnb18 := NB1162_1164.out
   have hnc18 := NB1164_1162.out
   have hcz19_0 : w6.cell? ⟨gb1162, 0, none⟩ = some (.int .i64 a0_0) := (blk_cell BK1162.out 0).trans rfl
   have hcz19_1 : w6.cell? ⟨gb1162, 1, none⟩ = some (.slice A0_1 l0_1.length c0_1) := (blk_cell BK1162.out 1).trans rfl
   have hfz19_0 := blk_frozen BK1162.out 0
   have hfz19_1 := blk_frozen BK1162.out 1
   go_wp2_with (first | ((with_reducible refine gate_callee (f := 60) rfl ?_); refine goesL_ (some 9) rfl rfl Try.func60 (by kernel_rfl) rfl #[.agg #[.int .i64 a0_0, .slice A0_1 l0_1.length c0_1]] rfl (by (try simp only [List.map_toArray, List.map_cons, List.map_nil]); first | done | rfl | (simp only [List.length_drop, List.length_take]; rfl)) ?_; (with_reducible refine (spec_l01Is.calls a0_0 _ _ l0_1 false _ ?side1 ?side2 A7.out).mono ?_); (case side1 => repeat (first | exact (Kd.C_below HR0_1.out HB.out) | (with_reducible refine Kd.C_alloc ?_ _) | (with_reducible refine Kd.C_drewN ?_ _) | (with_reducible refine Kd.C_drew ?_))); (case side2 => exact HC0_1.out); rintro e w20 ⟨rfl, hb⟩; refine ⟨_, rfl, ?_⟩; have n0_ := Aside0.mk (blk_below (g := gb1162) (o := .cells #[.int .i64 a0_0, .slice A0_1 l0_1.length c0_1] 26 (0, 0)) (by (with_reducible repeat (first | refine blk_drewN ?_ _ | refine blk_drew ?_ | refine blk_alloc ?_ _)); exact BK1162.out) hb); have n1_ := Aside0.mk (blk_below (g := gb1163) (o := .cells #[.int .i64 a1_0, .slice A1_1 l1_1.length c1_1] 26 (0, 0)) (by (with_reducible repeat (first | refine blk_drewN ?_ _ | refine blk_drew ?_ | refine blk_alloc ?_ _)); exact BK1163.out) hb); have n2_ := Aside0.mk (blk_below (g := gb1164) (o := .cells #[.int .i64 0, .slice none 0 0] 26 (0, 0)) (by (with_reducible repeat (first | refine blk_drewN ?_ _ | refine blk_drew ?_ | refine blk_alloc ?_ _)); exact BK1164.out) hb); have n3_ := Aside0.mk (below_step (by repeat (first | (with_reducible first | exact HB.out | apply below_alloc | apply pw_below_drewN | apply below_drew1 | refine below_set ?_ GE1162.out | refine below_set ?_ GE1163.out | refine below_set ?_ GE1164.out) | exact HB.out)) hb); clear BK1162; clear BK1163; clear BK1164; clear HB; have BK1162 := n0_; have BK1163 := n1_; have BK1164 := n2_; have HB := n3_; clear n0_ n1_ n2_ n3_; (try clear hb); (try clear hb2); (try clear hk); (try clear hi)))
   go_meet
   case rel => exact ⟨_, (true), (by first | rfl | (simp; done) | (simp [*]; done) | (simp; decide +kernel)), H', ⟨by first | omega | exact Nat.le_refl _⟩, ⟨by (with_reducible repeat (first | refine blk_drewN ?_ _ | refine blk_drew ?_ | refine blk_alloc ?_ _)); exact BK1162.out⟩, ⟨by (with_reducible repeat (first | refine blk_drewN ?_ _ | refine blk_drew ?_ | refine blk_alloc ?_ _)); exact BK1163.out⟩, ⟨by (with_reducible repeat (first | refine blk_drewN ?_ _ | refine blk_drew ?_ | refine blk_alloc ?_ _)); exact BK1164.out⟩, ⟨by repeat (first | (with_reducible first | exact HB.out | apply below_alloc | apply pw_below_drewN | apply below_drew1 | refine below_set ?_ GE1162.out | refine below_set ?_ GE1163.out | refine below_set ?_ GE1164.out) | exact HB.out)⟩⟩
 case rest =>
  clear HC3
  try clear c1
  try clear p2
  try clear c3
  try clear c6
  try clear c8
  try clear c10
  try clear c11
  try clear c14
  try clear c17
  try clear c18
  try clear hcz12_0
  try clear hcz12_1
  try clear hcz15_0
  try clear hcz15_1
  try clear hcz19_0
  try clear hcz19_1
  try clear hfz12_0
  try clear hfz12_1
  try clear hfz15_0
  try clear hfz15_1
  try clear hfz19_0
  try clear hfz19_1
  obtain ⟨kq, x15_2, rfl, HA, HJ2, BK1162, BK1163, BK1164, HB⟩ := hcut
  cases kq with
  | zero => exact absurd HA.out (by simp [spec_ProductOfSets.j0])
  | succ kj2 =>
   have H := HA.out
   clear HA
   simp only [spec_ProductOfSets.j0] at H
   by_cases c21 : x15_2 = true
   ·subst c21
    have H1 : (some (0, ([] : List (S45)), 1)) = some (r1, r2, r3) := by rw [if_pos rfl] at H; exact H
    clear H
    have H := H1
    clear H1
    simp only [Option.some.injEq, Prod.mk.injEq] at H
    obtain ⟨rfl, rfl, rfl⟩ := H
    have hnb22 := NB1164_1162.out
    have hnc22 := NB1162_1164.out
    have hnb23 := NB1164_1163.out
    have hnc23 := NB1163_1164.out
    have hcz24_0 : wc.cell? ⟨gb1164, 0, none⟩ = some (.int .i64 0) := (blk_cell BK1164.out 0).trans rfl
    have hcz24_1 : wc.cell? ⟨gb1164, 1, none⟩ = some (.slice none 0 0) := (blk_cell BK1164.out 1).trans rfl
    have hfz24_0 := blk_frozen BK1164.out 0
    have hfz24_1 := blk_frozen BK1164.out 1
    go_wp2
    refine bodyPost_ret (results_ct rfl _ _ gb1164 26 #[.int .i64 0, .slice none 0 0] (0, 0) _ rfl (by (with_reducible repeat (first | refine blk_drewN ?_ _ | refine blk_drew ?_ | refine blk_alloc ?_ _)); refine blk_put (cs := #[.int .i64 0, .slice none 0 0]) ?_ 1 _ rfl; (with_reducible repeat (first | refine blk_drewN ?_ _ | refine blk_drew ?_ | refine blk_alloc ?_ _)); refine blk_put (cs := #[.int .i64 0, .slice none 0 0]) ?_ 0 _ rfl; (with_reducible repeat (first | refine blk_drewN ?_ _ | refine blk_drew ?_ | refine blk_alloc ?_ _)); exact BK1164.out) Try.underlying26 rfl (by kernel_rfl)) rfl ?_
    exact ⟨_, by first | rfl | (simp [errW_none, errW_some] <;> rfl) | (simp [*, errW_none, errW_some] <;> rfl), by first | exact Kd.R_nil _ _ _ _ _ | exact Kd.N_nil _ _ _ _ _ | exact Kd.V_nil _ _ _ _ _ | exact Kd.Q_nil _ _ _ _ _ | exact Kd.S_nil _ _ _ _ _, by repeat (first | (with_reducible first | exact HB.out | apply below_alloc | apply pw_below_drewN | apply below_drew1 | refine below_set ?_ GE1162.out | refine below_set ?_ GE1163.out | refine below_set ?_ GE1164.out) | exact HB.out)⟩
   ·replace c21 := Bool.eq_false_iff.mpr c21
    subst c21
    have H1 : ((spec_l01Product.f kj2 a0_0 l0_1 a1_0 l1_1).bind fun bt1167 => ((spec_l01Told.f bt1167.1 bt1167.2).bind fun bt1171 => (some (bt1171.1, bt1171.2.1, bt1171.2.2)))) = some (r1, r2, r3) := by rw [if_neg (show ¬ (false = true) by decide)] at H; exact H
    clear H
    have H := H1
    clear H1
    replace H := Option.bind_eq_some_iff.mp H
    obtain ⟨⟨t1167, t1168⟩, A250, H⟩ := H
    replace H : ((spec_l01Told.f t1167 t1168).bind fun bt1171 => (some (bt1171.1, bt1171.2.1, bt1171.2.2))) = some (r1, r2, r3) := H
    have A25 := Aside0.mk A250
    clear A250
    replace H := Option.bind_eq_some_iff.mp H
    obtain ⟨⟨t1171, t1172, t1175⟩, A260, H⟩ := H
    replace H : (some (t1171, t1172, t1175)) = some (r1, r2, r3) := H
    have A26 := Aside0.mk A260
    clear A260
    simp only [Option.some.injEq, Prod.mk.injEq] at H
    obtain ⟨rfl, rfl, rfl⟩ := H
    have hnb27 := NB1162_1163.out
    have hnc27 := NB1163_1162.out
    have hnb28 := NB1162_1164.out
    have hnc28 := NB1164_1162.out
    have hcz29_0 : wc.cell? ⟨gb1162, 0, none⟩ = some (.int .i64 a0_0) := (blk_cell BK1162.out 0).trans rfl
    have hcz29_1 : wc.cell? ⟨gb1162, 1, none⟩ = some (.slice A0_1 l0_1.length c0_1) := (blk_cell BK1162.out 1).trans rfl
    have hfz29_0 := blk_frozen BK1162.out 0
    have hfz29_1 := blk_frozen BK1162.out 1
    have hnb30 := NB1163_1164.out
    have hnc30 := NB1164_1163.out
    have hcz31_0 : wc.cell? ⟨gb1163, 0, none⟩ = some (.int .i64 a1_0) := (blk_cell BK1163.out 0).trans rfl
    have hcz31_1 : wc.cell? ⟨gb1163, 1, none⟩ = some (.slice A1_1 l1_1.length c1_1) := (blk_cell BK1163.out 1).trans rfl
    have hfz31_0 := blk_frozen BK1163.out 0
    have hfz31_1 := blk_frozen BK1163.out 1
    go_wp2_with (first | ((with_reducible refine gate_callee (f := 75) rfl ?_); refine goesL_ (some 20) rfl rfl Try.func75 (by kernel_rfl) rfl #[.agg #[.int .i64 a0_0, .slice A0_1 l0_1.length c0_1], .agg #[.int .i64 a1_0, .slice A1_1 l1_1.length c1_1]] rfl (by (try simp only [List.map_toArray, List.map_cons, List.map_nil]); first | done | rfl | (simp only [List.length_drop, List.length_take]; rfl)) ?_; (with_reducible refine (spec_l01Product.calls kj2 a0_0 _ _ l0_1 a1_0 _ _ l1_1 t1167 t1168 _ ?side1 ?side2 ?side3 ?side4 A25.out).mono ?_); (case side1 => repeat (first | exact (Kd.C_below HR0_1.out HB.out) | (with_reducible refine Kd.C_alloc ?_ _) | (with_reducible refine Kd.C_drewN ?_ _) | (with_reducible refine Kd.C_drew ?_))); (case side2 => exact HC0_1.out); (case side3 => repeat (first | exact (Kd.C_below HR1_1.out HB.out) | (with_reducible refine Kd.C_alloc ?_ _) | (with_reducible refine Kd.C_drewN ?_ _) | (with_reducible refine Kd.C_drew ?_))); (case side4 => exact HC1_1.out); rintro e w32 ⟨v1169, rfl, ho0, hb⟩; refine ⟨_, rfl, ?_⟩; have n0_ := Aside0.mk (Kd.R_lower ho0 (below_size (by repeat (first | (with_reducible first | exact HB.out | apply below_alloc | apply pw_below_drewN | apply below_drew1 | refine below_set ?_ GE1162.out | refine below_set ?_ GE1163.out | refine below_set ?_ GE1164.out) | exact HB.out)))); have n1_ := Aside0.mk (blk_below (g := gb1162) (o := .cells #[.int .i64 a0_0, .slice A0_1 l0_1.length c0_1] 26 (0, 0)) (by (with_reducible repeat (first | refine blk_drewN ?_ _ | refine blk_drew ?_ | refine blk_alloc ?_ _)); exact BK1162.out) hb); have n2_ := Aside0.mk (blk_below (g := gb1163) (o := .cells #[.int .i64 a1_0, .slice A1_1 l1_1.length c1_1] 26 (0, 0)) (by (with_reducible repeat (first | refine blk_drewN ?_ _ | refine blk_drew ?_ | refine blk_alloc ?_ _)); exact BK1163.out) hb); have n3_ := Aside0.mk (blk_below (g := gb1164) (o := .cells #[.int .i64 0, .slice none 0 0] 26 (0, 0)) (by (with_reducible repeat (first | refine blk_drewN ?_ _ | refine blk_drew ?_ | refine blk_alloc ?_ _)); exact BK1164.out) hb); have n4_ := Aside0.mk (below_step (by repeat (first | (with_reducible first | exact HB.out | apply below_alloc | apply pw_below_drewN | apply below_drew1 | refine below_set ?_ GE1162.out | refine below_set ?_ GE1163.out | refine below_set ?_ GE1164.out) | exact HB.out)) hb); clear BK1162; clear BK1163; clear BK1164; clear HB; have HO1170 := n0_; have BK1162 := n1_; have BK1163 := n2_; have BK1164 := n3_; have HB := n4_; clear n0_ n1_ n2_ n3_ n4_; (try clear hb); (try clear hb2); (try clear hk); (try clear hi); (try clear ho0); obtain ⟨Ao33, co33, eo33⟩ := Kd.R_slice HO1170.out; subst eo33) | ((with_reducible refine gate_callee (f := 51) rfl ?_); refine goesL_ (some 21) rfl rfl Try.func51 (by kernel_rfl) rfl #[.agg #[.int .i64 t1167, .slice Ao33 t1168.length co33]] rfl (by (try simp only [List.map_toArray, List.map_cons, List.map_nil]); first | done | rfl | (simp only [List.length_drop, List.length_take]; rfl)) ?_; (with_reducible refine (spec_l01Told.calls t1167 (fun k_ => some k_ = (.slice Ao33 t1168.length co33 : Value).ownBlock) (.slice Ao33 t1168.length co33) t1168 t1171 t1172 t1175 w _ ?side1 ?side2 A26.out).mono ?_); (case side1 => repeat (first | (with_reducible first | exact HB.out | apply below_alloc | apply pw_below_drewN | apply below_drew1 | refine below_set ?_ GE1162.out | refine below_set ?_ GE1163.out | refine below_set ?_ GE1164.out) | exact HB.out)); (case side2 => exact Kd.R_tight rfl HO1170.out); rintro e w34 ⟨v1173, rfl, ho0, hb, hkp⟩; refine ⟨_, rfl, ?_⟩; have n0_ := Aside0.mk (blk_kept (by (with_reducible repeat (first | refine blk_drewN ?_ _ | refine blk_drew ?_ | refine blk_alloc ?_ _)); exact BK1162.out) hkp (fun hs_ => (fun e_ => (Kd.R_ne HO1170.out BK1162.out (by decide)) e_) hs_)); have n1_ := Aside0.mk (blk_kept (by (with_reducible repeat (first | refine blk_drewN ?_ _ | refine blk_drew ?_ | refine blk_alloc ?_ _)); exact BK1163.out) hkp (fun hs_ => (fun e_ => (Kd.R_ne HO1170.out BK1163.out (by decide)) e_) hs_)); have n2_ := Aside0.mk (blk_kept (by (with_reducible repeat (first | refine blk_drewN ?_ _ | refine blk_drew ?_ | refine blk_alloc ?_ _)); exact BK1164.out) hkp (fun hs_ => (fun e_ => (Kd.R_ne HO1170.out BK1164.out (by decide)) e_) hs_)); have n3_ := Aside0.mk (Kd.R_mono (ok' := fun k_ => True) ho0 (fun k_ hk_ => trivial)); have n4_ := Aside0.mk (hb); clear BK1162; clear BK1163; clear BK1164; clear HB; clear HO1170; have BK1162 := n0_; have BK1163 := n1_; have BK1164 := n2_; have HO1174 := n3_; have HB := n4_; clear n0_ n1_ n2_ n3_ n4_; (try clear hb); (try clear hkp); (try clear ho0)) | ((with_reducible refine gate_dst (N := 6) rfl ?_); refine box_event ?hg (N := 6) ?hd (cs := #[.int .i64 0, .slice none 0 0]) (t := 26) ?hr ?_; (case hd => rfl); (case hg => rfl); (case hr => first | (go_simp; done) | (go_simp; rfl)); intro gb1176 hg w35 hbox hb; have n0_ := Aside0.mk (Kd.R_below (by (with_reducible repeat (first | apply Kd.R_alloc | apply Kd.R_drewN | apply Kd.R_drew)); exact HO1174.out) hb); have n1_ := Aside0.mk (blk_below (g := gb1162) (o := .cells #[.int .i64 a0_0, .slice A0_1 l0_1.length c0_1] 26 (0, 0)) (by (with_reducible repeat (first | refine blk_drewN ?_ _ | refine blk_drew ?_ | refine blk_alloc ?_ _)); exact BK1162.out) hb); have n2_ := Aside0.mk (blk_below (g := gb1163) (o := .cells #[.int .i64 a1_0, .slice A1_1 l1_1.length c1_1] 26 (0, 0)) (by (with_reducible repeat (first | refine blk_drewN ?_ _ | refine blk_drew ?_ | refine blk_alloc ?_ _)); exact BK1163.out) hb); have n3_ := Aside0.mk (blk_below (g := gb1164) (o := .cells #[.int .i64 0, .slice none 0 0] 26 (0, 0)) (by (with_reducible repeat (first | refine blk_drewN ?_ _ | refine blk_drew ?_ | refine blk_alloc ?_ _)); exact BK1164.out) hb); have n4_ := Aside0.mk (below_step (by repeat (first | (with_reducible first | exact HB.out | apply below_alloc | apply pw_below_drewN | apply below_drew1 | refine below_set ?_ GE1162.out | refine below_set ?_ GE1163.out | refine below_set ?_ GE1164.out) | exact HB.out)) hb); have n5_ := Aside0.mk (hbox); have n6_ := Aside0.mk ((by rw [hg]; exact (below_size (by repeat (first | (with_reducible first | exact HB.out | apply below_alloc | apply pw_below_drewN | apply below_drew1 | refine below_set ?_ GE1162.out | refine below_set ?_ GE1163.out | refine below_set ?_ GE1164.out) | exact HB.out))) : w.heap.size ≤ gb1176)); have n7_ := Aside0.mk ((by rw [hg]; exact (below_size (by repeat (first | (with_reducible first | exact HB.out | apply below_alloc | apply pw_below_drewN | apply below_drew1 | refine below_set ?_ GE1162.out | refine below_set ?_ GE1163.out | refine below_set ?_ GE1164.out) | exact HB.out))) : w.heap.size ≤ gb1176)); have n8_ := Aside0.mk ((by rw [hg]; exact Nat.ne_of_lt (blk_lt (g := gb1162) (o := .cells #[.int .i64 a0_0, .slice A0_1 l0_1.length c0_1] 26 (0, 0)) (by (with_reducible repeat (first | refine blk_drewN ?_ _ | refine blk_drew ?_ | refine blk_alloc ?_ _)); exact BK1162.out)) : gb1162 ≠ gb1176)); have n9_ := Aside0.mk ((by rw [hg]; exact Nat.ne_of_gt (blk_lt (g := gb1162) (o := .cells #[.int .i64 a0_0, .slice A0_1 l0_1.length c0_1] 26 (0, 0)) (by (with_reducible repeat (first | refine blk_drewN ?_ _ | refine blk_drew ?_ | refine blk_alloc ?_ _)); exact BK1162.out)) : gb1176 ≠ gb1162)); have n10_ := Aside0.mk ((by rw [hg]; exact Nat.ne_of_lt (blk_lt (g := gb1163) (o := .cells #[.int .i64 a1_0, .slice A1_1 l1_1.length c1_1] 26 (0, 0)) (by (with_reducible repeat (first | refine blk_drewN ?_ _ | refine blk_drew ?_ | refine blk_alloc ?_ _)); exact BK1163.out)) : gb1163 ≠ gb1176)); have n11_ := Aside0.mk ((by rw [hg]; exact Nat.ne_of_gt (blk_lt (g := gb1163) (o := .cells #[.int .i64 a1_0, .slice A1_1 l1_1.length c1_1] 26 (0, 0)) (by (with_reducible repeat (first | refine blk_drewN ?_ _ | refine blk_drew ?_ | refine blk_alloc ?_ _)); exact BK1163.out)) : gb1176 ≠ gb1163)); have n12_ := Aside0.mk ((by rw [hg]; exact Nat.ne_of_lt (blk_lt (g := gb1164) (o := .cells #[.int .i64 0, .slice none 0 0] 26 (0, 0)) (by (with_reducible repeat (first | refine blk_drewN ?_ _ | refine blk_drew ?_ | refine blk_alloc ?_ _)); exact BK1164.out)) : gb1164 ≠ gb1176)); have n13_ := Aside0.mk ((by rw [hg]; exact Nat.ne_of_gt (blk_lt (g := gb1164) (o := .cells #[.int .i64 0, .slice none 0 0] 26 (0, 0)) (by (with_reducible repeat (first | refine blk_drewN ?_ _ | refine blk_drew ?_ | refine blk_alloc ?_ _)); exact BK1164.out)) : gb1176 ≠ gb1164)); clear HO1174; clear BK1162; clear BK1163; clear BK1164; clear HB; have HO1174 := n0_; have BK1162 := n1_; have BK1163 := n2_; have BK1164 := n3_; have HB := n4_; have BK1176 := n5_; have GW1176 := n6_; have GE1176 := n7_; have NB1162_1176 := n8_; have NB1176_1162 := n9_; have NB1163_1176 := n10_; have NB1176_1163 := n11_; have NB1164_1176 := n12_; have NB1176_1164 := n13_; clear n0_ n1_ n2_ n3_ n4_ n5_ n6_ n7_ n8_ n9_ n10_ n11_ n12_ n13_; clear hb hbox hg; have hnb36 := NB1176_1162.out; have hnc36 := NB1162_1176.out; have hnb37 := NB1176_1163.out; have hnc37 := NB1163_1176.out; have hnb38 := NB1176_1164.out; have hnc38 := NB1164_1176.out; have hcz39_0 : w35.cell? ⟨gb1176, 0, none⟩ = some (.int .i64 0) := (blk_cell BK1176.out 0).trans rfl; have hcz39_1 : w35.cell? ⟨gb1176, 1, none⟩ = some (.slice none 0 0) := (blk_cell BK1176.out 1).trans rfl; have hfz39_0 := blk_frozen BK1176.out 0; have hfz39_1 := blk_frozen BK1176.out 1; obtain ⟨Ao40, co40, eo40⟩ := Kd.R_slice HO1174.out; subst eo40; have hcz41_0 : w35.cell? ⟨gb1164, 0, none⟩ = some (.int .i64 0) := (blk_cell BK1164.out 0).trans rfl; have hcz41_1 : w35.cell? ⟨gb1164, 1, none⟩ = some (.slice none 0 0) := (blk_cell BK1164.out 1).trans rfl; have hfz41_0 := blk_frozen BK1164.out 0; have hfz41_1 := blk_frozen BK1164.out 1))
    refine bodyPost_ret (results_ct rfl _ _ gb1164 26 #[.int .i64 t1171, .slice Ao40 t1172.length co40] (0, 0) _ rfl (by (with_reducible repeat (first | refine blk_drewN ?_ _ | refine blk_drew ?_ | refine blk_alloc ?_ _)); refine blk_put (cs := #[.int .i64 t1171, .slice none 0 0]) ?_ 1 _ rfl; (with_reducible repeat (first | refine blk_drewN ?_ _ | refine blk_drew ?_ | refine blk_alloc ?_ _)); refine blk_put (cs := #[.int .i64 0, .slice none 0 0]) ?_ 0 _ rfl; (with_reducible repeat (first | refine blk_drewN ?_ _ | refine blk_drew ?_ | refine blk_alloc ?_ _)); refine blk_far ?_ NB1164_1176.out _; (with_reducible repeat (first | refine blk_drewN ?_ _ | refine blk_drew ?_ | refine blk_alloc ?_ _)); refine blk_far ?_ NB1164_1176.out _; (with_reducible repeat (first | refine blk_drewN ?_ _ | refine blk_drew ?_ | refine blk_alloc ?_ _)); exact BK1164.out) Try.underlying26 rfl (by kernel_rfl)) rfl ?_
    exact ⟨_, by first | rfl | (simp [errW_none, errW_some] <;> rfl) | (simp [*, errW_none, errW_some] <;> rfl), by (with_reducible repeat (first | apply Kd.R_alloc | apply Kd.R_drewN | apply Kd.R_drew)); exact Kd.R_mono (Kd.R_far (p := ⟨gb1164, 1, none⟩) (Kd.R_far (p := ⟨gb1164, 0, none⟩) (Kd.R_far (p := ⟨gb1176, 1, none⟩) (Kd.R_far (p := ⟨gb1176, 0, none⟩) (Kd.R_types (Kd.R_types HO1174.out BK1176.out (by decide)) BK1164.out (by decide)) (fun _ hk => hk.1.2) (.int .i64 t1171)) (fun _ hk => hk.1.2) (.slice Ao40 t1172.length co40)) (fun _ hk => hk.2) (.int .i64 t1171)) (fun _ hk => hk.2) (.slice Ao40 t1172.length co40)) (fun _ hk => trivial), by repeat (first | (with_reducible first | exact HB.out | apply below_alloc | apply pw_below_drewN | apply below_drew1 | refine below_set ?_ GE1162.out | refine below_set ?_ GE1163.out | refine below_set ?_ GE1164.out | refine below_set ?_ GE1176.out) | exact HB.out)⟩
end Go.Proofs.Ytnjmgmdpkogocaa.Q

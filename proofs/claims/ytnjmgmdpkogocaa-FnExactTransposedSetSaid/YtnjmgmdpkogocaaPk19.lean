/-
  Parts of the proof, in their order: ExtS, P4, QSpecTransposedSet, QImplTransposedSet1, QImplChangedAtImplTransposedSet1, QImplTransposedSet, PTransposedSet, LawTransposedSet.
-/
import Derived.Test.YtnjmgmdpkogocaaPk18
import Derived.Test.YtnjmgmdpkogocaaPk16
import Derived.Test.YtnjmgmdpkogocaaPk8
import Derived.Test.YtnjmgmdpkogocaaPk6
import Derived.Test.YtnjmgmdpkogocaaPk11
import Derived.Test.YtnjmgmdpkogocaaWMore
import Derived.Test.YtnjmgmdpkogocaaPk17
import Derived.Deep.RegionHeld3
/-
  Contracts of functions that make sets, in the form of the printed ones.
-/
namespace Go.Proofs.Ytnjmgmdpkogocaa
open Go Go.RowKit Go.Proofs Go.Proofs.YtnjmgmdpkogocaaW.PrintWords Go.Proofs.Ytnjmgmdpkogocaa.Q
set_option linter.unusedVariables false
set_option linter.unusedSimpArgs false
theorem R_of_OT {w : World} {base : Nat} {e : TypeId} {v : Value} {ts : List T4} (h : OT w base e v ts) : Kd.R k45 e w base (fun _ => True) v (ts.map toS) := by
  refine ⟨fun _ _ => trivial, tcells ts, ?_, ?_, fun j p hp => ?_⟩
  · rw [List.length_map]; exact h
  · rw [tcells_length, List.length_map]; rfl
  · have hj := (List.getElem?_eq_some_iff.1 hp).1
    rw [List.length_map] at hj
    have hp' : p = toS (tk ts j) := by
      rw [List.getElem?_map, List.getElem?_eq_getElem hj] at hp
      simp only [Option.map_some, Option.some.injEq] at hp
      rw [← hp]; simp [tk, List.getD, List.getElem?_eq_getElem hj]
    subst hp'
    have e4 : k45.sz = 4 := rfl
    have hc : ((tcells ts).drop (j * 4)).take 4 = [.int .i64 (toS (tk ts j)).f0, .int .i64 (toS (tk ts j)).f1, .int .i64 (toS (tk ts j)).f2, .int .i64 (toS (tk ts j)).f3] := by
      apply List.ext_getElem?
      intro i
      rw [List.getElem?_take, List.getElem?_drop]
      match i with
      | 0 => rw [if_pos (by omega), tcells_get hj (by omega)]; rfl
      | 1 => rw [if_pos (by omega), tcells_get hj (by omega)]; rfl
      | 2 => rw [if_pos (by omega), tcells_get hj (by omega)]; rfl
      | 3 => rw [if_pos (by omega), tcells_get hj (by omega)]; rfl
      | i + 4 => rw [if_neg (by omega)]; simp
    rw [e4, hc]
    exact k45_mk w (toS (tk ts j))
theorem R_of_OW {w : World} {base hi : Nat} {e : TypeId} {v : Value} {ts : List T4} {n : Nat} (h : OW w base hi e 4 v n (tcells ts)) (hn : n = ts.length) : Kd.R k45 e w base (fun _ => True) v (ts.map toS) := by
  subst hn
  exact R_of_OT h.own
theorem ow_of_RT {w : World} {base : Nat} {e : TypeId} {v : Value} {ts : List T4} {ok : Nat → Prop} (h : Kd.R k45 e w base ok v (ts.map toS)) : OW w base w.heap.size e 4 v ts.length (tcells ts) := by
  obtain ⟨-, inner, ho, hr⟩ := h
  have e4 : k45.sz = 4 := rfl
  rw [List.length_map, e4] at ho
  have hl : inner.length = ts.length * 4 := by have := hr.1; rw [List.length_map, e4] at this; exact this
  have : inner = tcells ts := by
    apply List.ext_getElem?
    intro j
    by_cases hj : j < ts.length * 4
    · obtain ⟨q, r, rfl, hr4⟩ : ∃ q r, j = q * 4 + r ∧ r < 4 := ⟨j / 4, j % 4, by omega, by omega⟩
      have hq : q < ts.length := by omega
      have h2 := hr.2 q (toS (tk ts q)) (by rw [List.getElem?_map, List.getElem?_eq_getElem hq]; simp [tk, List.getD, List.getElem?_eq_getElem hq])
      have h3 := k45_open (k45.K_of_M h2)
      rw [e4] at h3
      have h4 : inner[q * 4 + r]? = ((inner.drop (q * 4)).take 4)[r]? := by rw [List.getElem?_take, if_pos hr4, List.getElem?_drop]
      rw [h4, h3, tcells_get hq hr4]
      have : r = 0 ∨ r = 1 ∨ r = 2 ∨ r = 3 := by omega
      rcases this with rfl | rfl | rfl | rfl <;> rfl
    · rw [List.getElem?_eq_none (by omega), List.getElem?_eq_none (by rw [tcells_length]; omega)]
  subst this
  exact OW.of ho
end Go.Proofs.Ytnjmgmdpkogocaa
namespace Go.Proofs.Ytnjmgmdpkogocaa.Q
open Go Go.RowKit Go.Proofs Go.Proofs.YtnjmgmdpkogocaaW.PrintWords Go.Proofs.Ytnjmgmdpkogocaa
set_option linter.unusedVariables false
set_option linter.unusedSimpArgs false

def lim6 (n : Nat) : Bool := decide (n ≤ 1000000)
def spec_l01Made.f (a0 : Int) (l1 : List STile) : Option (Int × List STile) := if lim6 l1.length = true then some (a0, (sortT (l1.map toT)).map toS) else none
theorem spec_l01Made.calls (a0 : Int) (A1 : Option Addr) (c1 : Nat) (l1 : List STile) (r1 : Int) (r2 : List STile) (w : World) (hr1 : Kd.C k45 w A1 l1.length l1) (hc1 : l1.length ≤ c1) (h : spec_l01Made.f a0 l1 = some (r1, r2)) :
    Calls Try.prog 52 #[.int .i64 a0, .slice A1 l1.length c1] w fun e w' => ∃ v1_ : Value, e = .returned (.agg #[.int .i64 r1, v1_]) ∧ Kd.R k45 45 w' w.heap.size (fun _ => True) v1_ r2 ∧ Below w.heap.size w w' := by
  unfold spec_l01Made.f at h
  split at h
  · rename_i hl
    obtain ⟨rfl, rfl⟩ := Prod.mk.inj (Option.some.inj h)
    refine (l01Made_any a0 A1 (l1.map toT) _ c1 w (by simp) (rt_of_C hr1) (by simpa [lim6] using hl)).mono ?_
    rintro e w' ⟨g, ln, c', rfl, hln, hO, hB⟩
    have e1 : sortK (l1.map toT) l1.length = sortT (l1.map toT) := by unfold sortT; rw [List.length_map]
    rw [e1] at hln hO
    exact ⟨_, rfl, R_of_OW hO hln, hB⟩
  · cases h
def spec_l01Flipped.f (a0_0 : Int) (l0_1 : List STile) : Option (Int × List STile) := if lim6 l0_1.length = true then some (a0_0, (sortT ((l0_1.map toT).map (sidesT 0 3 2 1))).map toS) else none
theorem spec_l01Flipped.calls (a0_0 : Int) (A0_1 : Option Addr) (c0_1 : Nat) (l0_1 : List STile) (r1 : Int) (r2 : List STile) (w : World) (hr0_1 : Kd.C k45 w A0_1 l0_1.length l0_1) (hc0_1 : l0_1.length ≤ c0_1) (h : spec_l01Flipped.f a0_0 l0_1 = some (r1, r2)) :
    Calls Try.prog 64 #[.agg #[.int .i64 a0_0, .slice A0_1 l0_1.length c0_1]] w fun e w' => ∃ v1_ : Value, e = .returned (.agg #[.int .i64 r1, v1_]) ∧ Kd.R k45 45 w' w.heap.size (fun _ => True) v1_ r2 ∧ Below w.heap.size w w' := by
  unfold spec_l01Flipped.f at h
  split at h
  · rename_i hl
    obtain ⟨rfl, rfl⟩ := Prod.mk.inj (Option.some.inj h)
    refine (l01Flipped_any a0_0 A0_1 (l0_1.map toT) _ c0_1 w (by simp) (rt_of_C hr0_1) (by simpa [lim6] using hl)).mono ?_
    rintro e w' ⟨g, ln, c', rfl, hln, hO, hB⟩
    exact ⟨_, rfl, R_of_OW hO hln, hB⟩
  · cases h
def spec_l01Mirrored.f (a0_0 : Int) (l0_1 : List STile) : Option (Int × List STile) := if lim6 l0_1.length = true then some (a0_0, (sortT ((l0_1.map toT).map (sidesT 2 1 0 3))).map toS) else none
theorem spec_l01Mirrored.calls (a0_0 : Int) (A0_1 : Option Addr) (c0_1 : Nat) (l0_1 : List STile) (r1 : Int) (r2 : List STile) (w : World) (hr0_1 : Kd.C k45 w A0_1 l0_1.length l0_1) (hc0_1 : l0_1.length ≤ c0_1) (h : spec_l01Mirrored.f a0_0 l0_1 = some (r1, r2)) :
    Calls Try.prog 67 #[.agg #[.int .i64 a0_0, .slice A0_1 l0_1.length c0_1]] w fun e w' => ∃ v1_ : Value, e = .returned (.agg #[.int .i64 r1, v1_]) ∧ Kd.R k45 45 w' w.heap.size (fun _ => True) v1_ r2 ∧ Below w.heap.size w w' := by
  unfold spec_l01Mirrored.f at h
  split at h
  · rename_i hl
    obtain ⟨rfl, rfl⟩ := Prod.mk.inj (Option.some.inj h)
    refine (l01Mirrored_any a0_0 A0_1 (l0_1.map toT) _ c0_1 w (by simp) (rt_of_C hr0_1) (by simpa [lim6] using hl)).mono ?_
    rintro e w' ⟨g, ln, c', rfl, hln, hO, hB⟩
    exact ⟨_, rfl, R_of_OW hO hln, hB⟩
  · cases h
def spec_l01Turned.f (a0_0 : Int) (l0_1 : List STile) : Option (Int × List STile) := if lim6 l0_1.length = true then some (a0_0, (sortT ((l0_1.map toT).map (sidesT 3 0 1 2))).map toS) else none
theorem spec_l01Turned.calls (a0_0 : Int) (A0_1 : Option Addr) (c0_1 : Nat) (l0_1 : List STile) (r1 : Int) (r2 : List STile) (w : World) (hr0_1 : Kd.C k45 w A0_1 l0_1.length l0_1) (hc0_1 : l0_1.length ≤ c0_1) (h : spec_l01Turned.f a0_0 l0_1 = some (r1, r2)) :
    Calls Try.prog 61 #[.agg #[.int .i64 a0_0, .slice A0_1 l0_1.length c0_1]] w fun e w' => ∃ v1_ : Value, e = .returned (.agg #[.int .i64 r1, v1_]) ∧ Kd.R k45 45 w' w.heap.size (fun _ => True) v1_ r2 ∧ Below w.heap.size w w' := by
  unfold spec_l01Turned.f at h
  split at h
  · rename_i hl
    obtain ⟨rfl, rfl⟩ := Prod.mk.inj (Option.some.inj h)
    refine (l01Turned_any a0_0 A0_1 (l0_1.map toT) _ c0_1 w (by simp) (rt_of_C hr0_1) (by simpa [lim6] using hl)).mono ?_
    rintro e w' ⟨g, ln, c', rfl, hln, hO, hB⟩
    exact ⟨_, rfl, R_of_OW hO hln, hB⟩
  · cases h
def spec_l01Transposed.f (a0_0 : Int) (l0_1 : List STile) : Option (Int × List STile) := if lim6 l0_1.length = true then some (a0_0, (sortT ((l0_1.map toT).map (sidesT 1 0 3 2))).map toS) else none
theorem spec_l01Transposed.calls (a0_0 : Int) (A0_1 : Option Addr) (c0_1 : Nat) (l0_1 : List STile) (r1 : Int) (r2 : List STile) (w : World) (hr0_1 : Kd.C k45 w A0_1 l0_1.length l0_1) (hc0_1 : l0_1.length ≤ c0_1) (h : spec_l01Transposed.f a0_0 l0_1 = some (r1, r2)) :
    Calls Try.prog 69 #[.agg #[.int .i64 a0_0, .slice A0_1 l0_1.length c0_1]] w fun e w' => ∃ v1_ : Value, e = .returned (.agg #[.int .i64 r1, v1_]) ∧ Kd.R k45 45 w' w.heap.size (fun _ => True) v1_ r2 ∧ Below w.heap.size w w' := by
  unfold spec_l01Transposed.f at h
  split at h
  · rename_i hl
    obtain ⟨rfl, rfl⟩ := Prod.mk.inj (Option.some.inj h)
    refine (l01Transposed_any a0_0 A0_1 (l0_1.map toT) _ c0_1 w (by simp) (rt_of_C hr0_1) (by simpa [lim6] using hl)).mono ?_
    rintro e w' ⟨g, ln, c', rfl, hln, hO, hB⟩
    exact ⟨_, rfl, R_of_OW hO hln, hB⟩
  · cases h
def impl_Tile_sides.f (a0_0 a0_1 a0_2 a0_3 a1 a2 a3 a4 : Int) : Option (Int × Int × Int × Int) :=
  if a1 = 0 ∧ a2 = 3 ∧ a3 = 2 ∧ a4 = 1 then some (a0_0, a0_3, a0_2, a0_1) else if a1 = 2 ∧ a2 = 1 ∧ a3 = 0 ∧ a4 = 3 then some (a0_2, a0_1, a0_0, a0_3) else
  if a1 = 3 ∧ a2 = 0 ∧ a3 = 1 ∧ a4 = 2 then some (a0_3, a0_0, a0_1, a0_2) else if a1 = 1 ∧ a2 = 0 ∧ a3 = 3 ∧ a4 = 2 then some (a0_1, a0_0, a0_3, a0_2) else none
theorem impl_Tile_sides.calls (a0_0 a0_1 a0_2 a0_3 a1 a2 a3 a4 : Int) (r1 r2 r3 r4 : Int) (w : World) (h : impl_Tile_sides.f a0_0 a0_1 a0_2 a0_3 a1 a2 a3 a4 = some (r1, r2, r3, r4)) :
    Calls Try.prog 66 #[.agg #[.int .i64 a0_0, .int .i64 a0_1, .int .i64 a0_2, .int .i64 a0_3], .int .i64 a1, .int .i64 a2, .int .i64 a3, .int .i64 a4] w fun e w' => e = .returned (.agg #[.int .i64 r1, .int .i64 r2, .int .i64 r3, .int .i64 r4]) ∧ Below w.heap.size w w' := by
  unfold impl_Tile_sides.f at h
  split at h
  · rename_i hq
    obtain ⟨rfl, rfl, rfl, rfl⟩ := hq
    simp only [Option.some.injEq, Prod.mk.injEq] at h
    obtain ⟨rfl, rfl, rfl, rfl⟩ := h
    exact sides_any a0_0 a0_1 a0_2 a0_3 _ _ _ _ 0 3 2 1 w (by decide) (by decide) (by decide) (by decide) rfl rfl rfl rfl
  · skip
    split at h
    · rename_i hq
      obtain ⟨rfl, rfl, rfl, rfl⟩ := hq
      simp only [Option.some.injEq, Prod.mk.injEq] at h
      obtain ⟨rfl, rfl, rfl, rfl⟩ := h
      exact sides_any a0_0 a0_1 a0_2 a0_3 _ _ _ _ 2 1 0 3 w (by decide) (by decide) (by decide) (by decide) rfl rfl rfl rfl
    · skip
      split at h
      · rename_i hq
        obtain ⟨rfl, rfl, rfl, rfl⟩ := hq
        simp only [Option.some.injEq, Prod.mk.injEq] at h
        obtain ⟨rfl, rfl, rfl, rfl⟩ := h
        exact sides_any a0_0 a0_1 a0_2 a0_3 _ _ _ _ 3 0 1 2 w (by decide) (by decide) (by decide) (by decide) rfl rfl rfl rfl
      · skip
        split at h
        · rename_i hq
          obtain ⟨rfl, rfl, rfl, rfl⟩ := hq
          simp only [Option.some.injEq, Prod.mk.injEq] at h
          obtain ⟨rfl, rfl, rfl, rfl⟩ := h
          exact sides_any a0_0 a0_1 a0_2 a0_3 _ _ _ _ 1 0 3 2 w (by decide) (by decide) (by decide) (by decide) rfl rfl rfl rfl
        · cases h
def impl_limited.f (a0 : Int) (l1 : List STile) : Option (Int × List STile × Int) := if lim6 l1.length = true then some ((limR a0 (l1.map toT)).1.1, (limR a0 (l1.map toT)).1.2.map toS, (limR a0 (l1.map toT)).2) else none
theorem impl_limited.calls (a0 : Int) (A1 : Option Addr) (c1 : Nat) (l1 : List STile) (r1 : Int) (r2 : List STile) (r3 : Int) (w : World) (hr1 : Kd.C k45 w A1 l1.length l1) (hc1 : l1.length ≤ c1) (h : impl_limited.f a0 l1 = some (r1, r2, r3)) :
    Calls Try.prog 57 #[.int .i64 a0, .slice A1 l1.length c1] w fun e w' => ∃ v1_ : Value, e = .returned (.tuple #[.agg #[.int .i64 r1, v1_], .int .i64 r3]) ∧ Kd.R k45 45 w' w.heap.size (fun _ => True) v1_ r2 ∧ Below w.heap.size w w' := by
  unfold impl_limited.f at h
  split at h
  · rename_i hl
    simp only [Option.some.injEq, Prod.mk.injEq] at h
    obtain ⟨rfl, rfl, rfl⟩ := h
    refine (limited_any a0 A1 (l1.map toT) _ c1 w (by simp) (rt_of_C hr1) (by simpa [lim6] using hl)).mono ?_
    rintro e w' ⟨v, xc, xs, code, hR, rfl, hO, hB⟩
    rw [hR]
    exact ⟨_, rfl, R_of_OW hO rfl, hB⟩
  · cases h
def spec_l01Has.f (a0_0 : Int) (l0_1 : List STile) (a1_0 a1_1 a1_2 a1_3 : Int) : Option Bool := if inLim l0_1.length = true then some (hasT (l0_1.map toT) ⟨a1_0, a1_1, a1_2, a1_3⟩) else none
theorem spec_l01Has.calls (a0_0 : Int) (A0_1 : Option Addr) (c0_1 : Nat) (l0_1 : List STile) (a1_0 a1_1 a1_2 a1_3 : Int) (r : Bool) (w : World) (hr0_1 : Kd.C k45 w A0_1 l0_1.length l0_1) (hc0_1 : l0_1.length ≤ c0_1) (h : spec_l01Has.f a0_0 l0_1 a1_0 a1_1 a1_2 a1_3 = some r) :
    Calls Try.prog 76 #[.agg #[.int .i64 a0_0, .slice A0_1 l0_1.length c0_1], .agg #[.int .i64 a1_0, .int .i64 a1_1, .int .i64 a1_2, .int .i64 a1_3]] w fun e w' => e = .returned (.bool r) ∧ Below w.heap.size w w' := by
  unfold spec_l01Has.f at h
  split at h
  · rename_i hl
    obtain rfl := Option.some.inj h
    exact l01Has_any a0_0 A0_1 (l0_1.map toT) _ c0_1 ⟨a1_0, a1_1, a1_2, a1_3⟩ w (by simp) (rt_of_C hr0_1) (by simpa [inLim] using hl)
  · cases h
def slices_Contains_impl_Tile_impl_Tile.f (l0 : List STile) (a1_0 a1_1 a1_2 a1_3 : Int) : Option Bool := if inLim l0.length = true then some (hasT (l0.map toT) ⟨a1_0, a1_1, a1_2, a1_3⟩) else none
theorem slices_Contains_impl_Tile_impl_Tile.calls (A0 : Option Addr) (c0 : Nat) (l0 : List STile) (a1_0 a1_1 a1_2 a1_3 : Int) (r : Bool) (w : World) (hr0 : Kd.C k45 w A0 l0.length l0) (hc0 : l0.length ≤ c0) (h : slices_Contains_impl_Tile_impl_Tile.f l0 a1_0 a1_1 a1_2 a1_3 = some r) :
    Calls Try.prog 79 #[.slice A0 l0.length c0, .agg #[.int .i64 a1_0, .int .i64 a1_1, .int .i64 a1_2, .int .i64 a1_3]] w fun e w' => e = .returned (.bool r) ∧ Below w.heap.size w w' := by
  unfold slices_Contains_impl_Tile_impl_Tile.f at h
  split at h
  · rename_i hl
    obtain rfl := Option.some.inj h
    exact ContainsT_any A0 (l0.map toT) _ c0 ⟨a1_0, a1_1, a1_2, a1_3⟩ w (by simp) (rt_of_C hr0) (by simpa [inLim] using hl)
  · cases h
theorem CloneNil_any (c : Nat) (w : World) : Calls Try.prog 72 #[.slice none 0 c] w fun e w' => e = .returned (.slice none 0 0) ∧ Below w.heap.size w w' := by
  have hEQ := fun w => Lib.run_eql_slice_nil (P := Try.prog) w 24 45 none 0 c 0 0 Try.underlying24
  simp only [Option.isNone_none] at hEQ
  go_enter Try.func72, Try.ntmps72
  go_wp2_with fail
  go_ret
  exact ⟨rfl, Below.refl _ _⟩
def slices_Clone_impl_Tile_impl_Tile.f (l0 : List STile) : Option (List STile) := if lim6 l0.length = true then some l0 else none
theorem slices_Clone_impl_Tile_impl_Tile.calls (A0 : Option Addr) (c0 : Nat) (l0 : List STile) (r : List STile) (w : World) (hr0 : Kd.C k45 w A0 l0.length l0) (hc0 : l0.length ≤ c0) (h : slices_Clone_impl_Tile_impl_Tile.f l0 = some r) :
    Calls Try.prog 72 #[.slice A0 l0.length c0] w fun e w' => ∃ v, e = .returned v ∧ Kd.R k45 45 w' w.heap.size (fun _ => True) v r ∧ Below w.heap.size w w' := by
  unfold slices_Clone_impl_Tile_impl_Tile.f at h
  split at h
  · rename_i hl
    obtain rfl := Option.some.inj h
    cases A0 with
    | none =>
      have hn : l0.length = 0 := by
        rcases Nat.eq_zero_or_pos l0.length with h0 | h0
        · exact h0
        · obtain ⟨ad, e, -⟩ := hr0.2.2 h0
          cases e
      obtain rfl := List.eq_nil_of_length_eq_zero hn
      refine (CloneNil_any c0 w).mono ?_
      rintro e w' ⟨rfl, hB⟩
      exact ⟨_, rfl, Kd.R_nil _ _ _ _ _, hB⟩
    | some ad =>
      refine (CloneT_any ad (l0.map toT) _ c0 w (by simp) (rt_of_C hr0) (by simpa [lim6] using hl)).mono ?_
      rintro e w' ⟨g, c', rfl, hO, hB⟩
      have := R_of_OT hO
      rw [map_toST] at this
      exact ⟨_, rfl, this, hB⟩
  · cases h
end Go.Proofs.Ytnjmgmdpkogocaa.Q

/-
  Plain: sets whose tiles are laid in another way.
-/
namespace Go.Proofs.Ytnjmgmdpkogocaa
open Go Go.RowKit Go.Proofs Go.Proofs.YtnjmgmdpkogocaaW.PrintWords Go.Proofs.YtnjmgmdpkogocaaW.PrintMore Go.Proofs.Ytnjmgmdpkogocaa.Q
set_option linter.unusedVariables false
set_option linter.unusedSimpArgs false

theorem wrap_succ (m : Nat) (h : m < 1000000000) : wrap64 ((m : Int) + 1) = ((m + 1 : Nat) : Int) := by unfold wrap64; omega
theorem rdT_get (l : List STile) (i : Nat) (h : i < l.length) : rd_T45 l (i : Int) = l[i] := by simp [rd_T45, List.getD, List.getElem?_eq_getElem h]
theorem sortT_len (ts : List T4) : (sortT ts).length ≤ ts.length := sortK_len ts ts.length
theorem isS_lens {C : Int} {ts : List T4} (h : isS C ts = true) : 1 ≤ C ∧ C ≤ 6 ∧ ts.length ≤ 16 := by
  simp only [isS, Bool.and_eq_true, inB, decide_eq_true_eq] at h
  omega
/-- a set's tiles laid in another way -/
def wayR (p : T4 → T4) (C : Int) (ts : List T4) : (Int × List T4) × Int := if isS C ts = true then ((C, sortT (ts.map p)), 0) else ((0, []), 1)
/-- a result in the form of the printed ones -/
def flat (r : (Int × List T4) × Int) : Int × List STile × Int := (r.1.1, r.1.2.map toS, r.2)
theorem limR_in {C : Int} {ts : List T4} (hC : C ≤ 6) (h : ts.length ≤ 16) : limR C ts = ((C, sortT ts), 0) := by
  have := sortT_len ts
  unfold limR
  rw [if_pos (by simp; omega)]
theorem limited_f (C : Int) (l : List STile) (h : l.length ≤ 1000000) : impl_limited.f C l = some (flat (limR C (l.map toT))) := by
  unfold impl_limited.f flat
  rw [if_pos (by simpa [lim6] using h)]
theorem wayR_len (p : T4 → T4) (C : Int) (ts : List T4) : (wayR p C ts).1.2.length ≤ 1048576 := by
  unfold wayR
  split
  · rename_i h
    have h1 := isS_lens h
    have h2 := sortT_len (ts.map p)
    rw [List.length_map] at h2
    show (sortT (ts.map p)).length ≤ _
    omega
  · simp
end Go.Proofs.Ytnjmgmdpkogocaa

-- Printed by a program of this session (the kit's print, turned: printpatch.py) out of Lean's print of the translation. Lean checks it.
namespace Go.Proofs.Ytnjmgmdpkogocaa.Q
open Go.RowKit Go.Proofs.YtnjmgmdpkogocaaW.PrintWords Go.Proofs.YtnjmgmdpkogocaaW.PrintLast Go.Proofs.YtnjmgmdpkogocaaW.PrintMore
attribute [local go_sem] max2_int min2_int max_two min_two max_three min_three max_four min_four   -- for this text's walks alone
set_option linter.unusedVariables false
set_option linter.unusedSimpArgs false

/-! ### spec_TransposedSet: function 30 -/
def spec_TransposedSet.f (a0_0 : Int) (l0_1 : List (S45)) : Option (Int × (List (S45)) × Int) := (spec_l01Is.f a0_0 l0_1).bind fun t280 => (if t280 = true then ((spec_l01Transposed.f a0_0 l0_1).bind fun bt281 => (some (bt281.1, bt281.2, 0))) else (some (0, ([] : List (S45)), 1)))
set_option maxHeartbeats 8000000 in
set_option maxRecDepth 100000 in
theorem spec_TransposedSet.calls (a0_0 : Int) (A0_1 : Option Addr) (c0_1 : Nat) (l0_1 : List (S45)) (r1 : Int) (r2 : List (S45)) (r3 : Int) (w : World) (hr0_1 : Kd.C k45 w A0_1 l0_1.length l0_1) (hc0_1 : l0_1.length ≤ c0_1) (h : spec_TransposedSet.f a0_0 l0_1 = some (r1, r2, r3)) :
  Calls Try.prog 30 #[.agg #[.int .i64 a0_0, .slice A0_1 l0_1.length c0_1]] w fun e w' => ∃ v1_ : Value, e = .returned (.tuple #[.agg #[.int .i64 r1, v1_], .int .i64 r3]) ∧ Kd.R k45 45 w' w.heap.size (fun _ => True) v1_ r2 ∧ Below w.heap.size w w' := by
 have hu26 := Try.underlying26
 have HR0_1 := Aside0.mk hr0_1
 have HC0_1 := Aside0.mk hc0_1
 clear hr0_1 hc0_1
 have HB := Aside0.mk (Below.refl w.heap.size w)
 have H : ((spec_l01Is.f a0_0 l0_1).bind fun t280 => (if t280 = true then ((spec_l01Transposed.f a0_0 l0_1).bind fun bt281 => (some (bt281.1, bt281.2, 0))) else (some (0, ([] : List (S45)), 1)))) = some (r1, r2, r3) := h
 clear h
 replace H := Option.bind_eq_some_iff.mp H
 obtain ⟨t280, A20, H⟩ := H
 replace H : (if t280 = true then ((spec_l01Transposed.f a0_0 l0_1).bind fun bt281 => (some (bt281.1, bt281.2, 0))) else (some (0, ([] : List (S45)), 1))) = some (r1, r2, r3) := H
 have A2 := Aside0.mk A20
 clear A20
 by_cases c3 : t280 = true
 ·subst c3
  have H1 : ((spec_l01Transposed.f a0_0 l0_1).bind fun bt281 => (some (bt281.1, bt281.2, 0))) = some (r1, r2, r3) := by rw [if_pos rfl] at H; exact H
  clear H
  have H := H1
  clear H1
  replace H := Option.bind_eq_some_iff.mp H
  obtain ⟨⟨t281, t282⟩, A40, H⟩ := H
  replace H : (some (t281, t282, 0)) = some (r1, r2, r3) := H
  have A4 := Aside0.mk A40
  clear A40
  simp only [Option.some.injEq, Prod.mk.injEq] at H
  obtain ⟨rfl, rfl, rfl⟩ := H
  go_enter Try.func30, Try.ntmps30
  go_wp2_with (first | ((with_reducible refine gate_dst (N := 1) rfl ?_); refine box_event ?hg (N := 1) ?hd (cs := #[.int .i64 a0_0, .slice A0_1 l0_1.length c0_1]) (t := 26) ?hr ?_; (case hd => rfl); (case hg => rfl); (case hr => first | (go_simp; done) | (go_simp; rfl)); intro gb278 hg w5 hbox hb; have n0_ := Aside0.mk (below_step (by repeat (first | (with_reducible first | exact HB.out | apply below_alloc | apply pw_below_drewN | apply below_drew1) | exact HB.out)) hb); have n1_ := Aside0.mk (hbox); have n2_ := Aside0.mk ((by rw [hg]; exact (below_size (by repeat (first | (with_reducible first | exact HB.out | apply below_alloc | apply pw_below_drewN | apply below_drew1) | exact HB.out))) : w.heap.size ≤ gb278)); have n3_ := Aside0.mk ((by rw [hg]; exact (below_size (by repeat (first | (with_reducible first | exact HB.out | apply below_alloc | apply pw_below_drewN | apply below_drew1) | exact HB.out))) : w.heap.size ≤ gb278)); clear HB; have HB := n0_; have BK278 := n1_; have GW278 := n2_; have GE278 := n3_; clear n0_ n1_ n2_ n3_; clear hb hbox hg) | ((with_reducible refine gate_dst (N := 2) rfl ?_); refine box_event ?hg (N := 2) ?hd (cs := #[.int .i64 0, .slice none 0 0]) (t := 26) ?hr ?_; (case hd => rfl); (case hg => rfl); (case hr => first | (go_simp; done) | (go_simp; rfl)); intro gb279 hg w6 hbox hb; have n0_ := Aside0.mk (blk_below (g := gb278) (o := .cells #[.int .i64 a0_0, .slice A0_1 l0_1.length c0_1] 26 (0, 0)) (by (with_reducible repeat (first | refine blk_drewN ?_ _ | refine blk_drew ?_ | refine blk_alloc ?_ _)); exact BK278.out) hb); have n1_ := Aside0.mk (below_step (by repeat (first | (with_reducible first | exact HB.out | apply below_alloc | apply pw_below_drewN | apply below_drew1 | refine below_set ?_ GE278.out) | exact HB.out)) hb); have n2_ := Aside0.mk (hbox); have n3_ := Aside0.mk ((by rw [hg]; exact (below_size (by repeat (first | (with_reducible first | exact HB.out | apply below_alloc | apply pw_below_drewN | apply below_drew1 | refine below_set ?_ GE278.out) | exact HB.out))) : w.heap.size ≤ gb279)); have n4_ := Aside0.mk ((by rw [hg]; exact (below_size (by repeat (first | (with_reducible first | exact HB.out | apply below_alloc | apply pw_below_drewN | apply below_drew1 | refine below_set ?_ GE278.out) | exact HB.out))) : w.heap.size ≤ gb279)); have n5_ := Aside0.mk ((by rw [hg]; exact Nat.ne_of_lt (blk_lt (g := gb278) (o := .cells #[.int .i64 a0_0, .slice A0_1 l0_1.length c0_1] 26 (0, 0)) (by (with_reducible repeat (first | refine blk_drewN ?_ _ | refine blk_drew ?_ | refine blk_alloc ?_ _)); exact BK278.out)) : gb278 ≠ gb279)); have n6_ := Aside0.mk ((by rw [hg]; exact Nat.ne_of_gt (blk_lt (g := gb278) (o := .cells #[.int .i64 a0_0, .slice A0_1 l0_1.length c0_1] 26 (0, 0)) (by (with_reducible repeat (first | refine blk_drewN ?_ _ | refine blk_drew ?_ | refine blk_alloc ?_ _)); exact BK278.out)) : gb279 ≠ gb278)); clear BK278; clear HB; have BK278 := n0_; have HB := n1_; have BK279 := n2_; have GW279 := n3_; have GE279 := n4_; have NB278_279 := n5_; have NB279_278 := n6_; clear n0_ n1_ n2_ n3_ n4_ n5_ n6_; clear hb hbox hg; have hnb7 := NB278_279.out; have hnc7 := NB279_278.out; have hcz8_0 : w6.cell? ⟨gb278, 0, none⟩ = some (.int .i64 a0_0) := (blk_cell BK278.out 0).trans rfl; have hcz8_1 : w6.cell? ⟨gb278, 1, none⟩ = some (.slice A0_1 l0_1.length c0_1) := (blk_cell BK278.out 1).trans rfl; have hfz8_0 := blk_frozen BK278.out 0; have hfz8_1 := blk_frozen BK278.out 1) | ((with_reducible refine gate_callee (f := 60) rfl ?_); refine goesL_ (some 5) rfl rfl Try.func60 (by kernel_rfl) rfl #[.agg #[.int .i64 a0_0, .slice A0_1 l0_1.length c0_1]] rfl (by (try simp only [List.map_toArray, List.map_cons, List.map_nil]); first | done | rfl | (simp only [List.length_drop, List.length_take]; rfl)) ?_; (with_reducible refine (spec_l01Is.calls a0_0 _ _ l0_1 true _ ?side1 ?side2 A2.out).mono ?_); (case side1 => repeat (first | exact (Kd.C_below HR0_1.out HB.out) | (with_reducible refine Kd.C_alloc ?_ _) | (with_reducible refine Kd.C_drewN ?_ _) | (with_reducible refine Kd.C_drew ?_))); (case side2 => exact HC0_1.out); rintro e w9 ⟨rfl, hb⟩; refine ⟨_, rfl, ?_⟩; have n0_ := Aside0.mk (blk_below (g := gb278) (o := .cells #[.int .i64 a0_0, .slice A0_1 l0_1.length c0_1] 26 (0, 0)) (by (with_reducible repeat (first | refine blk_drewN ?_ _ | refine blk_drew ?_ | refine blk_alloc ?_ _)); exact BK278.out) hb); have n1_ := Aside0.mk (blk_below (g := gb279) (o := .cells #[.int .i64 0, .slice none 0 0] 26 (0, 0)) (by (with_reducible repeat (first | refine blk_drewN ?_ _ | refine blk_drew ?_ | refine blk_alloc ?_ _)); exact BK279.out) hb); have n2_ := Aside0.mk (below_step (by repeat (first | (with_reducible first | exact HB.out | apply below_alloc | apply pw_below_drewN | apply below_drew1 | refine below_set ?_ GE278.out | refine below_set ?_ GE279.out) | exact HB.out)) hb); clear BK278; clear BK279; clear HB; have BK278 := n0_; have BK279 := n1_; have HB := n2_; clear n0_ n1_ n2_; (try clear hb); (try clear hb2); (try clear hk); (try clear hi); have hcz10_0 : w9.cell? ⟨gb278, 0, none⟩ = some (.int .i64 a0_0) := (blk_cell BK278.out 0).trans rfl; have hcz10_1 : w9.cell? ⟨gb278, 1, none⟩ = some (.slice A0_1 l0_1.length c0_1) := (blk_cell BK278.out 1).trans rfl; have hfz10_0 := blk_frozen BK278.out 0; have hfz10_1 := blk_frozen BK278.out 1) | ((with_reducible refine gate_callee (f := 69) rfl ?_); refine goesL_ (some 9) rfl rfl Try.func69 (by kernel_rfl) rfl #[.agg #[.int .i64 a0_0, .slice A0_1 l0_1.length c0_1]] rfl (by (try simp only [List.map_toArray, List.map_cons, List.map_nil]); first | done | rfl | (simp only [List.length_drop, List.length_take]; rfl)) ?_; (with_reducible refine (spec_l01Transposed.calls a0_0 _ _ l0_1 t281 t282 _ ?side1 ?side2 A4.out).mono ?_); (case side1 => repeat (first | exact (Kd.C_below HR0_1.out HB.out) | (with_reducible refine Kd.C_alloc ?_ _) | (with_reducible refine Kd.C_drewN ?_ _) | (with_reducible refine Kd.C_drew ?_))); (case side2 => exact HC0_1.out); rintro e w11 ⟨v283, rfl, ho0, hb⟩; refine ⟨_, rfl, ?_⟩; have n0_ := Aside0.mk (Kd.R_lower ho0 (below_size (by repeat (first | (with_reducible first | exact HB.out | apply below_alloc | apply pw_below_drewN | apply below_drew1 | refine below_set ?_ GE278.out | refine below_set ?_ GE279.out) | exact HB.out)))); have n1_ := Aside0.mk (blk_below (g := gb278) (o := .cells #[.int .i64 a0_0, .slice A0_1 l0_1.length c0_1] 26 (0, 0)) (by (with_reducible repeat (first | refine blk_drewN ?_ _ | refine blk_drew ?_ | refine blk_alloc ?_ _)); exact BK278.out) hb); have n2_ := Aside0.mk (blk_below (g := gb279) (o := .cells #[.int .i64 0, .slice none 0 0] 26 (0, 0)) (by (with_reducible repeat (first | refine blk_drewN ?_ _ | refine blk_drew ?_ | refine blk_alloc ?_ _)); exact BK279.out) hb); have n3_ := Aside0.mk (below_step (by repeat (first | (with_reducible first | exact HB.out | apply below_alloc | apply pw_below_drewN | apply below_drew1 | refine below_set ?_ GE278.out | refine below_set ?_ GE279.out) | exact HB.out)) hb); clear BK278; clear BK279; clear HB; have HO284 := n0_; have BK278 := n1_; have BK279 := n2_; have HB := n3_; clear n0_ n1_ n2_ n3_; (try clear hb); (try clear hb2); (try clear hk); (try clear hi); (try clear ho0); have hcz12_0 : w11.cell? ⟨gb279, 0, none⟩ = some (.int .i64 0) := (blk_cell BK279.out 0).trans rfl; have hcz12_1 : w11.cell? ⟨gb279, 1, none⟩ = some (.slice none 0 0) := (blk_cell BK279.out 1).trans rfl; have hfz12_0 := blk_frozen BK279.out 0; have hfz12_1 := blk_frozen BK279.out 1; obtain ⟨Ao13, co13, eo13⟩ := Kd.R_slice HO284.out; subst eo13))
  refine bodyPost_ret (results_ct rfl _ _ gb279 26 #[.int .i64 t281, .slice Ao13 t282.length co13] (0, 0) _ rfl (by (with_reducible repeat (first | refine blk_drewN ?_ _ | refine blk_drew ?_ | refine blk_alloc ?_ _)); refine blk_put (cs := #[.int .i64 t281, .slice none 0 0]) ?_ 1 _ rfl; (with_reducible repeat (first | refine blk_drewN ?_ _ | refine blk_drew ?_ | refine blk_alloc ?_ _)); refine blk_put (cs := #[.int .i64 0, .slice none 0 0]) ?_ 0 _ rfl; (with_reducible repeat (first | refine blk_drewN ?_ _ | refine blk_drew ?_ | refine blk_alloc ?_ _)); exact BK279.out) Try.underlying26 rfl (by kernel_rfl)) rfl ?_
  exact ⟨_, by first | rfl | (simp [errW_none, errW_some] <;> rfl) | (simp [*, errW_none, errW_some] <;> rfl), by (with_reducible repeat (first | apply Kd.R_alloc | apply Kd.R_drewN | apply Kd.R_drew)); exact Kd.R_mono (Kd.R_far (p := ⟨gb279, 1, none⟩) (Kd.R_far (p := ⟨gb279, 0, none⟩) (Kd.R_types HO284.out BK279.out (by decide)) (fun _ hk => hk.2) (.int .i64 t281)) (fun _ hk => hk.2) (.slice Ao13 t282.length co13)) (fun _ hk => trivial), by repeat (first | (with_reducible first | exact HB.out | apply below_alloc | apply pw_below_drewN | apply below_drew1 | refine below_set ?_ GE278.out | refine below_set ?_ GE279.out) | exact HB.out)⟩
 ·replace c3 := Bool.eq_false_iff.mpr c3
  subst c3
  have H1 : (some (0, ([] : List (S45)), 1)) = some (r1, r2, r3) := by rw [if_neg (show ¬ (false = true) by decide)] at H; exact H
  clear H
  have H := H1
  clear H1
  simp only [Option.some.injEq, Prod.mk.injEq] at H
  obtain ⟨rfl, rfl, rfl⟩ := H
  go_enter Try.func30, Try.ntmps30
  go_wp2_with (first | ((with_reducible refine gate_dst (N := 1) rfl ?_); refine box_event ?hg (N := 1) ?hd (cs := #[.int .i64 a0_0, .slice A0_1 l0_1.length c0_1]) (t := 26) ?hr ?_; (case hd => rfl); (case hg => rfl); (case hr => first | (go_simp; done) | (go_simp; rfl)); intro gb278 hg w14 hbox hb; have n0_ := Aside0.mk (below_step (by repeat (first | (with_reducible first | exact HB.out | apply below_alloc | apply pw_below_drewN | apply below_drew1) | exact HB.out)) hb); have n1_ := Aside0.mk (hbox); have n2_ := Aside0.mk ((by rw [hg]; exact (below_size (by repeat (first | (with_reducible first | exact HB.out | apply below_alloc | apply pw_below_drewN | apply below_drew1) | exact HB.out))) : w.heap.size ≤ gb278)); have n3_ := Aside0.mk ((by rw [hg]; exact (below_size (by repeat (first | (with_reducible first | exact HB.out | apply below_alloc | apply pw_below_drewN | apply below_drew1) | exact HB.out))) : w.heap.size ≤ gb278)); clear HB; have HB := n0_; have BK278 := n1_; have GW278 := n2_; have GE278 := n3_; clear n0_ n1_ n2_ n3_; clear hb hbox hg) | ((with_reducible refine gate_dst (N := 2) rfl ?_); refine box_event ?hg (N := 2) ?hd (cs := #[.int .i64 0, .slice none 0 0]) (t := 26) ?hr ?_; (case hd => rfl); (case hg => rfl); (case hr => first | (go_simp; done) | (go_simp; rfl)); intro gb279 hg w15 hbox hb; have n0_ := Aside0.mk (blk_below (g := gb278) (o := .cells #[.int .i64 a0_0, .slice A0_1 l0_1.length c0_1] 26 (0, 0)) (by (with_reducible repeat (first | refine blk_drewN ?_ _ | refine blk_drew ?_ | refine blk_alloc ?_ _)); exact BK278.out) hb); have n1_ := Aside0.mk (below_step (by repeat (first | (with_reducible first | exact HB.out | apply below_alloc | apply pw_below_drewN | apply below_drew1 | refine below_set ?_ GE278.out) | exact HB.out)) hb); have n2_ := Aside0.mk (hbox); have n3_ := Aside0.mk ((by rw [hg]; exact (below_size (by repeat (first | (with_reducible first | exact HB.out | apply below_alloc | apply pw_below_drewN | apply below_drew1 | refine below_set ?_ GE278.out) | exact HB.out))) : w.heap.size ≤ gb279)); have n4_ := Aside0.mk ((by rw [hg]; exact (below_size (by repeat (first | (with_reducible first | exact HB.out | apply below_alloc | apply pw_below_drewN | apply below_drew1 | refine below_set ?_ GE278.out) | exact HB.out))) : w.heap.size ≤ gb279)); have n5_ := Aside0.mk ((by rw [hg]; exact Nat.ne_of_lt (blk_lt (g := gb278) (o := .cells #[.int .i64 a0_0, .slice A0_1 l0_1.length c0_1] 26 (0, 0)) (by (with_reducible repeat (first | refine blk_drewN ?_ _ | refine blk_drew ?_ | refine blk_alloc ?_ _)); exact BK278.out)) : gb278 ≠ gb279)); have n6_ := Aside0.mk ((by rw [hg]; exact Nat.ne_of_gt (blk_lt (g := gb278) (o := .cells #[.int .i64 a0_0, .slice A0_1 l0_1.length c0_1] 26 (0, 0)) (by (with_reducible repeat (first | refine blk_drewN ?_ _ | refine blk_drew ?_ | refine blk_alloc ?_ _)); exact BK278.out)) : gb279 ≠ gb278)); clear BK278; clear HB; have BK278 := n0_; have HB := n1_; have BK279 := n2_; have GW279 := n3_; have GE279 := n4_; have NB278_279 := n5_; have NB279_278 := n6_; clear n0_ n1_ n2_ n3_ n4_ n5_ n6_; clear hb hbox hg; have hnb16 := NB278_279.out; have hnc16 := NB279_278.out; have hcz17_0 : w15.cell? ⟨gb278, 0, none⟩ = some (.int .i64 a0_0) := (blk_cell BK278.out 0).trans rfl; have hcz17_1 : w15.cell? ⟨gb278, 1, none⟩ = some (.slice A0_1 l0_1.length c0_1) := (blk_cell BK278.out 1).trans rfl; have hfz17_0 := blk_frozen BK278.out 0; have hfz17_1 := blk_frozen BK278.out 1) | ((with_reducible refine gate_callee (f := 60) rfl ?_); refine goesL_ (some 5) rfl rfl Try.func60 (by kernel_rfl) rfl #[.agg #[.int .i64 a0_0, .slice A0_1 l0_1.length c0_1]] rfl (by (try simp only [List.map_toArray, List.map_cons, List.map_nil]); first | done | rfl | (simp only [List.length_drop, List.length_take]; rfl)) ?_; (with_reducible refine (spec_l01Is.calls a0_0 _ _ l0_1 false _ ?side1 ?side2 A2.out).mono ?_); (case side1 => repeat (first | exact (Kd.C_below HR0_1.out HB.out) | (with_reducible refine Kd.C_alloc ?_ _) | (with_reducible refine Kd.C_drewN ?_ _) | (with_reducible refine Kd.C_drew ?_))); (case side2 => exact HC0_1.out); rintro e w18 ⟨rfl, hb⟩; refine ⟨_, rfl, ?_⟩; have n0_ := Aside0.mk (blk_below (g := gb278) (o := .cells #[.int .i64 a0_0, .slice A0_1 l0_1.length c0_1] 26 (0, 0)) (by (with_reducible repeat (first | refine blk_drewN ?_ _ | refine blk_drew ?_ | refine blk_alloc ?_ _)); exact BK278.out) hb); have n1_ := Aside0.mk (blk_below (g := gb279) (o := .cells #[.int .i64 0, .slice none 0 0] 26 (0, 0)) (by (with_reducible repeat (first | refine blk_drewN ?_ _ | refine blk_drew ?_ | refine blk_alloc ?_ _)); exact BK279.out) hb); have n2_ := Aside0.mk (below_step (by repeat (first | (with_reducible first | exact HB.out | apply below_alloc | apply pw_below_drewN | apply below_drew1 | refine below_set ?_ GE278.out | refine below_set ?_ GE279.out) | exact HB.out)) hb); clear BK278; clear BK279; clear HB; have BK278 := n0_; have BK279 := n1_; have HB := n2_; clear n0_ n1_ n2_; (try clear hb); (try clear hb2); (try clear hk); (try clear hi); have hcz19_0 : w18.cell? ⟨gb279, 0, none⟩ = some (.int .i64 0) := (blk_cell BK279.out 0).trans rfl; have hcz19_1 : w18.cell? ⟨gb279, 1, none⟩ = some (.slice none 0 0) := (blk_cell BK279.out 1).trans rfl; have hfz19_0 := blk_frozen BK279.out 0; have hfz19_1 := blk_frozen BK279.out 1))
  refine bodyPost_ret (results_ct rfl _ _ gb279 26 #[.int .i64 0, .slice none 0 0] (0, 0) _ rfl (by (with_reducible repeat (first | refine blk_drewN ?_ _ | refine blk_drew ?_ | refine blk_alloc ?_ _)); refine blk_put (cs := #[.int .i64 0, .slice none 0 0]) ?_ 1 _ rfl; (with_reducible repeat (first | refine blk_drewN ?_ _ | refine blk_drew ?_ | refine blk_alloc ?_ _)); refine blk_put (cs := #[.int .i64 0, .slice none 0 0]) ?_ 0 _ rfl; (with_reducible repeat (first | refine blk_drewN ?_ _ | refine blk_drew ?_ | refine blk_alloc ?_ _)); exact BK279.out) Try.underlying26 rfl (by kernel_rfl)) rfl ?_
  exact ⟨_, by first | rfl | (simp [errW_none, errW_some] <;> rfl) | (simp [*, errW_none, errW_some] <;> rfl), by first | exact Kd.R_nil _ _ _ _ _ | exact Kd.N_nil _ _ _ _ _ | exact Kd.V_nil _ _ _ _ _ | exact Kd.Q_nil _ _ _ _ _ | exact Kd.S_nil _ _ _ _ _, by repeat (first | (with_reducible first | exact HB.out | apply below_alloc | apply pw_below_drewN | apply below_drew1 | refine below_set ?_ GE278.out | refine below_set ?_ GE279.out) | exact HB.out)⟩

end Go.Proofs.Ytnjmgmdpkogocaa.Q

-- Printed by a program of this session (the kit's print, turned: printpatch.py) out of Lean's print of the translation. Lean checks it.
namespace Go.Proofs.Ytnjmgmdpkogocaa.Q
open Go.RowKit Go.Proofs.YtnjmgmdpkogocaaW.PrintWords Go.Proofs.YtnjmgmdpkogocaaW.PrintLast Go.Proofs.YtnjmgmdpkogocaaW.PrintMore
attribute [local go_sem] max2_int min2_int max_two min_two max_three min_three max_four min_four   -- for this text's walks alone
set_option linter.unusedVariables false
set_option linter.unusedSimpArgs false

/-! ### impl_TransposedSet_1: function 70 -/
def impl_TransposedSet_1.f (a0_0 : Int) (a0_1 : Int) (a0_2 : Int) (a0_3 : Int) : Option (Int × Int × Int × Int) := (impl_Tile_sides.f a0_0 a0_1 a0_2 a0_3 1 0 3 2).bind fun bt287 => (some (bt287.1, bt287.2.1, bt287.2.2.1, bt287.2.2.2))
set_option maxHeartbeats 8000000 in
set_option maxRecDepth 100000 in
theorem impl_TransposedSet_1.calls (a0_0 : Int) (a0_1 : Int) (a0_2 : Int) (a0_3 : Int) (r1 : Int) (r2 : Int) (r3 : Int) (r4 : Int) (w : World) (h : impl_TransposedSet_1.f a0_0 a0_1 a0_2 a0_3 = some (r1, r2, r3, r4)) :
  Calls Try.prog 70 #[.agg #[.int .i64 a0_0, .int .i64 a0_1, .int .i64 a0_2, .int .i64 a0_3]] w fun e w' => e = .returned (.agg #[.int .i64 r1, .int .i64 r2, .int .i64 r3, .int .i64 r4]) ∧ Below w.heap.size w w' := by
 have hu45 := Try.underlying45
 have HB := Aside0.mk (Below.refl w.heap.size w)
 have H : ((impl_Tile_sides.f a0_0 a0_1 a0_2 a0_3 1 0 3 2).bind fun bt287 => (some (bt287.1, bt287.2.1, bt287.2.2.1, bt287.2.2.2))) = some (r1, r2, r3, r4) := h
 clear h
 replace H := Option.bind_eq_some_iff.mp H
 obtain ⟨⟨t287, t288, t289, t290⟩, A20, H⟩ := H
 replace H : (some (t287, t288, t289, t290)) = some (r1, r2, r3, r4) := H
 have A2 := Aside0.mk A20
 clear A20
 simp only [Option.some.injEq, Prod.mk.injEq] at H
 obtain ⟨rfl, rfl, rfl, rfl⟩ := H
 go_enter Try.func70, Try.ntmps70
 go_wp2_with (first | ((with_reducible refine gate_dst (N := 1) rfl ?_); refine box_event ?hg (N := 1) ?hd (cs := #[.int .i64 a0_0, .int .i64 a0_1, .int .i64 a0_2, .int .i64 a0_3]) (t := 45) ?hr ?_; (case hd => rfl); (case hg => rfl); (case hr => first | (go_simp; done) | (go_simp; rfl)); intro gb285 hg w3 hbox hb; have n0_ := Aside0.mk (below_step (by repeat (first | (with_reducible first | exact HB.out | apply below_alloc | apply pw_below_drewN | apply below_drew1) | exact HB.out)) hb); have n1_ := Aside0.mk (hbox); have n2_ := Aside0.mk ((by rw [hg]; exact (below_size (by repeat (first | (with_reducible first | exact HB.out | apply below_alloc | apply pw_below_drewN | apply below_drew1) | exact HB.out))) : w.heap.size ≤ gb285)); have n3_ := Aside0.mk ((by rw [hg]; exact (below_size (by repeat (first | (with_reducible first | exact HB.out | apply below_alloc | apply pw_below_drewN | apply below_drew1) | exact HB.out))) : w.heap.size ≤ gb285)); clear HB; have HB := n0_; have BK285 := n1_; have GW285 := n2_; have GE285 := n3_; clear n0_ n1_ n2_ n3_; clear hb hbox hg) | ((with_reducible refine gate_dst (N := 2) rfl ?_); refine box_event ?hg (N := 2) ?hd (cs := #[.int .i64 0, .int .i64 0, .int .i64 0, .int .i64 0]) (t := 45) ?hr ?_; (case hd => rfl); (case hg => rfl); (case hr => first | (go_simp; done) | (go_simp; rfl)); intro gb286 hg w4 hbox hb; have n0_ := Aside0.mk (blk_below (g := gb285) (o := .cells #[.int .i64 a0_0, .int .i64 a0_1, .int .i64 a0_2, .int .i64 a0_3] 45 (0, 0)) (by (with_reducible repeat (first | refine blk_drewN ?_ _ | refine blk_drew ?_ | refine blk_alloc ?_ _)); exact BK285.out) hb); have n1_ := Aside0.mk (below_step (by repeat (first | (with_reducible first | exact HB.out | apply below_alloc | apply pw_below_drewN | apply below_drew1 | refine below_set ?_ GE285.out) | exact HB.out)) hb); have n2_ := Aside0.mk (hbox); have n3_ := Aside0.mk ((by rw [hg]; exact (below_size (by repeat (first | (with_reducible first | exact HB.out | apply below_alloc | apply pw_below_drewN | apply below_drew1 | refine below_set ?_ GE285.out) | exact HB.out))) : w.heap.size ≤ gb286)); have n4_ := Aside0.mk ((by rw [hg]; exact (below_size (by repeat (first | (with_reducible first | exact HB.out | apply below_alloc | apply pw_below_drewN | apply below_drew1 | refine below_set ?_ GE285.out) | exact HB.out))) : w.heap.size ≤ gb286)); have n5_ := Aside0.mk ((by rw [hg]; exact Nat.ne_of_lt (blk_lt (g := gb285) (o := .cells #[.int .i64 a0_0, .int .i64 a0_1, .int .i64 a0_2, .int .i64 a0_3] 45 (0, 0)) (by (with_reducible repeat (first | refine blk_drewN ?_ _ | refine blk_drew ?_ | refine blk_alloc ?_ _)); exact BK285.out)) : gb285 ≠ gb286)); have n6_ := Aside0.mk ((by rw [hg]; exact Nat.ne_of_gt (blk_lt (g := gb285) (o := .cells #[.int .i64 a0_0, .int .i64 a0_1, .int .i64 a0_2, .int .i64 a0_3] 45 (0, 0)) (by (with_reducible repeat (first | refine blk_drewN ?_ _ | refine blk_drew ?_ | refine blk_alloc ?_ _)); exact BK285.out)) : gb286 ≠ gb285)); clear BK285; clear HB; have BK285 := n0_; have HB := n1_; have BK286 := n2_; have GW286 := n3_; have GE286 := n4_; have NB285_286 := n5_; have NB286_285 := n6_; clear n0_ n1_ n2_ n3_ n4_ n5_ n6_; clear hb hbox hg; have hnb5 := NB285_286.out; have hnc5 := NB286_285.out; have hcz6_0 : w4.cell? ⟨gb285, 0, none⟩ = some (.int .i64 a0_0) := (blk_cell BK285.out 0).trans rfl; have hcz6_1 : w4.cell? ⟨gb285, 1, none⟩ = some (.int .i64 a0_1) := (blk_cell BK285.out 1).trans rfl; have hcz6_2 : w4.cell? ⟨gb285, 2, none⟩ = some (.int .i64 a0_2) := (blk_cell BK285.out 2).trans rfl; have hcz6_3 : w4.cell? ⟨gb285, 3, none⟩ = some (.int .i64 a0_3) := (blk_cell BK285.out 3).trans rfl; have hfz6_0 := blk_frozen BK285.out 0; have hfz6_1 := blk_frozen BK285.out 1; have hfz6_2 := blk_frozen BK285.out 2; have hfz6_3 := blk_frozen BK285.out 3) | ((with_reducible refine gate_callee (f := 66) rfl ?_); refine goesL_ (some 4) rfl rfl Try.func66 (by kernel_rfl) rfl #[.agg #[.int .i64 a0_0, .int .i64 a0_1, .int .i64 a0_2, .int .i64 a0_3], .int .i64 1, .int .i64 0, .int .i64 3, .int .i64 2] rfl (by (try simp only [List.map_toArray, List.map_cons, List.map_nil]); first | done | rfl | (simp only [List.length_drop, List.length_take]; rfl)) ?_; (with_reducible refine (impl_Tile_sides.calls a0_0 a0_1 a0_2 a0_3 1 0 3 2 t287 t288 t289 t290 _ A2.out).mono ?_); rintro e w7 ⟨rfl, hb⟩; refine ⟨_, rfl, ?_⟩; have n0_ := Aside0.mk (blk_below (g := gb285) (o := .cells #[.int .i64 a0_0, .int .i64 a0_1, .int .i64 a0_2, .int .i64 a0_3] 45 (0, 0)) (by (with_reducible repeat (first | refine blk_drewN ?_ _ | refine blk_drew ?_ | refine blk_alloc ?_ _)); exact BK285.out) hb); have n1_ := Aside0.mk (blk_below (g := gb286) (o := .cells #[.int .i64 0, .int .i64 0, .int .i64 0, .int .i64 0] 45 (0, 0)) (by (with_reducible repeat (first | refine blk_drewN ?_ _ | refine blk_drew ?_ | refine blk_alloc ?_ _)); exact BK286.out) hb); have n2_ := Aside0.mk (below_step (by repeat (first | (with_reducible first | exact HB.out | apply below_alloc | apply pw_below_drewN | apply below_drew1 | refine below_set ?_ GE285.out | refine below_set ?_ GE286.out) | exact HB.out)) hb); clear BK285; clear BK286; clear HB; have BK285 := n0_; have BK286 := n1_; have HB := n2_; clear n0_ n1_ n2_; (try clear hb); (try clear hb2); (try clear hk); (try clear hi); have hcz8_0 : w7.cell? ⟨gb286, 0, none⟩ = some (.int .i64 0) := (blk_cell BK286.out 0).trans rfl; have hcz8_1 : w7.cell? ⟨gb286, 1, none⟩ = some (.int .i64 0) := (blk_cell BK286.out 1).trans rfl; have hcz8_2 : w7.cell? ⟨gb286, 2, none⟩ = some (.int .i64 0) := (blk_cell BK286.out 2).trans rfl; have hcz8_3 : w7.cell? ⟨gb286, 3, none⟩ = some (.int .i64 0) := (blk_cell BK286.out 3).trans rfl; have hfz8_0 := blk_frozen BK286.out 0; have hfz8_1 := blk_frozen BK286.out 1; have hfz8_2 := blk_frozen BK286.out 2; have hfz8_3 := blk_frozen BK286.out 3))
 refine bodyPost_ret (results_cell_row rfl _ _ gb286 45 #[.int .i64 t287, .int .i64 t288, .int .i64 t289, .int .i64 t290] (0, 0) _ rfl (by (with_reducible repeat (first | refine blk_drewN ?_ _ | refine blk_drew ?_ | refine blk_alloc ?_ _)); refine blk_put (cs := #[.int .i64 t287, .int .i64 t288, .int .i64 t289, .int .i64 0]) ?_ 3 _ rfl; (with_reducible repeat (first | refine blk_drewN ?_ _ | refine blk_drew ?_ | refine blk_alloc ?_ _)); refine blk_put (cs := #[.int .i64 t287, .int .i64 t288, .int .i64 0, .int .i64 0]) ?_ 2 _ rfl; (with_reducible repeat (first | refine blk_drewN ?_ _ | refine blk_drew ?_ | refine blk_alloc ?_ _)); refine blk_put (cs := #[.int .i64 t287, .int .i64 0, .int .i64 0, .int .i64 0]) ?_ 1 _ rfl; (with_reducible repeat (first | refine blk_drewN ?_ _ | refine blk_drew ?_ | refine blk_alloc ?_ _)); refine blk_put (cs := #[.int .i64 0, .int .i64 0, .int .i64 0, .int .i64 0]) ?_ 0 _ rfl; (with_reducible repeat (first | refine blk_drewN ?_ _ | refine blk_drew ?_ | refine blk_alloc ?_ _)); exact BK286.out) Try.underlying45 rfl (by kernel_rfl)) rfl ?_
 exact ⟨by first | rfl | (simp [errW_none, errW_some] <;> rfl) | (simp [*, errW_none, errW_some] <;> rfl), by repeat (first | (with_reducible first | exact HB.out | apply below_alloc | apply pw_below_drewN | apply below_drew1 | refine below_set ?_ GE285.out | refine below_set ?_ GE286.out) | exact HB.out)⟩

end Go.Proofs.Ytnjmgmdpkogocaa.Q

-- Printed by a program of this session (the kit's print, turned: printpatch.py) out of Lean's print of the translation. Lean checks it.
namespace Go.Proofs.Ytnjmgmdpkogocaa.Q
open Go.RowKit Go.Proofs.YtnjmgmdpkogocaaW.PrintWords Go.Proofs.YtnjmgmdpkogocaaW.PrintLast Go.Proofs.YtnjmgmdpkogocaaW.PrintMore
attribute [local go_sem] max2_int min2_int max_two min_two max_three min_three max_four min_four   -- for this text's walks alone
set_option linter.unusedVariables false
set_option linter.unusedSimpArgs false

/-! ### impl_changed_at_impl_TransposedSet_1: function 174 -/
def impl_changed_at_impl_TransposedSet_1.l0 : Nat → List (S45) → List (S45) → Int → Int → Int → List (S45) → Option (Int × (List (S45)) × Int)
 | 0, _, _, _, _, _, _ => none
 | k + 1, x6, x15, x16, x17, x292000, x292001 => if x17 < x16 then (if 0 ≤ x17 then (if x17 < (x15.length : Int) then ((impl_TransposedSet_1.f ((rd_T45 x15 x17).f0) ((rd_T45 x15 x17).f1) ((rd_T45 x15 x17).f2) ((rd_T45 x15 x17).f3)).bind fun bt299 => (if x6.length < 4398046511104 then (impl_changed_at_impl_TransposedSet_1.l0 k (x6 ++ [(⟨bt299.1, bt299.2.1, bt299.2.2.1, bt299.2.2.2⟩ : S45)]) x15 x16 (wrap64 (x17 + 1)) x292000 x292001) else (none))) else (none)) else (none)) else ((impl_limited.f x292000 x6).bind fun bt306 => (some (bt306.1, bt306.2.1, bt306.2.2)))
def impl_changed_at_impl_TransposedSet_1.f (k : Nat) (a0_0 : Int) (l0_1 : List (S45))  : Option (Int × (List (S45)) × Int) := (impl_IsSet.f a0_0 l0_1).bind fun t293 => (if t293 = true then (impl_changed_at_impl_TransposedSet_1.l0 k (([] : List (S45))) l0_1 (l0_1.length : Int) 0 a0_0 l0_1) else (some (0, ([] : List (S45)), 1)))
theorem impl_changed_at_impl_TransposedSet_1.mono_l : ∀ k, (∀ y0 y1 y2 y3 y4 y5, LeO (impl_changed_at_impl_TransposedSet_1.l0 k y0 y1 y2 y3 y4 y5) (impl_changed_at_impl_TransposedSet_1.l0 (k + 1) y0 y1 y2 y3 y4 y5))
 | 0 => fun _ _ _ _ _ _ r h => by simp [impl_changed_at_impl_TransposedSet_1.l0] at h
 | k + 1 => by
  have ih0 := impl_changed_at_impl_TransposedSet_1.mono_l k
  ·intro y0 y1 y2 y3 y4 y5
   unfold impl_changed_at_impl_TransposedSet_1.l0
   repeat' first
   | (with_reducible exact ih0 _ _ _ _ _ _)
   | (with_reducible exact LeO.refl _)
   | (with_reducible exact LeO.none _)
   | (with_reducible refine LeO.ite ?_ ?_)
   | (with_reducible refine LeO.bind ?_ (fun _ => ?_))
   | exact ih0 _ _ _ _ _ _
   | exact LeO.none _
   | refine LeO.ite ?_ ?_
   | refine LeO.bind ?_ (fun _ => ?_)
theorem impl_changed_at_impl_TransposedSet_1.mono : ∀ a0 a1 k, LeO (impl_changed_at_impl_TransposedSet_1.f k a0 a1) (impl_changed_at_impl_TransposedSet_1.f (k + 1) a0 a1) := by
 intro a0 a1 k
 have ih0 := impl_changed_at_impl_TransposedSet_1.mono_l k
 unfold impl_changed_at_impl_TransposedSet_1.f
 repeat' first
   | (with_reducible exact ih0 _ _ _ _ _ _)
   | (with_reducible exact LeO.refl _)
   | (with_reducible exact LeO.none _)
   | (with_reducible refine LeO.ite ?_ ?_)
   | (with_reducible refine LeO.bind ?_ (fun _ => ?_))
   | exact ih0 _ _ _ _ _ _
   | exact LeO.none _
   | refine LeO.ite ?_ ?_
   | refine LeO.bind ?_ (fun _ => ?_)
set_option maxHeartbeats 8000000 in
set_option maxRecDepth 100000 in
theorem impl_changed_at_impl_TransposedSet_1.calls (k : Nat) (a0_0 : Int) (A0_1 : Option Addr) (c0_1 : Nat) (l0_1 : List (S45))  (r1 : Int) (r2 : List (S45)) (r3 : Int) (w : World) (hr0_1 : Kd.C k45 w A0_1 l0_1.length l0_1) (hc0_1 : l0_1.length ≤ c0_1) (h : impl_changed_at_impl_TransposedSet_1.f k a0_0 l0_1 = some (r1, r2, r3)) :
  Calls Try.prog 62 #[.agg #[.int .i64 a0_0, .slice A0_1 l0_1.length c0_1], .func (.func 70) #[] #[]] w fun e w' => ∃ v1_ : Value, e = .returned (.tuple #[.agg #[.int .i64 r1, v1_], .int .i64 r3]) ∧ Kd.R k45 45 w' w.heap.size (fun _ => True) v1_ r2 ∧ Below w.heap.size w w' := by
 have hu26 := Try.underlying26
 have hu45 := Try.underlying45
 have HR0_1 := Aside0.mk hr0_1
 have HC0_1 := Aside0.mk hc0_1
 clear hr0_1 hc0_1
 have HB := Aside0.mk (Below.refl w.heap.size w)
 have H : ((impl_IsSet.f a0_0 l0_1).bind fun t293 => (if t293 = true then (impl_changed_at_impl_TransposedSet_1.l0 k (([] : List (S45))) l0_1 (l0_1.length : Int) 0 a0_0 l0_1) else (some (0, ([] : List (S45)), 1)))) = some (r1, r2, r3) := h
 clear h
 replace H := Option.bind_eq_some_iff.mp H
 obtain ⟨t293, A30, H⟩ := H
 replace H : (if t293 = true then (impl_changed_at_impl_TransposedSet_1.l0 k (([] : List (S45))) l0_1 (l0_1.length : Int) 0 a0_0 l0_1) else (some (0, ([] : List (S45)), 1))) = some (r1, r2, r3) := H
 have A3 := Aside0.mk A30
 clear A30
 by_cases c4 : t293 = true
 ·subst c4
  have H1 : (impl_changed_at_impl_TransposedSet_1.l0 k (([] : List (S45))) l0_1 (l0_1.length : Int) 0 a0_0 l0_1) = some (r1, r2, r3) := by rw [if_pos rfl] at H; exact H
  clear H
  have H := H1
  clear H1
  obtain ⟨y294, hy294⟩ : ∃ y_ : List (S45), y_ = (([] : List (S45))) := ⟨_, rfl⟩
  replace H : (impl_changed_at_impl_TransposedSet_1.l0 k y294 l0_1 (l0_1.length : Int) 0 a0_0 l0_1) = some (r1, r2, r3) := by first | (rw [hy294]; with_reducible exact H) | (have H2_ := (Option.bind_some _ _).symm.trans H; rw [hy294]; with_reducible exact H2_) | (have H2_ := (Option.bind_some _ _).symm.trans H; with_reducible exact H2_) | with_reducible exact H | (rw [hy294]; exact H) | exact H
  have Ny294 := Aside0.mk hy294
  clear hy294
  have H' := Aside0.mk H
  clear H
  go_enter Try.func62, Try.ntmps62
  go_wp2_with (first | ((with_reducible refine gate_dst (N := 2) rfl ?_); refine box_event ?hg (N := 2) ?hd (cs := #[.int .i64 a0_0, .slice A0_1 l0_1.length c0_1]) (t := 26) ?hr ?_; (case hd => rfl); (case hg => rfl); (case hr => first | (go_simp; done) | (go_simp; rfl)); intro gb291 hg w5 hbox hb; have n0_ := Aside0.mk (below_step (by repeat (first | (with_reducible first | exact HB.out | apply below_alloc | apply pw_below_drewN | apply below_drew1) | exact HB.out)) hb); have n1_ := Aside0.mk (hbox); have n2_ := Aside0.mk ((by rw [hg]; exact (below_size (by repeat (first | (with_reducible first | exact HB.out | apply below_alloc | apply pw_below_drewN | apply below_drew1) | exact HB.out))) : w.heap.size ≤ gb291)); have n3_ := Aside0.mk ((by rw [hg]; exact (below_size (by repeat (first | (with_reducible first | exact HB.out | apply below_alloc | apply pw_below_drewN | apply below_drew1) | exact HB.out))) : w.heap.size ≤ gb291)); clear HB; have HB := n0_; have BK291 := n1_; have GW291 := n2_; have GE291 := n3_; clear n0_ n1_ n2_ n3_; clear hb hbox hg) | ((with_reducible refine gate_dst (N := 4) rfl ?_); refine box_event ?hg (N := 4) ?hd (cs := #[.int .i64 0, .slice none 0 0]) (t := 26) ?hr ?_; (case hd => rfl); (case hg => rfl); (case hr => first | (go_simp; done) | (go_simp; rfl)); intro gb292 hg w6 hbox hb; have n0_ := Aside0.mk (blk_below (g := gb291) (o := .cells #[.int .i64 a0_0, .slice A0_1 l0_1.length c0_1] 26 (0, 0)) (by (with_reducible repeat (first | refine blk_drewN ?_ _ | refine blk_drew ?_ | refine blk_alloc ?_ _)); exact BK291.out) hb); have n1_ := Aside0.mk (below_step (by repeat (first | (with_reducible first | exact HB.out | apply below_alloc | apply pw_below_drewN | apply below_drew1 | refine below_set ?_ GE291.out) | exact HB.out)) hb); have n2_ := Aside0.mk (hbox); have n3_ := Aside0.mk ((by rw [hg]; exact (below_size (by repeat (first | (with_reducible first | exact HB.out | apply below_alloc | apply pw_below_drewN | apply below_drew1 | refine below_set ?_ GE291.out) | exact HB.out))) : w.heap.size ≤ gb292)); have n4_ := Aside0.mk ((by rw [hg]; exact (below_size (by repeat (first | (with_reducible first | exact HB.out | apply below_alloc | apply pw_below_drewN | apply below_drew1 | refine below_set ?_ GE291.out) | exact HB.out))) : w.heap.size ≤ gb292)); have n5_ := Aside0.mk ((by rw [hg]; exact Nat.ne_of_lt (blk_lt (g := gb291) (o := .cells #[.int .i64 a0_0, .slice A0_1 l0_1.length c0_1] 26 (0, 0)) (by (with_reducible repeat (first | refine blk_drewN ?_ _ | refine blk_drew ?_ | refine blk_alloc ?_ _)); exact BK291.out)) : gb291 ≠ gb292)); have n6_ := Aside0.mk ((by rw [hg]; exact Nat.ne_of_gt (blk_lt (g := gb291) (o := .cells #[.int .i64 a0_0, .slice A0_1 l0_1.length c0_1] 26 (0, 0)) (by (with_reducible repeat (first | refine blk_drewN ?_ _ | refine blk_drew ?_ | refine blk_alloc ?_ _)); exact BK291.out)) : gb292 ≠ gb291)); clear BK291; clear HB; have BK291 := n0_; have HB := n1_; have BK292 := n2_; have GW292 := n3_; have GE292 := n4_; have NB291_292 := n5_; have NB292_291 := n6_; clear n0_ n1_ n2_ n3_ n4_ n5_ n6_; clear hb hbox hg; have hnb7 := NB291_292.out; have hnc7 := NB292_291.out; have hcz8_0 : w6.cell? ⟨gb291, 0, none⟩ = some (.int .i64 a0_0) := (blk_cell BK291.out 0).trans rfl; have hcz8_1 : w6.cell? ⟨gb291, 1, none⟩ = some (.slice A0_1 l0_1.length c0_1) := (blk_cell BK291.out 1).trans rfl; have hfz8_0 := blk_frozen BK291.out 0; have hfz8_1 := blk_frozen BK291.out 1) | ((with_reducible refine gate_callee (f := 96) rfl ?_); refine goesL_ (some 10) rfl rfl Try.func96 (by kernel_rfl) rfl #[.agg #[.int .i64 a0_0, .slice A0_1 l0_1.length c0_1]] rfl (by (try simp only [List.map_toArray, List.map_cons, List.map_nil]); first | done | rfl | (simp only [List.length_drop, List.length_take]; rfl)) ?_; (with_reducible refine (impl_IsSet.calls a0_0 _ _ l0_1 true _ ?side1 ?side2 A3.out).mono ?_); (case side1 => repeat (first | exact (Kd.C_below HR0_1.out HB.out) | (with_reducible refine Kd.C_alloc ?_ _) | (with_reducible refine Kd.C_drewN ?_ _) | (with_reducible refine Kd.C_drew ?_))); (case side2 => exact HC0_1.out); rintro e w9 ⟨rfl, hb⟩; refine ⟨_, rfl, ?_⟩; have n0_ := Aside0.mk (blk_below (g := gb291) (o := .cells #[.int .i64 a0_0, .slice A0_1 l0_1.length c0_1] 26 (0, 0)) (by (with_reducible repeat (first | refine blk_drewN ?_ _ | refine blk_drew ?_ | refine blk_alloc ?_ _)); exact BK291.out) hb); have n1_ := Aside0.mk (blk_below (g := gb292) (o := .cells #[.int .i64 0, .slice none 0 0] 26 (0, 0)) (by (with_reducible repeat (first | refine blk_drewN ?_ _ | refine blk_drew ?_ | refine blk_alloc ?_ _)); exact BK292.out) hb); have n2_ := Aside0.mk (below_step (by repeat (first | (with_reducible first | exact HB.out | apply below_alloc | apply pw_below_drewN | apply below_drew1 | refine below_set ?_ GE291.out | refine below_set ?_ GE292.out) | exact HB.out)) hb); clear BK291; clear BK292; clear HB; have BK291 := n0_; have BK292 := n1_; have HB := n2_; clear n0_ n1_ n2_; (try clear hb); (try clear hb2); (try clear hk); (try clear hi)) | ((with_reducible refine gate_dst (N := 13) rfl ?_); refine Kd.R_lit k45 _ 45 ?hg (N := 13) ?hd (xs := ([] : List (S45))) (inner := []) (ok := fun _ => True) (okp := fun _ => True) ?hr ?hp (fun _ hk => hk) trivial (Below.refl _ _) (Nat.le_refl _) (by simp) ?_; (case hd => rfl); (case hg => rfl); (case hr => first | (go_simp; done) | (go_simp; rfl)); (case hp => exact (Reps.none _ _)); intro v295 w10 ho11 hb hg_ hnew_; clear hg_ hnew_; (first | rw [← Ny294.out] at ho11 | (simp only [Int.reduceToNat] at ho11; rw [← Ny294.out] at ho11)); have n0_ := Aside0.mk (Kd.R_lower ho11 (below_size (by repeat (first | (with_reducible first | exact HB.out | apply below_alloc | apply pw_below_drewN | apply below_drew1 | refine below_set ?_ GE291.out | refine below_set ?_ GE292.out) | exact HB.out)))); have n1_ := Aside0.mk (blk_below (g := gb291) (o := .cells #[.int .i64 a0_0, .slice A0_1 l0_1.length c0_1] 26 (0, 0)) (by (with_reducible repeat (first | refine blk_drewN ?_ _ | refine blk_drew ?_ | refine blk_alloc ?_ _)); exact BK291.out) hb); have n2_ := Aside0.mk (blk_below (g := gb292) (o := .cells #[.int .i64 0, .slice none 0 0] 26 (0, 0)) (by (with_reducible repeat (first | refine blk_drewN ?_ _ | refine blk_drew ?_ | refine blk_alloc ?_ _)); exact BK292.out) hb); have n3_ := Aside0.mk (below_step (by repeat (first | (with_reducible first | exact HB.out | apply below_alloc | apply pw_below_drewN | apply below_drew1 | refine below_set ?_ GE291.out | refine below_set ?_ GE292.out) | exact HB.out)) hb); clear BK291; clear BK292; clear HB; have HO296 := n0_; have BK291 := n1_; have BK292 := n2_; have HB := n3_; clear n0_ n1_ n2_ n3_; clear hb ho11; have hcz12_0 : w10.cell? ⟨gb291, 0, none⟩ = some (.int .i64 a0_0) := (blk_cell BK291.out 0).trans rfl; have hcz12_1 : w10.cell? ⟨gb291, 1, none⟩ = some (.slice A0_1 l0_1.length c0_1) := (blk_cell BK291.out 1).trans rfl; have hfz12_0 := blk_frozen BK291.out 0; have hfz12_1 := blk_frozen BK291.out 1))
  go_loopg [6, 17] k (fun kq v6 v17 w' => ∃ (x6_1 : List (S45)) (x17_1 : Int), v17 = .int .i64 x17_1 ∧ Aside0 (impl_changed_at_impl_TransposedSet_1.l0 kq x6_1 l0_1 (l0_1.length : Int) x17_1 a0_0 l0_1 = some (r1, r2, r3)) ∧ Aside0 (kq ≤ k) ∧ Aside0 (Kd.R k45 45 w' w.heap.size (fun _ => True) v6 x6_1) ∧ Aside0 (w'.heap[gb291]? = some (.cells #[.int .i64 a0_0, (.slice A0_1 l0_1.length c0_1)] 26 (0, 0))) ∧ Aside0 (w'.heap[gb292]? = some (.cells #[.int .i64 0, (.slice none 0 0)] 26 (0, 0))) ∧ Aside0 (Below w.heap.size w w'))
  case atStart => exact ⟨(y294), (0), (by first | rfl | (simp; done) | (simp [*]; done)), H', ⟨Nat.le_refl _⟩, ⟨by (with_reducible repeat (first | apply Kd.R_alloc | apply Kd.R_drewN | apply Kd.R_drew)); exact HO296.out⟩, ⟨by (with_reducible repeat (first | refine blk_drewN ?_ _ | refine blk_drew ?_ | refine blk_alloc ?_ _)); exact BK291.out⟩, ⟨by (with_reducible repeat (first | refine blk_drewN ?_ _ | refine blk_drew ?_ | refine blk_alloc ?_ _)); exact BK292.out⟩, ⟨by repeat (first | (with_reducible first | exact HB.out | apply below_alloc | apply pw_below_drewN | apply below_drew1 | refine below_set ?_ GE291.out | refine below_set ?_ GE292.out) | exact HB.out)⟩⟩
  case round =>
   clear H'
   try clear p2
   try clear c4
   try clear c6
   try clear c7
   try clear c9
   try clear hcz12_0
   try clear hcz12_1
   try clear hcz8_0
   try clear hcz8_1
   try clear hfz12_0
   try clear hfz12_1
   try clear hfz8_0
   try clear hfz8_1
   obtain ⟨x6_1, x17_1, rfl, HA, HK1, HO_6, BK291, BK292, HB⟩ := hrel
   cases gk with
   | zero => exact absurd HA.out (by simp [impl_changed_at_impl_TransposedSet_1.l0])
   | succ k1 =>
    have H := HA.out
    clear HA
    simp only [impl_changed_at_impl_TransposedSet_1.l0] at H
    by_cases c13 : x17_1 < (l0_1.length : Int)
    ·rw [if_pos c13] at H
     have c13b0 : decide (x17_1 < (l0_1.length : Int)) = true := decide_eq_true c13
     clear c13
     by_cases c14 : 0 ≤ x17_1
     ·rw [if_pos c14] at H
      have c14b0 : decide (0 ≤ x17_1) = true := decide_eq_true c14
      clear c14
      by_cases c15 : x17_1 < (l0_1.length : Int)
      ·rw [if_pos c15] at H
       have c15b0 : decide (x17_1 < (l0_1.length : Int)) = true := decide_eq_true c15
       clear c15
       replace H := Option.bind_eq_some_iff.mp H
       obtain ⟨⟨t299, t300, t301, t302⟩, A160, H⟩ := H
       replace H : (if x6_1.length < 4398046511104 then (impl_changed_at_impl_TransposedSet_1.l0 k1 (x6_1 ++ [(⟨t299, t300, t301, t302⟩ : S45)]) l0_1 (l0_1.length : Int) (wrap64 (x17_1 + 1)) a0_0 l0_1) else (none)) = some (r1, r2, r3) := H
       have A16 := Aside0.mk A160
       clear A160
       by_cases c17 : x6_1.length < 4398046511104
       ·rw [if_pos c17] at H
        have LMc17 := Aside0.mk c17
        clear c17
        obtain ⟨y303, hy303⟩ : ∃ y_ : List (S45), y_ = (x6_1 ++ [(⟨t299, t300, t301, t302⟩ : S45)]) := ⟨_, rfl⟩
        replace H : (impl_changed_at_impl_TransposedSet_1.l0 k1 y303 l0_1 (l0_1.length : Int) (wrap64 (x17_1 + 1)) a0_0 l0_1) = some (r1, r2, r3) := by first | (rw [hy303]; with_reducible exact H) | (have H2_ := (Option.bind_some _ _).symm.trans H; rw [hy303]; with_reducible exact H2_) | (have H2_ := (Option.bind_some _ _).symm.trans H; with_reducible exact H2_) | with_reducible exact H | (rw [hy303]; exact H) | exact H
        have Ny303 := Aside0.mk hy303
        clear hy303
        have H' := Aside0.mk H
        clear H
        have p297 : 0 ≤ (x17_1 : Int) := of_decide_eq_true (by first | (with_reducible assumption) | assumption)
        have q297 : x17_1 < (l0_1.length : Int) := of_decide_eq_true (by first | (with_reducible assumption) | assumption)
        obtain ⟨ad297, e297, hx297_0, hx297_1, hx297_2, hx297_3⟩ := at_T45 HR0_1.out x17_1 p297 q297
        cases e297
        replace hx297_0 := (HB.out.cell (World.block_lt_of_cell? w _ hx297_0)).trans hx297_0
        replace hx297_1 := (HB.out.cell (World.block_lt_of_cell? w _ hx297_1)).trans hx297_1
        replace hx297_2 := (HB.out.cell (World.block_lt_of_cell? w _ hx297_2)).trans hx297_2
        replace hx297_3 := (HB.out.cell (World.block_lt_of_cell? w _ hx297_3)).trans hx297_3
        replace p297 := eq_true p297
        replace q297 := eq_true q297
        go_wp2_with (first | ((with_reducible refine gate_dst (N := 8) rfl ?_); refine box_event ?hg (N := 8) ?hd (cs := #[.int .i64 0, .int .i64 0, .int .i64 0, .int .i64 0]) (t := 45) ?hr ?_; (case hd => rfl); (case hg => rfl); (case hr => first | (go_simp; done) | (go_simp; rfl)); intro gb298 hg w18 hbox hb; have n0_ := Aside0.mk (Kd.R_below (Kd.R_elderB (by (with_reducible repeat (first | apply Kd.R_alloc | apply Kd.R_drewN | apply Kd.R_drew)); exact HO_6.out) gb298 (Nat.le_of_eq hg.symm)) hb); have n1_ := Aside0.mk (blk_below (g := gb291) (o := .cells #[.int .i64 a0_0, .slice (some ad297) l0_1.length c0_1] 26 (0, 0)) (by (with_reducible repeat (first | refine blk_drewN ?_ _ | refine blk_drew ?_ | refine blk_alloc ?_ _)); exact BK291.out) hb); have n2_ := Aside0.mk (blk_below (g := gb292) (o := .cells #[.int .i64 0, .slice none 0 0] 26 (0, 0)) (by (with_reducible repeat (first | refine blk_drewN ?_ _ | refine blk_drew ?_ | refine blk_alloc ?_ _)); exact BK292.out) hb); have n3_ := Aside0.mk (below_step (by repeat (first | (with_reducible first | exact HB.out | apply below_alloc | apply pw_below_drewN | apply below_drew1 | refine below_set ?_ GE291.out | refine below_set ?_ GE292.out) | exact HB.out)) hb); have n4_ := Aside0.mk (hbox); have n5_ := Aside0.mk ((by rw [hg]; exact (below_size (by repeat (first | (with_reducible first | exact HB.out | apply below_alloc | apply pw_below_drewN | apply below_drew1 | refine below_set ?_ GE291.out | refine below_set ?_ GE292.out) | exact HB.out))) : w.heap.size ≤ gb298)); have n6_ := Aside0.mk ((by rw [hg]; exact (below_size (by repeat (first | (with_reducible first | exact HB.out | apply below_alloc | apply pw_below_drewN | apply below_drew1 | refine below_set ?_ GE291.out | refine below_set ?_ GE292.out) | exact HB.out))) : w.heap.size ≤ gb298)); have n7_ := Aside0.mk ((by rw [hg]; exact Nat.ne_of_lt (blk_lt (g := gb291) (o := .cells #[.int .i64 a0_0, .slice (some ad297) l0_1.length c0_1] 26 (0, 0)) (by (with_reducible repeat (first | refine blk_drewN ?_ _ | refine blk_drew ?_ | refine blk_alloc ?_ _)); exact BK291.out)) : gb291 ≠ gb298)); have n8_ := Aside0.mk ((by rw [hg]; exact Nat.ne_of_gt (blk_lt (g := gb291) (o := .cells #[.int .i64 a0_0, .slice (some ad297) l0_1.length c0_1] 26 (0, 0)) (by (with_reducible repeat (first | refine blk_drewN ?_ _ | refine blk_drew ?_ | refine blk_alloc ?_ _)); exact BK291.out)) : gb298 ≠ gb291)); have n9_ := Aside0.mk ((by rw [hg]; exact Nat.ne_of_lt (blk_lt (g := gb292) (o := .cells #[.int .i64 0, .slice none 0 0] 26 (0, 0)) (by (with_reducible repeat (first | refine blk_drewN ?_ _ | refine blk_drew ?_ | refine blk_alloc ?_ _)); exact BK292.out)) : gb292 ≠ gb298)); have n10_ := Aside0.mk ((by rw [hg]; exact Nat.ne_of_gt (blk_lt (g := gb292) (o := .cells #[.int .i64 0, .slice none 0 0] 26 (0, 0)) (by (with_reducible repeat (first | refine blk_drewN ?_ _ | refine blk_drew ?_ | refine blk_alloc ?_ _)); exact BK292.out)) : gb298 ≠ gb292)); clear HO_6; clear BK291; clear BK292; clear HB; have HO_6 := n0_; have BK291 := n1_; have BK292 := n2_; have HB := n3_; have BK298 := n4_; have GW298 := n5_; have GE298 := n6_; have NB291_298 := n7_; have NB298_291 := n8_; have NB292_298 := n9_; have NB298_292 := n10_; clear n0_ n1_ n2_ n3_ n4_ n5_ n6_ n7_ n8_ n9_ n10_; clear hb hbox hg; have hnb19 := NB298_291.out; have hnc19 := NB291_298.out; have hnb20 := NB298_292.out; have hnc20 := NB292_298.out; have hcz21_0 : w18.cell? ⟨gb298, 0, none⟩ = some (.int .i64 0) := (blk_cell BK298.out 0).trans rfl; have hcz21_1 : w18.cell? ⟨gb298, 1, none⟩ = some (.int .i64 0) := (blk_cell BK298.out 1).trans rfl; have hcz21_2 : w18.cell? ⟨gb298, 2, none⟩ = some (.int .i64 0) := (blk_cell BK298.out 2).trans rfl; have hcz21_3 : w18.cell? ⟨gb298, 3, none⟩ = some (.int .i64 0) := (blk_cell BK298.out 3).trans rfl; have hfz21_0 := blk_frozen BK298.out 0; have hfz21_1 := blk_frozen BK298.out 1; have hfz21_2 := blk_frozen BK298.out 2; have hfz21_3 := blk_frozen BK298.out 3))
        (with_reducible refine (impl_TransposedSet_1.calls ((rd_T45 l0_1 x17_1).f0) ((rd_T45 l0_1 x17_1).f1) ((rd_T45 l0_1 x17_1).f2) ((rd_T45 l0_1 x17_1).f3) t299 t300 t301 t302 _ A16.out).mono ?_)
        rintro e w22 ⟨rfl, hb⟩
        have n0_ := Aside0.mk (Kd.R_below (by (with_reducible repeat (first | apply Kd.R_alloc | apply Kd.R_drewN | apply Kd.R_drew)); exact (Kd.R_mono (Kd.R_far (p := ⟨gb298, 3, none⟩) (Kd.R_far (p := ⟨gb298, 2, none⟩) (Kd.R_far (p := ⟨gb298, 1, none⟩) (Kd.R_far (p := ⟨gb298, 0, none⟩) (Kd.R_mono HO_6.out (fun k_ hk => (⟨hk, hk.2⟩ : _ ∧ k_ ≠ gb298))) (fun _ hk => hk.2) (.int .i64 ((rd_T45 l0_1 x17_1).f0))) (fun _ hk => hk.2) (.int .i64 ((rd_T45 l0_1 x17_1).f1))) (fun _ hk => hk.2) (.int .i64 ((rd_T45 l0_1 x17_1).f2))) (fun _ hk => hk.2) (.int .i64 ((rd_T45 l0_1 x17_1).f3))) (fun _ h_ => h_.1))) hb)
        have n1_ := Aside0.mk (blk_below (g := gb291) (o := .cells #[.int .i64 a0_0, .slice (some ad297) l0_1.length c0_1] 26 (0, 0)) (by (with_reducible repeat (first | refine blk_drewN ?_ _ | refine blk_drew ?_ | refine blk_alloc ?_ _)); refine blk_far ?_ NB291_298.out _; (with_reducible repeat (first | refine blk_drewN ?_ _ | refine blk_drew ?_ | refine blk_alloc ?_ _)); refine blk_far ?_ NB291_298.out _; (with_reducible repeat (first | refine blk_drewN ?_ _ | refine blk_drew ?_ | refine blk_alloc ?_ _)); refine blk_far ?_ NB291_298.out _; (with_reducible repeat (first | refine blk_drewN ?_ _ | refine blk_drew ?_ | refine blk_alloc ?_ _)); refine blk_far ?_ NB291_298.out _; (with_reducible repeat (first | refine blk_drewN ?_ _ | refine blk_drew ?_ | refine blk_alloc ?_ _)); exact BK291.out) hb)
        have n2_ := Aside0.mk (blk_below (g := gb292) (o := .cells #[.int .i64 0, .slice none 0 0] 26 (0, 0)) (by (with_reducible repeat (first | refine blk_drewN ?_ _ | refine blk_drew ?_ | refine blk_alloc ?_ _)); refine blk_far ?_ NB292_298.out _; (with_reducible repeat (first | refine blk_drewN ?_ _ | refine blk_drew ?_ | refine blk_alloc ?_ _)); refine blk_far ?_ NB292_298.out _; (with_reducible repeat (first | refine blk_drewN ?_ _ | refine blk_drew ?_ | refine blk_alloc ?_ _)); refine blk_far ?_ NB292_298.out _; (with_reducible repeat (first | refine blk_drewN ?_ _ | refine blk_drew ?_ | refine blk_alloc ?_ _)); refine blk_far ?_ NB292_298.out _; (with_reducible repeat (first | refine blk_drewN ?_ _ | refine blk_drew ?_ | refine blk_alloc ?_ _)); exact BK292.out) hb)
        have n3_ := Aside0.mk (blk_below (g := gb298) (o := .cells #[.int .i64 ((rd_T45 l0_1 x17_1).f0), .int .i64 ((rd_T45 l0_1 x17_1).f1), .int .i64 ((rd_T45 l0_1 x17_1).f2), .int .i64 ((rd_T45 l0_1 x17_1).f3)] 45 (0, 0)) (by (with_reducible repeat (first | refine blk_drewN ?_ _ | refine blk_drew ?_ | refine blk_alloc ?_ _)); refine blk_put (cs := #[.int .i64 ((rd_T45 l0_1 x17_1).f0), .int .i64 ((rd_T45 l0_1 x17_1).f1), .int .i64 ((rd_T45 l0_1 x17_1).f2), .int .i64 0]) ?_ 3 _ rfl; (with_reducible repeat (first | refine blk_drewN ?_ _ | refine blk_drew ?_ | refine blk_alloc ?_ _)); refine blk_put (cs := #[.int .i64 ((rd_T45 l0_1 x17_1).f0), .int .i64 ((rd_T45 l0_1 x17_1).f1), .int .i64 0, .int .i64 0]) ?_ 2 _ rfl; (with_reducible repeat (first | refine blk_drewN ?_ _ | refine blk_drew ?_ | refine blk_alloc ?_ _)); refine blk_put (cs := #[.int .i64 ((rd_T45 l0_1 x17_1).f0), .int .i64 0, .int .i64 0, .int .i64 0]) ?_ 1 _ rfl; (with_reducible repeat (first | refine blk_drewN ?_ _ | refine blk_drew ?_ | refine blk_alloc ?_ _)); refine blk_put (cs := #[.int .i64 0, .int .i64 0, .int .i64 0, .int .i64 0]) ?_ 0 _ rfl; (with_reducible repeat (first | refine blk_drewN ?_ _ | refine blk_drew ?_ | refine blk_alloc ?_ _)); exact BK298.out) hb)
        have n4_ := Aside0.mk (below_step (by repeat (first | (with_reducible first | exact HB.out | apply below_alloc | apply pw_below_drewN | apply below_drew1 | refine below_set ?_ GE291.out | refine below_set ?_ GE292.out | refine below_set ?_ GE298.out) | exact HB.out)) hb)
        clear HO_6
        clear BK291
        clear BK292
        clear BK298
        clear HB
        have HO_6 := n0_
        have BK291 := n1_
        have BK292 := n2_
        have BK298 := n3_
        have HB := n4_
        clear n0_ n1_ n2_ n3_ n4_
        (try clear hb)
        (try clear hb2)
        (try clear hk)
        (try clear hi)
        go_wp2_with (first | ((with_reducible refine gate_builtin (b := .append) (xs := #[.tmp 21, .tmp 25]) rfl ?_); at_builtin; refine Kd.R_append k45 (w0 := w) w.heap.size rfl (.tmp 21) (.tmp 25) 24 45 (.agg #[(.int .i64 0), (.int .i64 0), (.int .i64 0), (.int .i64 0)]) 32 rfl Try.underlying24 info45 rfl (by decide) (by omega) u6 x6_1 (⟨t299, t300, t301, t302⟩ : S45) [.int .i64 t299, .int .i64 t300, .int .i64 t301, .int .i64 t302] (fun k_ => k_ ≠ gb298) (fun _ => False) rfl rfl ?aP (fun _ hk => hk.elim) ?aF ?aO ?aB ?aS ?aL ?_; (case aP => exact k45_mkM _ _ _ (⟨t299, t300, t301, t302⟩ : S45)); (case aB => exact (by repeat (first | (with_reducible first | exact HB.out | apply below_alloc | apply pw_below_drewN | apply below_drew1 | refine below_set ?_ GE291.out | refine below_set ?_ GE292.out | refine below_set ?_ GE298.out) | exact HB.out))); (case aF => exact (fun k_ hk => Kd.freshB (g := gb298) (o := .cells #[.int .i64 ((rd_T45 l0_1 x17_1).f0), .int .i64 ((rd_T45 l0_1 x17_1).f1), .int .i64 ((rd_T45 l0_1 x17_1).f2), .int .i64 ((rd_T45 l0_1 x17_1).f3)] 45 (0, 0)) (by (with_reducible repeat (first | refine blk_drewN ?_ _ | refine blk_drew ?_ | refine blk_alloc ?_ _)); exact BK298.out) k_ hk)); (case aO => exact (by (with_reducible repeat (first | apply Kd.R_alloc | apply Kd.R_drewN | apply Kd.R_drew)); exact Kd.R_mono HO_6.out (fun _ hk => hk.2))); (case aS => exact (below_size (by repeat (first | (with_reducible first | exact HB.out | apply below_alloc | apply pw_below_drewN | apply below_drew1 | refine below_set ?_ GE291.out | refine below_set ?_ GE292.out | refine below_set ?_ GE298.out) | exact HB.out)))); (case aL => have := LMc17.out; omega); intro v304 w24 ho hb hg hat; rw [← Ny303.out] at ho; have n0_ := Aside0.mk (blk_grown (g := gb291) (o := .cells #[.int .i64 a0_0, .slice (some ad297) l0_1.length c0_1] 26 (0, 0)) (by (with_reducible repeat (first | refine blk_drewN ?_ _ | refine blk_drew ?_ | refine blk_alloc ?_ _)); exact BK291.out) hg (Kd.R_ne HO_6.out BK291.out (by decide))); have n1_ := Aside0.mk (blk_grown (g := gb292) (o := .cells #[.int .i64 0, .slice none 0 0] 26 (0, 0)) (by (with_reducible repeat (first | refine blk_drewN ?_ _ | refine blk_drew ?_ | refine blk_alloc ?_ _)); exact BK292.out) hg (Kd.R_ne HO_6.out BK292.out (by decide))); have n2_ := Aside0.mk (blk_grown (g := gb298) (o := .cells #[.int .i64 ((rd_T45 l0_1 x17_1).f0), .int .i64 ((rd_T45 l0_1 x17_1).f1), .int .i64 ((rd_T45 l0_1 x17_1).f2), .int .i64 ((rd_T45 l0_1 x17_1).f3)] 45 (0, 0)) (by (with_reducible repeat (first | refine blk_drewN ?_ _ | refine blk_drew ?_ | refine blk_alloc ?_ _)); exact BK298.out) hg (Kd.R_away HO_6.out (fun _ hk => hk.2))); have n3_ := Aside0.mk (hb); have n4_ := Aside0.mk (ho); clear BK291; clear BK292; clear BK298; clear HB; clear HO_6; have BK291 := n0_; have BK292 := n1_; have BK298 := n2_; have HB := n3_; have HO305 := n4_; clear n0_ n1_ n2_ n3_ n4_; clear ho hb hg hat))
        go_roundg k1
        case measure => have := HK1.out; omega
        case rel => exact ⟨(y303), (wrap64 (x17_1 + 1)), (by first | rfl | (simp; done) | (simp [*]; done)), H', ⟨by have := HK1.out; omega⟩, ⟨by (with_reducible repeat (first | apply Kd.R_alloc | apply Kd.R_drewN | apply Kd.R_drew)); exact Kd.R_mono HO305.out (fun _ hk => trivial)⟩, ⟨by (with_reducible repeat (first | refine blk_drewN ?_ _ | refine blk_drew ?_ | refine blk_alloc ?_ _)); exact BK291.out⟩, ⟨by (with_reducible repeat (first | refine blk_drewN ?_ _ | refine blk_drew ?_ | refine blk_alloc ?_ _)); exact BK292.out⟩, ⟨by repeat (first | (with_reducible first | exact HB.out | apply below_alloc | apply pw_below_drewN | apply below_drew1 | refine below_set ?_ GE291.out | refine below_set ?_ GE292.out | refine below_set ?_ GE298.out) | exact HB.out)⟩⟩
       ·rw [if_neg c17] at H
        exact absurd H (by simp)
      ·rw [if_neg c15] at H
       exact absurd H (by simp)
     ·rw [if_neg c14] at H
      exact absurd H (by simp)
    ·rw [if_neg c13] at H
     have c13b0 : decide (x17_1 < (l0_1.length : Int)) = false := decide_eq_false c13
     clear c13
     replace H := Option.bind_eq_some_iff.mp H
     obtain ⟨⟨t306, t307, t310⟩, A250, H⟩ := H
     replace H : (some (t306, t307, t310)) = some (r1, r2, r3) := H
     have A25 := Aside0.mk A250
     clear A250
     simp only [Option.some.injEq, Prod.mk.injEq] at H
     obtain ⟨rfl, rfl, rfl⟩ := H
     have hnb26 := NB291_292.out
     have hnc26 := NB292_291.out
     have hcz27_0 : wr.cell? ⟨gb291, 0, none⟩ = some (.int .i64 a0_0) := (blk_cell BK291.out 0).trans rfl
     have hcz27_1 : wr.cell? ⟨gb291, 1, none⟩ = some (.slice A0_1 l0_1.length c0_1) := (blk_cell BK291.out 1).trans rfl
     have hfz27_0 := blk_frozen BK291.out 0
     have hfz27_1 := blk_frozen BK291.out 1
     obtain ⟨Ao28, co28, eo28⟩ := Kd.R_slice HO_6.out
     subst eo28
     go_wp2_with (first | ((with_reducible refine gate_callee (f := 57) rfl ?_); refine goesL_ (some 31) rfl rfl Try.func57 (by kernel_rfl) rfl #[.int .i64 a0_0, .slice Ao28 x6_1.length co28] rfl (by (try simp only [List.map_toArray, List.map_cons, List.map_nil]); first | done | rfl | (simp only [List.length_drop, List.length_take]; rfl)) ?_; (with_reducible refine (impl_limited.calls a0_0 _ _ x6_1 t306 t307 t310 _ ?side1 ?side2 A25.out).mono ?_); (case side1 => repeat (first | exact (Kd.R_reads' HO_6.out).2.2 | (with_reducible refine Kd.C_alloc ?_ _) | (with_reducible refine Kd.C_drewN ?_ _) | (with_reducible refine Kd.C_drew ?_))); (case side2 => exact (Kd.R_reads' HO_6.out).2.1); rintro e w29 ⟨v308, rfl, ho0, hb⟩; refine ⟨_, rfl, ?_⟩; have n0_ := Aside0.mk (Kd.R_elder' (by (with_reducible repeat (first | apply Kd.R_alloc | apply Kd.R_drewN | apply Kd.R_drew)); exact HO_6.out) (Kd.R_base ho0) hb); have n1_ := Aside0.mk (Kd.R_lower (Kd.R_new' ho0 (Kd.R_lt (by (with_reducible repeat (first | apply Kd.R_alloc | apply Kd.R_drewN | apply Kd.R_drew)); exact HO_6.out))) (below_size (by repeat (first | (with_reducible first | exact HB.out | apply below_alloc | apply pw_below_drewN | apply below_drew1 | refine below_set ?_ GE291.out | refine below_set ?_ GE292.out) | exact HB.out)))); have n2_ := Aside0.mk (blk_below (g := gb291) (o := .cells #[.int .i64 a0_0, .slice A0_1 l0_1.length c0_1] 26 (0, 0)) (by (with_reducible repeat (first | refine blk_drewN ?_ _ | refine blk_drew ?_ | refine blk_alloc ?_ _)); exact BK291.out) hb); have n3_ := Aside0.mk (blk_below (g := gb292) (o := .cells #[.int .i64 0, .slice none 0 0] 26 (0, 0)) (by (with_reducible repeat (first | refine blk_drewN ?_ _ | refine blk_drew ?_ | refine blk_alloc ?_ _)); exact BK292.out) hb); have n4_ := Aside0.mk (below_step (by repeat (first | (with_reducible first | exact HB.out | apply below_alloc | apply pw_below_drewN | apply below_drew1 | refine below_set ?_ GE291.out | refine below_set ?_ GE292.out) | exact HB.out)) hb); clear HO_6; clear BK291; clear BK292; clear HB; have HO_6 := n0_; have HO309 := n1_; have BK291 := n2_; have BK292 := n3_; have HB := n4_; clear n0_ n1_ n2_ n3_ n4_; (try clear hb); (try clear hb2); (try clear hk); (try clear hi); (try clear ho0); have hcz30_0 : w29.cell? ⟨gb292, 0, none⟩ = some (.int .i64 0) := (blk_cell BK292.out 0).trans rfl; have hcz30_1 : w29.cell? ⟨gb292, 1, none⟩ = some (.slice none 0 0) := (blk_cell BK292.out 1).trans rfl; have hfz30_0 := blk_frozen BK292.out 0; have hfz30_1 := blk_frozen BK292.out 1; obtain ⟨Ao31, co31, eo31⟩ := Kd.R_slice HO309.out; subst eo31))
     refine bodyPost_ret (results_ct rfl _ _ gb292 26 #[.int .i64 t306, .slice Ao31 t307.length co31] (0, 0) _ rfl (by (with_reducible repeat (first | refine blk_drewN ?_ _ | refine blk_drew ?_ | refine blk_alloc ?_ _)); refine blk_put (cs := #[.int .i64 t306, .slice none 0 0]) ?_ 1 _ rfl; (with_reducible repeat (first | refine blk_drewN ?_ _ | refine blk_drew ?_ | refine blk_alloc ?_ _)); refine blk_put (cs := #[.int .i64 0, .slice none 0 0]) ?_ 0 _ rfl; (with_reducible repeat (first | refine blk_drewN ?_ _ | refine blk_drew ?_ | refine blk_alloc ?_ _)); exact BK292.out) Try.underlying26 rfl (by kernel_rfl)) rfl ?_
     exact ⟨_, by first | rfl | (simp [errW_none, errW_some] <;> rfl) | (simp [*, errW_none, errW_some] <;> rfl), by (with_reducible repeat (first | apply Kd.R_alloc | apply Kd.R_drewN | apply Kd.R_drew)); exact Kd.R_mono (Kd.R_far (p := ⟨gb292, 1, none⟩) (Kd.R_far (p := ⟨gb292, 0, none⟩) (Kd.R_types HO309.out BK292.out (by decide)) (fun _ hk => hk.2) (.int .i64 t306)) (fun _ hk => hk.2) (.slice Ao31 t307.length co31)) (fun _ hk => trivial), by repeat (first | (with_reducible first | exact HB.out | apply below_alloc | apply pw_below_drewN | apply below_drew1 | refine below_set ?_ GE291.out | refine below_set ?_ GE292.out) | exact HB.out)⟩
 ·replace c4 := Bool.eq_false_iff.mpr c4
  subst c4
  have H1 : (some (0, ([] : List (S45)), 1)) = some (r1, r2, r3) := by rw [if_neg (show ¬ (false = true) by decide)] at H; exact H
  clear H
  have H := H1
  clear H1
  simp only [Option.some.injEq, Prod.mk.injEq] at H
  obtain ⟨rfl, rfl, rfl⟩ := H
  go_enter Try.func62, Try.ntmps62
  go_wp2_with (first | ((with_reducible refine gate_dst (N := 2) rfl ?_); refine box_event ?hg (N := 2) ?hd (cs := #[.int .i64 a0_0, .slice A0_1 l0_1.length c0_1]) (t := 26) ?hr ?_; (case hd => rfl); (case hg => rfl); (case hr => first | (go_simp; done) | (go_simp; rfl)); intro gb291 hg w32 hbox hb; have n0_ := Aside0.mk (below_step (by repeat (first | (with_reducible first | exact HB.out | apply below_alloc | apply pw_below_drewN | apply below_drew1) | exact HB.out)) hb); have n1_ := Aside0.mk (hbox); have n2_ := Aside0.mk ((by rw [hg]; exact (below_size (by repeat (first | (with_reducible first | exact HB.out | apply below_alloc | apply pw_below_drewN | apply below_drew1) | exact HB.out))) : w.heap.size ≤ gb291)); have n3_ := Aside0.mk ((by rw [hg]; exact (below_size (by repeat (first | (with_reducible first | exact HB.out | apply below_alloc | apply pw_below_drewN | apply below_drew1) | exact HB.out))) : w.heap.size ≤ gb291)); clear HB; have HB := n0_; have BK291 := n1_; have GW291 := n2_; have GE291 := n3_; clear n0_ n1_ n2_ n3_; clear hb hbox hg) | ((with_reducible refine gate_dst (N := 4) rfl ?_); refine box_event ?hg (N := 4) ?hd (cs := #[.int .i64 0, .slice none 0 0]) (t := 26) ?hr ?_; (case hd => rfl); (case hg => rfl); (case hr => first | (go_simp; done) | (go_simp; rfl)); intro gb292 hg w33 hbox hb; have n0_ := Aside0.mk (blk_below (g := gb291) (o := .cells #[.int .i64 a0_0, .slice A0_1 l0_1.length c0_1] 26 (0, 0)) (by (with_reducible repeat (first | refine blk_drewN ?_ _ | refine blk_drew ?_ | refine blk_alloc ?_ _)); exact BK291.out) hb); have n1_ := Aside0.mk (below_step (by repeat (first | (with_reducible first | exact HB.out | apply below_alloc | apply pw_below_drewN | apply below_drew1 | refine below_set ?_ GE291.out) | exact HB.out)) hb); have n2_ := Aside0.mk (hbox); have n3_ := Aside0.mk ((by rw [hg]; exact (below_size (by repeat (first | (with_reducible first | exact HB.out | apply below_alloc | apply pw_below_drewN | apply below_drew1 | refine below_set ?_ GE291.out) | exact HB.out))) : w.heap.size ≤ gb292)); have n4_ := Aside0.mk ((by rw [hg]; exact (below_size (by repeat (first | (with_reducible first | exact HB.out | apply below_alloc | apply pw_below_drewN | apply below_drew1 | refine below_set ?_ GE291.out) | exact HB.out))) : w.heap.size ≤ gb292)); have n5_ := Aside0.mk ((by rw [hg]; exact Nat.ne_of_lt (blk_lt (g := gb291) (o := .cells #[.int .i64 a0_0, .slice A0_1 l0_1.length c0_1] 26 (0, 0)) (by (with_reducible repeat (first | refine blk_drewN ?_ _ | refine blk_drew ?_ | refine blk_alloc ?_ _)); exact BK291.out)) : gb291 ≠ gb292)); have n6_ := Aside0.mk ((by rw [hg]; exact Nat.ne_of_gt (blk_lt (g := gb291) (o := .cells #[.int .i64 a0_0, .slice A0_1 l0_1.length c0_1] 26 (0, 0)) (by (with_reducible repeat (first | refine blk_drewN ?_ _ | refine blk_drew ?_ | refine blk_alloc ?_ _)); exact BK291.out)) : gb292 ≠ gb291)); clear BK291; clear HB; have BK291 := n0_; have HB := n1_; have BK292 := n2_; have GW292 := n3_; have GE292 := n4_; have NB291_292 := n5_; have NB292_291 := n6_; clear n0_ n1_ n2_ n3_ n4_ n5_ n6_; clear hb hbox hg; have hnb34 := NB291_292.out; have hnc34 := NB292_291.out; have hcz35_0 : w33.cell? ⟨gb291, 0, none⟩ = some (.int .i64 a0_0) := (blk_cell BK291.out 0).trans rfl; have hcz35_1 : w33.cell? ⟨gb291, 1, none⟩ = some (.slice A0_1 l0_1.length c0_1) := (blk_cell BK291.out 1).trans rfl; have hfz35_0 := blk_frozen BK291.out 0; have hfz35_1 := blk_frozen BK291.out 1) | ((with_reducible refine gate_callee (f := 96) rfl ?_); refine goesL_ (some 10) rfl rfl Try.func96 (by kernel_rfl) rfl #[.agg #[.int .i64 a0_0, .slice A0_1 l0_1.length c0_1]] rfl (by (try simp only [List.map_toArray, List.map_cons, List.map_nil]); first | done | rfl | (simp only [List.length_drop, List.length_take]; rfl)) ?_; (with_reducible refine (impl_IsSet.calls a0_0 _ _ l0_1 false _ ?side1 ?side2 A3.out).mono ?_); (case side1 => repeat (first | exact (Kd.C_below HR0_1.out HB.out) | (with_reducible refine Kd.C_alloc ?_ _) | (with_reducible refine Kd.C_drewN ?_ _) | (with_reducible refine Kd.C_drew ?_))); (case side2 => exact HC0_1.out); rintro e w36 ⟨rfl, hb⟩; refine ⟨_, rfl, ?_⟩; have n0_ := Aside0.mk (blk_below (g := gb291) (o := .cells #[.int .i64 a0_0, .slice A0_1 l0_1.length c0_1] 26 (0, 0)) (by (with_reducible repeat (first | refine blk_drewN ?_ _ | refine blk_drew ?_ | refine blk_alloc ?_ _)); exact BK291.out) hb); have n1_ := Aside0.mk (blk_below (g := gb292) (o := .cells #[.int .i64 0, .slice none 0 0] 26 (0, 0)) (by (with_reducible repeat (first | refine blk_drewN ?_ _ | refine blk_drew ?_ | refine blk_alloc ?_ _)); exact BK292.out) hb); have n2_ := Aside0.mk (below_step (by repeat (first | (with_reducible first | exact HB.out | apply below_alloc | apply pw_below_drewN | apply below_drew1 | refine below_set ?_ GE291.out | refine below_set ?_ GE292.out) | exact HB.out)) hb); clear BK291; clear BK292; clear HB; have BK291 := n0_; have BK292 := n1_; have HB := n2_; clear n0_ n1_ n2_; (try clear hb); (try clear hb2); (try clear hk); (try clear hi); have hcz37_0 : w36.cell? ⟨gb292, 0, none⟩ = some (.int .i64 0) := (blk_cell BK292.out 0).trans rfl; have hcz37_1 : w36.cell? ⟨gb292, 1, none⟩ = some (.slice none 0 0) := (blk_cell BK292.out 1).trans rfl; have hfz37_0 := blk_frozen BK292.out 0; have hfz37_1 := blk_frozen BK292.out 1))
  refine bodyPost_ret (results_ct rfl _ _ gb292 26 #[.int .i64 0, .slice none 0 0] (0, 0) _ rfl (by (with_reducible repeat (first | refine blk_drewN ?_ _ | refine blk_drew ?_ | refine blk_alloc ?_ _)); refine blk_put (cs := #[.int .i64 0, .slice none 0 0]) ?_ 1 _ rfl; (with_reducible repeat (first | refine blk_drewN ?_ _ | refine blk_drew ?_ | refine blk_alloc ?_ _)); refine blk_put (cs := #[.int .i64 0, .slice none 0 0]) ?_ 0 _ rfl; (with_reducible repeat (first | refine blk_drewN ?_ _ | refine blk_drew ?_ | refine blk_alloc ?_ _)); exact BK292.out) Try.underlying26 rfl (by kernel_rfl)) rfl ?_
  exact ⟨_, by first | rfl | (simp [errW_none, errW_some] <;> rfl) | (simp [*, errW_none, errW_some] <;> rfl), by first | exact Kd.R_nil _ _ _ _ _ | exact Kd.N_nil _ _ _ _ _ | exact Kd.V_nil _ _ _ _ _ | exact Kd.Q_nil _ _ _ _ _ | exact Kd.S_nil _ _ _ _ _, by repeat (first | (with_reducible first | exact HB.out | apply below_alloc | apply pw_below_drewN | apply below_drew1 | refine below_set ?_ GE291.out | refine below_set ?_ GE292.out) | exact HB.out)⟩

end Go.Proofs.Ytnjmgmdpkogocaa.Q

-- Printed by a program of this session (the kit's print, turned: printpatch.py) out of Lean's print of the translation. Lean checks it.
namespace Go.Proofs.Ytnjmgmdpkogocaa.Q
open Go.RowKit Go.Proofs.YtnjmgmdpkogocaaW.PrintWords Go.Proofs.YtnjmgmdpkogocaaW.PrintLast Go.Proofs.YtnjmgmdpkogocaaW.PrintMore
attribute [local go_sem] max2_int min2_int max_two min_two max_three min_three max_four min_four   -- for this text's walks alone
set_option linter.unusedVariables false
set_option linter.unusedSimpArgs false

/-! ### impl_TransposedSet: function 31 -/
def impl_TransposedSet.f (k : Nat) (a0_0 : Int) (l0_1 : List (S45)) : Option (Int × (List (S45)) × Int) := (impl_changed_at_impl_TransposedSet_1.f k a0_0 l0_1).bind fun bt313 => (some (bt313.1, bt313.2.1, bt313.2.2))
theorem impl_TransposedSet.mono : ∀ a0 a1 k, LeO (impl_TransposedSet.f k a0 a1) (impl_TransposedSet.f (k + 1) a0 a1) := by
 intro a0 a1 k
 unfold impl_TransposedSet.f
 repeat' first
   | (with_reducible exact impl_changed_at_impl_TransposedSet_1.mono _ _ _)
   | (with_reducible exact LeO.refl _)
   | (with_reducible exact LeO.none _)
   | (with_reducible refine LeO.ite ?_ ?_)
   | (with_reducible refine LeO.bind ?_ (fun _ => ?_))
   | exact impl_changed_at_impl_TransposedSet_1.mono _ _ _
   | exact LeO.none _
   | refine LeO.ite ?_ ?_
   | refine LeO.bind ?_ (fun _ => ?_)
set_option maxHeartbeats 8000000 in
set_option maxRecDepth 100000 in
theorem impl_TransposedSet.calls (k : Nat) (a0_0 : Int) (A0_1 : Option Addr) (c0_1 : Nat) (l0_1 : List (S45)) (r1 : Int) (r2 : List (S45)) (r3 : Int) (w : World) (hr0_1 : Kd.C k45 w A0_1 l0_1.length l0_1) (hc0_1 : l0_1.length ≤ c0_1) (h : impl_TransposedSet.f k a0_0 l0_1 = some (r1, r2, r3)) :
  Calls Try.prog 31 #[.agg #[.int .i64 a0_0, .slice A0_1 l0_1.length c0_1]] w fun e w' => ∃ v1_ : Value, e = .returned (.tuple #[.agg #[.int .i64 r1, v1_], .int .i64 r3]) ∧ Kd.R k45 45 w' w.heap.size (fun _ => True) v1_ r2 ∧ Below w.heap.size w w' := by
 have hu26 := Try.underlying26
 have HR0_1 := Aside0.mk hr0_1
 have HC0_1 := Aside0.mk hc0_1
 clear hr0_1 hc0_1
 have HB := Aside0.mk (Below.refl w.heap.size w)
 have H : ((impl_changed_at_impl_TransposedSet_1.f k a0_0 l0_1).bind fun bt313 => (some (bt313.1, bt313.2.1, bt313.2.2))) = some (r1, r2, r3) := h
 clear h
 replace H := Option.bind_eq_some_iff.mp H
 obtain ⟨⟨t313, t314, t317⟩, A20, H⟩ := H
 replace H : (some (t313, t314, t317)) = some (r1, r2, r3) := H
 have A2 := Aside0.mk A20
 clear A20
 simp only [Option.some.injEq, Prod.mk.injEq] at H
 obtain ⟨rfl, rfl, rfl⟩ := H
 go_enter Try.func31, Try.ntmps31
 go_wp2_with (first | ((with_reducible refine gate_dst (N := 1) rfl ?_); refine box_event ?hg (N := 1) ?hd (cs := #[.int .i64 a0_0, .slice A0_1 l0_1.length c0_1]) (t := 26) ?hr ?_; (case hd => rfl); (case hg => rfl); (case hr => first | (go_simp; done) | (go_simp; rfl)); intro gb311 hg w3 hbox hb; have n0_ := Aside0.mk (below_step (by repeat (first | (with_reducible first | exact HB.out | apply below_alloc | apply pw_below_drewN | apply below_drew1) | exact HB.out)) hb); have n1_ := Aside0.mk (hbox); have n2_ := Aside0.mk ((by rw [hg]; exact (below_size (by repeat (first | (with_reducible first | exact HB.out | apply below_alloc | apply pw_below_drewN | apply below_drew1) | exact HB.out))) : w.heap.size ≤ gb311)); have n3_ := Aside0.mk ((by rw [hg]; exact (below_size (by repeat (first | (with_reducible first | exact HB.out | apply below_alloc | apply pw_below_drewN | apply below_drew1) | exact HB.out))) : w.heap.size ≤ gb311)); clear HB; have HB := n0_; have BK311 := n1_; have GW311 := n2_; have GE311 := n3_; clear n0_ n1_ n2_ n3_; clear hb hbox hg) | ((with_reducible refine gate_dst (N := 2) rfl ?_); refine box_event ?hg (N := 2) ?hd (cs := #[.int .i64 0, .slice none 0 0]) (t := 26) ?hr ?_; (case hd => rfl); (case hg => rfl); (case hr => first | (go_simp; done) | (go_simp; rfl)); intro gb312 hg w4 hbox hb; have n0_ := Aside0.mk (blk_below (g := gb311) (o := .cells #[.int .i64 a0_0, .slice A0_1 l0_1.length c0_1] 26 (0, 0)) (by (with_reducible repeat (first | refine blk_drewN ?_ _ | refine blk_drew ?_ | refine blk_alloc ?_ _)); exact BK311.out) hb); have n1_ := Aside0.mk (below_step (by repeat (first | (with_reducible first | exact HB.out | apply below_alloc | apply pw_below_drewN | apply below_drew1 | refine below_set ?_ GE311.out) | exact HB.out)) hb); have n2_ := Aside0.mk (hbox); have n3_ := Aside0.mk ((by rw [hg]; exact (below_size (by repeat (first | (with_reducible first | exact HB.out | apply below_alloc | apply pw_below_drewN | apply below_drew1 | refine below_set ?_ GE311.out) | exact HB.out))) : w.heap.size ≤ gb312)); have n4_ := Aside0.mk ((by rw [hg]; exact (below_size (by repeat (first | (with_reducible first | exact HB.out | apply below_alloc | apply pw_below_drewN | apply below_drew1 | refine below_set ?_ GE311.out) | exact HB.out))) : w.heap.size ≤ gb312)); have n5_ := Aside0.mk ((by rw [hg]; exact Nat.ne_of_lt (blk_lt (g := gb311) (o := .cells #[.int .i64 a0_0, .slice A0_1 l0_1.length c0_1] 26 (0, 0)) (by (with_reducible repeat (first | refine blk_drewN ?_ _ | refine blk_drew ?_ | refine blk_alloc ?_ _)); exact BK311.out)) : gb311 ≠ gb312)); have n6_ := Aside0.mk ((by rw [hg]; exact Nat.ne_of_gt (blk_lt (g := gb311) (o := .cells #[.int .i64 a0_0, .slice A0_1 l0_1.length c0_1] 26 (0, 0)) (by (with_reducible repeat (first | refine blk_drewN ?_ _ | refine blk_drew ?_ | refine blk_alloc ?_ _)); exact BK311.out)) : gb312 ≠ gb311)); clear BK311; clear HB; have BK311 := n0_; have HB := n1_; have BK312 := n2_; have GW312 := n3_; have GE312 := n4_; have NB311_312 := n5_; have NB312_311 := n6_; clear n0_ n1_ n2_ n3_ n4_ n5_ n6_; clear hb hbox hg; have hnb5 := NB311_312.out; have hnc5 := NB312_311.out; have hcz6_0 : w4.cell? ⟨gb311, 0, none⟩ = some (.int .i64 a0_0) := (blk_cell BK311.out 0).trans rfl; have hcz6_1 : w4.cell? ⟨gb311, 1, none⟩ = some (.slice A0_1 l0_1.length c0_1) := (blk_cell BK311.out 1).trans rfl; have hfz6_0 := blk_frozen BK311.out 0; have hfz6_1 := blk_frozen BK311.out 1) | ((with_reducible refine gate_callee (f := 62) rfl ?_); refine goesL_ (some 5) rfl rfl Try.func62 (by kernel_rfl) rfl #[.agg #[.int .i64 a0_0, .slice A0_1 l0_1.length c0_1], .func (.func 70) #[] #[]] rfl (by (try simp only [List.map_toArray, List.map_cons, List.map_nil]); first | done | rfl | (simp only [List.length_drop, List.length_take]; rfl)) ?_; (with_reducible refine (impl_changed_at_impl_TransposedSet_1.calls k a0_0 _ _ l0_1  t313 t314 t317 _ ?side1 ?side2 A2.out).mono ?_); (case side1 => repeat (first | exact (Kd.C_below HR0_1.out HB.out) | (with_reducible refine Kd.C_alloc ?_ _) | (with_reducible refine Kd.C_drewN ?_ _) | (with_reducible refine Kd.C_drew ?_))); (case side2 => exact HC0_1.out); rintro e w7 ⟨v315, rfl, ho0, hb⟩; refine ⟨_, rfl, ?_⟩; have n0_ := Aside0.mk (Kd.R_lower ho0 (below_size (by repeat (first | (with_reducible first | exact HB.out | apply below_alloc | apply pw_below_drewN | apply below_drew1 | refine below_set ?_ GE311.out | refine below_set ?_ GE312.out) | exact HB.out)))); have n1_ := Aside0.mk (blk_below (g := gb311) (o := .cells #[.int .i64 a0_0, .slice A0_1 l0_1.length c0_1] 26 (0, 0)) (by (with_reducible repeat (first | refine blk_drewN ?_ _ | refine blk_drew ?_ | refine blk_alloc ?_ _)); exact BK311.out) hb); have n2_ := Aside0.mk (blk_below (g := gb312) (o := .cells #[.int .i64 0, .slice none 0 0] 26 (0, 0)) (by (with_reducible repeat (first | refine blk_drewN ?_ _ | refine blk_drew ?_ | refine blk_alloc ?_ _)); exact BK312.out) hb); have n3_ := Aside0.mk (below_step (by repeat (first | (with_reducible first | exact HB.out | apply below_alloc | apply pw_below_drewN | apply below_drew1 | refine below_set ?_ GE311.out | refine below_set ?_ GE312.out) | exact HB.out)) hb); clear BK311; clear BK312; clear HB; have HO316 := n0_; have BK311 := n1_; have BK312 := n2_; have HB := n3_; clear n0_ n1_ n2_ n3_; (try clear hb); (try clear hb2); (try clear hk); (try clear hi); (try clear ho0); have hcz8_0 : w7.cell? ⟨gb312, 0, none⟩ = some (.int .i64 0) := (blk_cell BK312.out 0).trans rfl; have hcz8_1 : w7.cell? ⟨gb312, 1, none⟩ = some (.slice none 0 0) := (blk_cell BK312.out 1).trans rfl; have hfz8_0 := blk_frozen BK312.out 0; have hfz8_1 := blk_frozen BK312.out 1; obtain ⟨Ao9, co9, eo9⟩ := Kd.R_slice HO316.out; subst eo9))
 refine bodyPost_ret (results_ct rfl _ _ gb312 26 #[.int .i64 t313, .slice Ao9 t314.length co9] (0, 0) _ rfl (by (with_reducible repeat (first | refine blk_drewN ?_ _ | refine blk_drew ?_ | refine blk_alloc ?_ _)); refine blk_put (cs := #[.int .i64 t313, .slice none 0 0]) ?_ 1 _ rfl; (with_reducible repeat (first | refine blk_drewN ?_ _ | refine blk_drew ?_ | refine blk_alloc ?_ _)); refine blk_put (cs := #[.int .i64 0, .slice none 0 0]) ?_ 0 _ rfl; (with_reducible repeat (first | refine blk_drewN ?_ _ | refine blk_drew ?_ | refine blk_alloc ?_ _)); exact BK312.out) Try.underlying26 rfl (by kernel_rfl)) rfl ?_
 exact ⟨_, by first | rfl | (simp [errW_none, errW_some] <;> rfl) | (simp [*, errW_none, errW_some] <;> rfl), by (with_reducible repeat (first | apply Kd.R_alloc | apply Kd.R_drewN | apply Kd.R_drew)); exact Kd.R_mono (Kd.R_far (p := ⟨gb312, 1, none⟩) (Kd.R_far (p := ⟨gb312, 0, none⟩) (Kd.R_types HO316.out BK312.out (by decide)) (fun _ hk => hk.2) (.int .i64 t313)) (fun _ hk => hk.2) (.slice Ao9 t314.length co9)) (fun _ hk => trivial), by repeat (first | (with_reducible first | exact HB.out | apply below_alloc | apply pw_below_drewN | apply below_drew1 | refine below_set ?_ GE311.out | refine below_set ?_ GE312.out) | exact HB.out)⟩

end Go.Proofs.Ytnjmgmdpkogocaa.Q

/-
  TransposedSet: what both return.
-/
namespace Go.Proofs.Ytnjmgmdpkogocaa
open Go Go.RowKit Go.Proofs Go.Proofs.YtnjmgmdpkogocaaW.PrintWords Go.Proofs.YtnjmgmdpkogocaaW.PrintMore Go.Proofs.Ytnjmgmdpkogocaa.Q
set_option linter.unusedVariables false
set_option linter.unusedSimpArgs false


theorem toTransposed (x : STile) : impl_TransposedSet_1.f x.f0 x.f1 x.f2 x.f3 = some ((toS (sidesT 1 0 3 2 (toT x))).f0, (toS (sidesT 1 0 3 2 (toT x))).f1, (toS (sidesT 1 0 3 2 (toT x))).f2, (toS (sidesT 1 0 3 2 (toT x))).f3) := by
  unfold impl_TransposedSet_1.f impl_Tile_sides.f
  simp [sidesT, toS, toT, T4.get]
theorem specTransposed_f (C : Int) (l : List STile) (hl : l.length ≤ 35184372088832) : spec_TransposedSet.f C l = some (flat (wayR (sidesT 1 0 3 2) C (l.map toT))) := by
  have hin : inLim l.length = true := by simpa [inLim] using hl
  unfold spec_TransposedSet.f spec_l01Is.f spec_l01Transposed.f wayR flat
  rw [if_pos hin]
  cases hs : isS C (l.map toT)
  · rfl
  · have h1 := isS_lens hs
    rw [List.length_map] at h1
    have h6 : lim6 l.length = true := by simp [lim6]; omega
    rw [if_pos h6]; rfl
theorem implChangedTransposed_ev (C : Int) (l : List STile) (hl : l.length ≤ 16) : ∀ d m (acc : List STile), m + d = l.length → acc.length = m →
    Ev (fun k => impl_changed_at_impl_TransposedSet_1.l0 k acc l (l.length : Int) (m : Int) C l) (flat (limR C (acc.map toT ++ ((l.drop m).map toT).map (sidesT 1 0 3 2)))) := by
  intro d
  induction d with
  | zero =>
    intro m acc hm ha
    have b1 : ¬ (m : Int) < (l.length : Int) := by omega
    refine Ev.step (fun k => ?_) (Ev.now _)
    rw [impl_changed_at_impl_TransposedSet_1.l0, if_neg b1, limited_f C acc (by omega), List.drop_of_length_le (by omega)]
    simp [flat]
  | succ d ih =>
    intro m acc hm ha
    have hlt : m < l.length := by omega
    have b1 : (m : Int) < (l.length : Int) := by omega
    have b2 : (0 : Int) ≤ (m : Int) := Int.natCast_nonneg m
    have b3 : acc.length < 4398046511104 := by omega
    have hm9 : m < 1000000000 := by omega
    have hd : l.drop m = l[m] :: l.drop (m + 1) := List.drop_eq_getElem_cons hlt
    have hi := ih (m + 1) (acc ++ [toS (sidesT 1 0 3 2 (toT l[m]))]) (by omega) (by simp; omega)
    have e : acc.map toT ++ ((l.drop m).map toT).map (sidesT 1 0 3 2) = (acc ++ [toS (sidesT 1 0 3 2 (toT l[m]))]).map toT ++ ((l.drop (m + 1)).map toT).map (sidesT 1 0 3 2) := by
      rw [hd]; simp only [List.map_cons, List.map_append, List.map_nil, List.append_assoc, List.cons_append, List.nil_append, toT_toS]
    rw [e]
    refine Ev.step (fun k => ?_) hi
    rw [impl_changed_at_impl_TransposedSet_1.l0, if_pos b1, if_pos b2, if_pos b1, rdT_get l m hlt, toTransposed, wrap_succ m hm9, Option.bind_some, if_pos b3]
theorem implTransposed_ev (C : Int) (l : List STile) (hl : l.length ≤ 35184372088832) : Ev (fun k => impl_TransposedSet.f k C l) (flat (wayR (sidesT 1 0 3 2) C (l.map toT))) := by
  have hin : inLim l.length = true := by simpa [inLim] using hl
  refine Ev.congr (f := fun k => (impl_changed_at_impl_TransposedSet_1.f k C l).bind fun b => some b) (fun k => by rw [impl_TransposedSet.f]) ?_
  refine Ev.bind (a := flat (wayR (sidesT 1 0 3 2) C (l.map toT))) ?_ (Ev.now _)
  cases hs : isS C (l.map toT)
  · refine Ev.congr (fun k => ?_) (Ev.now _)
    rw [impl_changed_at_impl_TransposedSet_1.f, impl_IsSet.f, if_pos hin, hs]
    simp [wayR, hs, flat]
  · have h1 := isS_lens hs
    rw [List.length_map] at h1
    have hi := implChangedTransposed_ev C l (by omega) l.length 0 [] (by omega) rfl
    rw [List.drop_zero, List.map_nil, List.nil_append, limR_in (by omega) (by simp; omega)] at hi
    have e : flat (wayR (sidesT 1 0 3 2) C (l.map toT)) = flat ((C, sortT ((l.map toT).map (sidesT 1 0 3 2))), 0) := by unfold wayR; rw [if_pos hs]
    rw [e]
    refine Ev.congr (fun k => ?_) hi
    rw [impl_changed_at_impl_TransposedSet_1.f, impl_IsSet.f, if_pos hin, hs]; rfl
theorem specTransposedSet_any (C : Int) (A : Option Addr) (ts : List T4) (n c : Nat) (w : World) (hn : n = ts.length) (hA : RT w A ts) (hnc : n ≤ c) (hl : n ≤ 35184372088832) :
    Calls Try.prog 30 #[.agg #[.int .i64 C, .slice A n c]] w fun e w' => ∃ v xc xs code, wayR (sidesT 1 0 3 2) C ts = ((xc, xs), code) ∧ e = .returned (.tuple #[.agg #[.int .i64 xc, v], .int .i64 code]) ∧ OW w' w.heap.size w'.heap.size 45 4 v xs.length (tcells xs) ∧ Below w.heap.size w w' := by
  subst hn
  have hk := specTransposed_f C (ts.map toS) (by simpa using hl)
  rw [map_toTS] at hk
  have h := spec_TransposedSet.calls C A c (ts.map toS) _ _ _ w (C_of_rt hA (by omega)) (by simpa using hnc) hk
  rw [List.length_map] at h
  exact h.mono fun e w' ⟨v, he, hR, hB⟩ => ⟨v, _, _, _, rfl, he, ow_of_RT hR, hB⟩
theorem implTransposedSet_any (C : Int) (A : Option Addr) (ts : List T4) (n c : Nat) (w : World) (hn : n = ts.length) (hA : RT w A ts) (hnc : n ≤ c) (hl : n ≤ 35184372088832) :
    Calls Try.prog 31 #[.agg #[.int .i64 C, .slice A n c]] w fun e w' => ∃ v xc xs code, wayR (sidesT 1 0 3 2) C ts = ((xc, xs), code) ∧ e = .returned (.tuple #[.agg #[.int .i64 xc, v], .int .i64 code]) ∧ OW w' w.heap.size w'.heap.size 45 4 v xs.length (tcells xs) ∧ Below w.heap.size w w' := by
  subst hn
  obtain ⟨k, hk⟩ := (implTransposed_ev C (ts.map toS) (by simpa using hl)).rounds
  rw [map_toTS] at hk
  have h := impl_TransposedSet.calls k C A c (ts.map toS) _ _ _ w (C_of_rt hA (by omega)) (by simpa using hnc) hk
  rw [List.length_map] at h
  exact h.mono fun e w' ⟨v, he, hR, hB⟩ => ⟨v, _, _, _, rfl, he, ow_of_RT hR, hB⟩
end Go.Proofs.Ytnjmgmdpkogocaa

/-
  The walk of the law FnExactTransposedSet.
-/
namespace Go.Proofs.Ytnjmgmdpkogocaa
open Go Go.RowKit Go.Proofs
set_option linter.unusedVariables false
set_option linter.unusedSimpArgs false

set_option maxHeartbeats 16000000 in
set_option maxRecDepth 100000 in
theorem lawTransposedSet_any (w : World) (C0 : Int) (A0 : Option Addr) (ts0 : List T4) (n0 c0 : Nat) (hn0 : n0 = ts0.length) (hA0 : RT w A0 ts0) (hnc0 : n0 ≤ c0) (hl0 : n0 ≤ 35184372088832) (hC0 : -9223372036854775808 ≤ C0 ∧ C0 ≤ 9223372036854775807) :
    Calls Try.prog 7 #[.agg #[.int .i64 C0, .slice A0 n0 c0]] w fun e w' => e = .returned (.bool true) ∧ Below w.heap.size w w' := by
  subst hn0
  have HA0 := Lib.hid hA0; clear hA0
  by_cases hbig0 : (1048576 : Int) < ((ts0.length : Nat) : Int)
  · go_enter Try.func7, Try.ntmps7
    go_wp2_with fail
    refine namec1 ?_
    intro w1 b0 hz hB
    have tw1 : w.heap.size + 1 ≤ w1.heap.size := by omega
    clear hz
    have sw1 : w.heap.size ≤ w1.heap.size := hB.size
    have hE := Lib.hid (hB)
    clear hB
    refine (szSet_any C0 A0 ts0.length c0 (1048576) w1 (by omega) (by omega) (by omega)).mono ?_
    rintro e w2 ⟨rfl, hB⟩
    rw [if_pos (show (1048576 : Int) < (ts0.length : Nat) by omega)]
    replace b0 := b0.below hB b0.lt
    have sw2 : w1.heap.size ≤ w2.heap.size := hB.size
    replace hE := Lib.hid (below_to hE.out hB)
    clear hB
    go_wp2_with fail
    go_ret
    exact ⟨rfl, hE.out⟩
  · replace hbig0 : ((ts0.length : Nat) : Int) ≤ 1048576 := by omega
    obtain ⟨r_, hr_⟩ : ∃ r, wayR (sidesT 1 0 3 2) C0 ts0 = r := ⟨_, rfl⟩
    obtain ⟨⟨rc1, r1⟩, r2⟩ := r_
    have hb1 : r1.length ≤ 1048576 := by have h_ := wayR_len (sidesT 1 0 3 2) C0 ts0; rw [hr_] at h_; exact h_
    have HR := Lib.hid hr_; clear hr_
    go_enter Try.func7, Try.ntmps7
    go_wp2_with fail
    refine namec1 ?_
    intro w1 b0 hz hB
    have tw1 : w.heap.size + 1 ≤ w1.heap.size := by omega
    clear hz
    have sw1 : w.heap.size ≤ w1.heap.size := hB.size
    have hE := Lib.hid (hB)
    clear hB
    refine (szSet_any C0 A0 ts0.length c0 (1048576) w1 (by omega) (by omega) (by omega)).mono ?_
    rintro e w2 ⟨rfl, hB⟩
    rw [if_neg (show ¬ (1048576 : Int) < (ts0.length : Nat) by omega)]
    replace b0 := b0.below hB b0.lt
    have sw2 : w1.heap.size ≤ w2.heap.size := hB.size
    replace hE := Lib.hid (below_to hE.out hB)
    clear hB
    have l0 := b0.lt
    have c0_0 : w2.cell? ⟨w.heap.size, 0, none⟩ = some (.int .i64 C0) := b0.cell rfl
    have c0_1 : w2.cell? ⟨w.heap.size, 1, none⟩ = some (.slice A0 ts0.length c0) := b0.cell rfl
    go_wp2_with fail
    clear l0 c0_0 c0_1
    refine (toSet_any C0 A0 ts0 ts0.length c0 w2 rfl (HA0.out.below hE.out) (by omega)).mono ?_
    rintro e w3 ⟨v_, rfl, hO, hB⟩
    obtain ⟨A1_, c1_, rfl, -, -⟩ := hO.reads
    have O1 := Lib.hid (OW.of hO)
    clear hO
    replace b0 := b0.below hB b0.lt
    have sw3 : w2.heap.size ≤ w3.heap.size := hB.size
    replace hE := Lib.hid (below_to hE.out hB)
    clear hB
    have l0 := b0.lt
    have c0_0 : w3.cell? ⟨w.heap.size, 0, none⟩ = some (.int .i64 C0) := b0.cell rfl
    have c0_1 : w3.cell? ⟨w.heap.size, 1, none⟩ = some (.slice A0 ts0.length c0) := b0.cell rfl
    go_wp2_with fail
    clear l0 c0_0 c0_1
    refine (specTransposedSet_any C0 A1_ ts0 ts0.length c1_ w3 rfl (rt_of O1.out rfl) (le_of O1.out) (by omega)).mono ?_
    rintro e w4 ⟨v0_, xc0_, x0_, x1_, hR_, rfl, hO0, hB⟩
    obtain ⟨rfl, rfl, rfl⟩ : rc1 = xc0_ ∧ r1 = x0_ ∧ r2 = x1_ := (by have h_ := HR.out.symm.trans hR_; simpa [and_assoc] using h_)
    clear hR_
    obtain ⟨A2_, c2_, rfl, -⟩ := hO0.form
    have O2 := Lib.hid hO0
    clear hO0
    replace b0 := b0.below hB b0.lt
    replace O1 := Lib.hid (O1.out.to hB)
    have sw4 : w3.heap.size ≤ w4.heap.size := hB.size
    replace hE := Lib.hid (below_to hE.out hB)
    clear hB
    have l0 := b0.lt
    have c0_0 : w4.cell? ⟨w.heap.size, 0, none⟩ = some (.int .i64 C0) := b0.cell rfl
    have c0_1 : w4.cell? ⟨w.heap.size, 1, none⟩ = some (.slice A0 ts0.length c0) := b0.cell rfl
    go_wp2_with fail
    clear l0 c0_0 c0_1
    refine namec1 ?_
    intro w5 b1 hz hB
    have tw5 : w4.heap.size + 1 ≤ w5.heap.size := by omega
    clear hz
    replace b0 := b0.below hB b0.lt
    replace O1 := Lib.hid (O1.out.to hB)
    replace O2 := Lib.hid (O2.out.to hB)
    have sw5 : w4.heap.size ≤ w5.heap.size := hB.size
    replace hE := Lib.hid (below_to hE.out hB)
    clear hB
    refine (toSet_any C0 A0 ts0 ts0.length c0 w5 rfl (HA0.out.below hE.out) (by omega)).mono ?_
    rintro e w6 ⟨v_, rfl, hO, hB⟩
    obtain ⟨A3_, c3_, rfl, -, -⟩ := hO.reads
    have O3 := Lib.hid (OW.of hO)
    clear hO
    replace b0 := b0.below hB b0.lt
    replace b1 := b1.below hB b1.lt
    replace O1 := Lib.hid (O1.out.to hB)
    replace O2 := Lib.hid (O2.out.to hB)
    have sw6 : w5.heap.size ≤ w6.heap.size := hB.size
    replace hE := Lib.hid (below_to hE.out hB)
    clear hB
    have l0 := b0.lt
    have c0_0 : w6.cell? ⟨w.heap.size, 0, none⟩ = some (.int .i64 C0) := b0.cell rfl
    have c0_1 : w6.cell? ⟨w.heap.size, 1, none⟩ = some (.slice A0 ts0.length c0) := b0.cell rfl
    have l1 := b1.lt
    have c1_0 : w6.cell? ⟨w4.heap.size, 0, none⟩ = some (.int .i64 rc1) := b1.cell rfl
    have c1_1 : w6.cell? ⟨w4.heap.size, 1, none⟩ = some (.slice A2_ r1.length c2_) := b1.cell rfl
    go_wp2_with fail
    clear l0 c0_0 c0_1 l1 c1_0 c1_1
    refine namec1 ?_
    intro w7 b2 hz hB
    have tw7 : w6.heap.size + 1 ≤ w7.heap.size := by omega
    clear hz
    replace b0 := b0.below hB b0.lt
    replace b1 := b1.below hB b1.lt
    replace O1 := Lib.hid (O1.out.to hB)
    replace O2 := Lib.hid (O2.out.to hB)
    replace O3 := Lib.hid (O3.out.to hB)
    have sw7 : w6.heap.size ≤ w7.heap.size := hB.size
    replace hE := Lib.hid (below_to hE.out hB)
    clear hB
    refine (implTransposedSet_any C0 A3_ ts0 ts0.length c3_ w7 rfl (rt_of O3.out rfl) (le_of O3.out) (by omega)).mono ?_
    rintro e w8 ⟨v0_, xc0_, x0_, x1_, hR_, rfl, hO0, hB⟩
    obtain ⟨rfl, rfl, rfl⟩ : rc1 = xc0_ ∧ r1 = x0_ ∧ r2 = x1_ := (by have h_ := HR.out.symm.trans hR_; simpa [and_assoc] using h_)
    clear hR_
    obtain ⟨A4_, c4_, rfl, -⟩ := hO0.form
    have O4 := Lib.hid hO0
    clear hO0
    replace b0 := b0.below hB b0.lt
    replace b1 := b1.below hB b1.lt
    replace b2 := b2.below hB b2.lt
    replace O1 := Lib.hid (O1.out.to hB)
    replace O2 := Lib.hid (O2.out.to hB)
    replace O3 := Lib.hid (O3.out.to hB)
    have sw8 : w7.heap.size ≤ w8.heap.size := hB.size
    replace hE := Lib.hid (below_to hE.out hB)
    clear hB
    have l0 := b0.lt
    have c0_0 : w8.cell? ⟨w.heap.size, 0, none⟩ = some (.int .i64 C0) := b0.cell rfl
    have c0_1 : w8.cell? ⟨w.heap.size, 1, none⟩ = some (.slice A0 ts0.length c0) := b0.cell rfl
    have l1 := b1.lt
    have c1_0 : w8.cell? ⟨w4.heap.size, 0, none⟩ = some (.int .i64 rc1) := b1.cell rfl
    have c1_1 : w8.cell? ⟨w4.heap.size, 1, none⟩ = some (.slice A2_ r1.length c2_) := b1.cell rfl
    have l2 := b2.lt
    have c2_0 : w8.cell? ⟨w6.heap.size, 0, none⟩ = some (.int .i64 C0) := b2.cell rfl
    have c2_1 : w8.cell? ⟨w6.heap.size, 1, none⟩ = some (.slice A3_ ts0.length c3_) := b2.cell rfl
    go_wp2_with fail
    clear l0 c0_0 c0_1 l1 c1_0 c1_1 l2 c2_0 c2_1
    refine namec1 ?_
    intro w9 b3 hz hB
    have tw9 : w8.heap.size + 1 ≤ w9.heap.size := by omega
    clear hz
    replace b0 := b0.below hB b0.lt
    replace b1 := b1.below hB b1.lt
    replace b2 := b2.below hB b2.lt
    replace O1 := Lib.hid (O1.out.to hB)
    replace O2 := Lib.hid (O2.out.to hB)
    replace O3 := Lib.hid (O3.out.to hB)
    replace O4 := Lib.hid (O4.out.to hB)
    have sw9 : w8.heap.size ≤ w9.heap.size := hB.size
    replace hE := Lib.hid (below_to hE.out hB)
    clear hB
    refine (eqSet_any rc1 rc1 A4_ A2_ r1 r1 r1.length r1.length c4_ c2_ w9 rfl rfl (rt_of O4.out rfl) (rt_of O2.out rfl) (by omega) (by omega)).mono ?_
    rintro e w10 ⟨rfl, hB⟩
    simp only [decide_true, Bool.and_self]
    replace b0 := b0.below hB b0.lt
    replace b1 := b1.below hB b1.lt
    replace b2 := b2.below hB b2.lt
    replace b3 := b3.below hB b3.lt
    replace O1 := Lib.hid (O1.out.to hB)
    replace O2 := Lib.hid (O2.out.to hB)
    replace O3 := Lib.hid (O3.out.to hB)
    replace O4 := Lib.hid (O4.out.to hB)
    have sw10 : w9.heap.size ≤ w10.heap.size := hB.size
    replace hE := Lib.hid (below_to hE.out hB)
    clear hB
    have l0 := b0.lt
    have c0_0 : w10.cell? ⟨w.heap.size, 0, none⟩ = some (.int .i64 C0) := b0.cell rfl
    have c0_1 : w10.cell? ⟨w.heap.size, 1, none⟩ = some (.slice A0 ts0.length c0) := b0.cell rfl
    have l1 := b1.lt
    have c1_0 : w10.cell? ⟨w4.heap.size, 0, none⟩ = some (.int .i64 rc1) := b1.cell rfl
    have c1_1 : w10.cell? ⟨w4.heap.size, 1, none⟩ = some (.slice A2_ r1.length c2_) := b1.cell rfl
    have l2 := b2.lt
    have c2_0 : w10.cell? ⟨w6.heap.size, 0, none⟩ = some (.int .i64 C0) := b2.cell rfl
    have c2_1 : w10.cell? ⟨w6.heap.size, 1, none⟩ = some (.slice A3_ ts0.length c3_) := b2.cell rfl
    have l3 := b3.lt
    have c3_0 : w10.cell? ⟨w8.heap.size, 0, none⟩ = some (.int .i64 rc1) := b3.cell rfl
    have c3_1 : w10.cell? ⟨w8.heap.size, 1, none⟩ = some (.slice A4_ r1.length c4_) := b3.cell rfl
    go_wp2_with fail
    clear l0 c0_0 c0_1 l1 c1_0 c1_1 l2 c2_0 c2_1 l3 c3_0 c3_1
    have hD : Below w10.heap.size w10 w10.drew := (Below.refl _ _).drew
    replace b0 := b0.below hD b0.lt
    replace b1 := b1.below hD b1.lt
    replace b2 := b2.below hD b2.lt
    replace b3 := b3.below hD b3.lt
    replace O1 := Lib.hid (O1.out.to hD)
    replace O2 := Lib.hid (O2.out.to hD)
    replace O3 := Lib.hid (O3.out.to hD)
    replace O4 := Lib.hid (O4.out.to hD)
    replace hE := Lib.hid (below_to hE.out hD)
    clear hD
    have d1_w10 : w10.heap.size ≤ w10.drew.heap.size := Nat.le_refl _
    have d2_w10 : w10.drew.heap.size ≤ w10.heap.size := Nat.le_refl _
    go_region_held3 (fun w_ => w_.cell? ⟨w.heap.size, 0, none⟩ = some (.int .i64 C0) ∧ w_.cell? ⟨w.heap.size, 1, none⟩ = some (.slice A0 ts0.length c0) ∧ w_.cell? ⟨w4.heap.size, 0, none⟩ = some (.int .i64 rc1) ∧ w_.cell? ⟨w4.heap.size, 1, none⟩ = some (.slice A2_ r1.length c2_) ∧ w_.cell? ⟨w6.heap.size, 0, none⟩ = some (.int .i64 C0) ∧ w_.cell? ⟨w6.heap.size, 1, none⟩ = some (.slice A3_ ts0.length c3_) ∧ w_.cell? ⟨w8.heap.size, 0, none⟩ = some (.int .i64 rc1) ∧ w_.cell? ⟨w8.heap.size, 1, none⟩ = some (.slice A4_ r1.length c4_)) (first | exact ⟨b0.cell rfl, b0.cell rfl, b1.cell rfl, b1.cell rfl, b2.cell rfl, b2.cell rfl, b3.cell rfl, b3.cell rfl⟩)
      (first
        | (go_at_call 24; refine (toSet_any C0 A0 ts0 ts0.length c0 w10.drew rfl (HA0.out.below hE.out) (by omega)).mono ?_; rintro e w11 ⟨v_, rfl, hO, hB⟩; obtain ⟨A5_, c5_, rfl, -, -⟩ := hO.reads; have O5 := Lib.hid (OW.of hO); clear hO; replace b0 := b0.below hB b0.lt; replace b1 := b1.below hB b1.lt; replace b2 := b2.below hB b2.lt; replace b3 := b3.below hB b3.lt; replace O1 := Lib.hid (O1.out.to hB); replace O2 := Lib.hid (O2.out.to hB); replace O3 := Lib.hid (O3.out.to hB); replace O4 := Lib.hid (O4.out.to hB); have sw11 : w10.drew.heap.size ≤ w11.heap.size := hB.size; replace hE := Lib.hid (below_to hE.out hB); clear hB)
        | (go_at_call 17; refine (eqSet_any C0 C0 A3_ A5_ ts0 ts0 ts0.length ts0.length c3_ c5_ w11 rfl rfl (rt_of O3.out rfl) (rt_of O5.out rfl) (by omega) (by omega)).mono ?_; rintro e w12 ⟨rfl, hB⟩; simp only [decide_true, Bool.and_self]; replace b0 := b0.below hB b0.lt; replace b1 := b1.below hB b1.lt; replace b2 := b2.below hB b2.lt; replace b3 := b3.below hB b3.lt; replace O1 := Lib.hid (O1.out.to hB); replace O2 := Lib.hid (O2.out.to hB); replace O3 := Lib.hid (O3.out.to hB); replace O4 := Lib.hid (O4.out.to hB); replace O5 := Lib.hid (O5.out.to hB); have sw12 : w11.heap.size ≤ w12.heap.size := hB.size; replace hE := Lib.hid (below_to hE.out hB); clear hB))
    have l0 := b0.lt
    have c0_0 : w12.cell? ⟨w.heap.size, 0, none⟩ = some (.int .i64 C0) := b0.cell rfl
    have c0_1 : w12.cell? ⟨w.heap.size, 1, none⟩ = some (.slice A0 ts0.length c0) := b0.cell rfl
    have l1 := b1.lt
    have c1_0 : w12.cell? ⟨w4.heap.size, 0, none⟩ = some (.int .i64 rc1) := b1.cell rfl
    have c1_1 : w12.cell? ⟨w4.heap.size, 1, none⟩ = some (.slice A2_ r1.length c2_) := b1.cell rfl
    have l2 := b2.lt
    have c2_0 : w12.cell? ⟨w6.heap.size, 0, none⟩ = some (.int .i64 C0) := b2.cell rfl
    have c2_1 : w12.cell? ⟨w6.heap.size, 1, none⟩ = some (.slice A3_ ts0.length c3_) := b2.cell rfl
    have l3 := b3.lt
    have c3_0 : w12.cell? ⟨w8.heap.size, 0, none⟩ = some (.int .i64 rc1) := b3.cell rfl
    have c3_1 : w12.cell? ⟨w8.heap.size, 1, none⟩ = some (.slice A4_ r1.length c4_) := b3.cell rfl
    go_wp2_with fail
    clear l0 c0_0 c0_1 l1 c1_0 c1_1 l2 c2_0 c2_1 l3 c3_0 c3_1
    obtain ⟨m_O3, hm_O3⟩ : ∃ m, m = ts0.length * 4 := ⟨_, rfl⟩
    have bm_O3 : m_O3 ≤ 40000000 := by omega
    have Hm_O3 := Lib.hid hm_O3; clear hm_O3
    refine (markSet_m w5.heap.size w6.heap.size C0 (.slice A3_ ts0.length c3_) ts0.length m_O3 (tcells ts0) (1) w12 Hm_O3.out O3.out (by omega) (by omega) (by omega)).mono ?_
    rintro e w13 ⟨rfl, hO, hK⟩
    clear O3
    have O3 := Lib.hid hO
    clear hO
    replace b0 := b0.only hK (by omega)
    replace b1 := b1.only hK (by omega)
    replace b2 := b2.only hK (by omega)
    replace b3 := b3.only hK (by omega)
    replace O1 := Lib.hid (O1.out.only hK (by omega))
    replace O2 := Lib.hid (O2.out.only hK (by omega))
    replace O4 := Lib.hid (O4.out.only hK (by omega))
    replace O5 := Lib.hid (O5.out.only hK (by omega))
    have sw13 : w12.heap.size ≤ w13.heap.size := hK.size
    replace hE := Lib.hid (below_only hE.out hK (by omega))
    clear hK
    have l0 := b0.lt
    have c0_0 : w13.cell? ⟨w.heap.size, 0, none⟩ = some (.int .i64 C0) := b0.cell rfl
    have c0_1 : w13.cell? ⟨w.heap.size, 1, none⟩ = some (.slice A0 ts0.length c0) := b0.cell rfl
    have l1 := b1.lt
    have c1_0 : w13.cell? ⟨w4.heap.size, 0, none⟩ = some (.int .i64 rc1) := b1.cell rfl
    have c1_1 : w13.cell? ⟨w4.heap.size, 1, none⟩ = some (.slice A2_ r1.length c2_) := b1.cell rfl
    have l2 := b2.lt
    have c2_0 : w13.cell? ⟨w6.heap.size, 0, none⟩ = some (.int .i64 C0) := b2.cell rfl
    have c2_1 : w13.cell? ⟨w6.heap.size, 1, none⟩ = some (.slice A3_ ts0.length c3_) := b2.cell rfl
    have l3 := b3.lt
    have c3_0 : w13.cell? ⟨w8.heap.size, 0, none⟩ = some (.int .i64 rc1) := b3.cell rfl
    have c3_1 : w13.cell? ⟨w8.heap.size, 1, none⟩ = some (.slice A4_ r1.length c4_) := b3.cell rfl
    go_wp2_with fail
    clear l0 c0_0 c0_1 l1 c1_0 c1_1 l2 c2_0 c2_1 l3 c3_0 c3_1
    refine (eqSet_any rc1 rc1 A4_ A2_ r1 r1 r1.length r1.length c4_ c2_ w13 rfl rfl (rt_of O4.out rfl) (rt_of O2.out rfl) (by omega) (by omega)).mono ?_
    rintro e w14 ⟨rfl, hB⟩
    simp only [decide_true, Bool.and_self]
    replace b0 := b0.below hB b0.lt
    replace b1 := b1.below hB b1.lt
    replace b2 := b2.below hB b2.lt
    replace b3 := b3.below hB b3.lt
    replace O1 := Lib.hid (O1.out.to hB)
    replace O2 := Lib.hid (O2.out.to hB)
    replace O3 := Lib.hid (O3.out.to hB)
    replace O4 := Lib.hid (O4.out.to hB)
    replace O5 := Lib.hid (O5.out.to hB)
    have sw14 : w13.heap.size ≤ w14.heap.size := hB.size
    replace hE := Lib.hid (below_to hE.out hB)
    clear hB
    have l0 := b0.lt
    have c0_0 : w14.cell? ⟨w.heap.size, 0, none⟩ = some (.int .i64 C0) := b0.cell rfl
    have c0_1 : w14.cell? ⟨w.heap.size, 1, none⟩ = some (.slice A0 ts0.length c0) := b0.cell rfl
    have l1 := b1.lt
    have c1_0 : w14.cell? ⟨w4.heap.size, 0, none⟩ = some (.int .i64 rc1) := b1.cell rfl
    have c1_1 : w14.cell? ⟨w4.heap.size, 1, none⟩ = some (.slice A2_ r1.length c2_) := b1.cell rfl
    have l2 := b2.lt
    have c2_0 : w14.cell? ⟨w6.heap.size, 0, none⟩ = some (.int .i64 C0) := b2.cell rfl
    have c2_1 : w14.cell? ⟨w6.heap.size, 1, none⟩ = some (.slice A3_ ts0.length c3_) := b2.cell rfl
    have l3 := b3.lt
    have c3_0 : w14.cell? ⟨w8.heap.size, 0, none⟩ = some (.int .i64 rc1) := b3.cell rfl
    have c3_1 : w14.cell? ⟨w8.heap.size, 1, none⟩ = some (.slice A4_ r1.length c4_) := b3.cell rfl
    go_wp2_with fail
    clear l0 c0_0 c0_1 l1 c1_0 c1_1 l2 c2_0 c2_1 l3 c3_0 c3_1
    obtain ⟨m_O4, hm_O4⟩ : ∃ m, m = r1.length * 4 := ⟨_, rfl⟩
    have bm_O4 : m_O4 ≤ 40000000 := by omega
    have Hm_O4 := Lib.hid hm_O4; clear hm_O4
    refine (markSet_m w7.heap.size w8.heap.size rc1 (.slice A4_ r1.length c4_) r1.length m_O4 (tcells r1) (1) w14 Hm_O4.out O4.out (by omega) (by omega) (by omega)).mono ?_
    rintro e w15 ⟨rfl, hO, hK⟩
    clear O4
    have O4 := Lib.hid hO
    clear hO
    replace b0 := b0.only hK (by omega)
    replace b1 := b1.only hK (by omega)
    replace b2 := b2.only hK (by omega)
    replace b3 := b3.only hK (by omega)
    replace O1 := Lib.hid (O1.out.only hK (by omega))
    replace O2 := Lib.hid (O2.out.only hK (by omega))
    replace O3 := Lib.hid (O3.out.only hK (by omega))
    replace O5 := Lib.hid (O5.out.only hK (by omega))
    have sw15 : w14.heap.size ≤ w15.heap.size := hK.size
    replace hE := Lib.hid (below_only hE.out hK (by omega))
    clear hK
    have l0 := b0.lt
    have c0_0 : w15.cell? ⟨w.heap.size, 0, none⟩ = some (.int .i64 C0) := b0.cell rfl
    have c0_1 : w15.cell? ⟨w.heap.size, 1, none⟩ = some (.slice A0 ts0.length c0) := b0.cell rfl
    have l1 := b1.lt
    have c1_0 : w15.cell? ⟨w4.heap.size, 0, none⟩ = some (.int .i64 rc1) := b1.cell rfl
    have c1_1 : w15.cell? ⟨w4.heap.size, 1, none⟩ = some (.slice A2_ r1.length c2_) := b1.cell rfl
    have l2 := b2.lt
    have c2_0 : w15.cell? ⟨w6.heap.size, 0, none⟩ = some (.int .i64 C0) := b2.cell rfl
    have c2_1 : w15.cell? ⟨w6.heap.size, 1, none⟩ = some (.slice A3_ ts0.length c3_) := b2.cell rfl
    have l3 := b3.lt
    have c3_0 : w15.cell? ⟨w8.heap.size, 0, none⟩ = some (.int .i64 rc1) := b3.cell rfl
    have c3_1 : w15.cell? ⟨w8.heap.size, 1, none⟩ = some (.slice A4_ r1.length c4_) := b3.cell rfl
    go_wp2_with fail
    clear l0 c0_0 c0_1 l1 c1_0 c1_1 l2 c2_0 c2_1 l3 c3_0 c3_1
    refine (heldSet_m w7.heap.size w8.heap.size rc1 (.slice A4_ r1.length c4_) r1.length m_O4 (1) w15 Hm_O4.out O4.out (by omega) (by omega) (by omega)).mono ?_
    rintro e w16 ⟨rfl, hB⟩
    replace b0 := b0.below hB b0.lt
    replace b1 := b1.below hB b1.lt
    replace b2 := b2.below hB b2.lt
    replace b3 := b3.below hB b3.lt
    replace O1 := Lib.hid (O1.out.to hB)
    replace O2 := Lib.hid (O2.out.to hB)
    replace O3 := Lib.hid (O3.out.to hB)
    replace O4 := Lib.hid (O4.out.to hB)
    replace O5 := Lib.hid (O5.out.to hB)
    have sw16 : w15.heap.size ≤ w16.heap.size := hB.size
    replace hE := Lib.hid (below_to hE.out hB)
    clear hB
    have l0 := b0.lt
    have c0_0 : w16.cell? ⟨w.heap.size, 0, none⟩ = some (.int .i64 C0) := b0.cell rfl
    have c0_1 : w16.cell? ⟨w.heap.size, 1, none⟩ = some (.slice A0 ts0.length c0) := b0.cell rfl
    have l1 := b1.lt
    have c1_0 : w16.cell? ⟨w4.heap.size, 0, none⟩ = some (.int .i64 rc1) := b1.cell rfl
    have c1_1 : w16.cell? ⟨w4.heap.size, 1, none⟩ = some (.slice A2_ r1.length c2_) := b1.cell rfl
    have l2 := b2.lt
    have c2_0 : w16.cell? ⟨w6.heap.size, 0, none⟩ = some (.int .i64 C0) := b2.cell rfl
    have c2_1 : w16.cell? ⟨w6.heap.size, 1, none⟩ = some (.slice A3_ ts0.length c3_) := b2.cell rfl
    have l3 := b3.lt
    have c3_0 : w16.cell? ⟨w8.heap.size, 0, none⟩ = some (.int .i64 rc1) := b3.cell rfl
    have c3_1 : w16.cell? ⟨w8.heap.size, 1, none⟩ = some (.slice A4_ r1.length c4_) := b3.cell rfl
    go_wp2_with fail
    clear l0 c0_0 c0_1 l1 c1_0 c1_1 l2 c2_0 c2_1 l3 c3_0 c3_1
    refine (toSet_any C0 A0 ts0 ts0.length c0 w16 rfl (HA0.out.below hE.out) (by omega)).mono ?_
    rintro e w17 ⟨v_, rfl, hO, hB⟩
    obtain ⟨A6_, c6_, rfl, -, -⟩ := hO.reads
    have O6 := Lib.hid (OW.of hO)
    clear hO
    replace b0 := b0.below hB b0.lt
    replace b1 := b1.below hB b1.lt
    replace b2 := b2.below hB b2.lt
    replace b3 := b3.below hB b3.lt
    replace O1 := Lib.hid (O1.out.to hB)
    replace O2 := Lib.hid (O2.out.to hB)
    replace O3 := Lib.hid (O3.out.to hB)
    replace O4 := Lib.hid (O4.out.to hB)
    replace O5 := Lib.hid (O5.out.to hB)
    have sw17 : w16.heap.size ≤ w17.heap.size := hB.size
    replace hE := Lib.hid (below_to hE.out hB)
    clear hB
    have l0 := b0.lt
    have c0_0 : w17.cell? ⟨w.heap.size, 0, none⟩ = some (.int .i64 C0) := b0.cell rfl
    have c0_1 : w17.cell? ⟨w.heap.size, 1, none⟩ = some (.slice A0 ts0.length c0) := b0.cell rfl
    have l1 := b1.lt
    have c1_0 : w17.cell? ⟨w4.heap.size, 0, none⟩ = some (.int .i64 rc1) := b1.cell rfl
    have c1_1 : w17.cell? ⟨w4.heap.size, 1, none⟩ = some (.slice A2_ r1.length c2_) := b1.cell rfl
    have l2 := b2.lt
    have c2_0 : w17.cell? ⟨w6.heap.size, 0, none⟩ = some (.int .i64 C0) := b2.cell rfl
    have c2_1 : w17.cell? ⟨w6.heap.size, 1, none⟩ = some (.slice A3_ ts0.length c3_) := b2.cell rfl
    have l3 := b3.lt
    have c3_0 : w17.cell? ⟨w8.heap.size, 0, none⟩ = some (.int .i64 rc1) := b3.cell rfl
    have c3_1 : w17.cell? ⟨w8.heap.size, 1, none⟩ = some (.slice A4_ r1.length c4_) := b3.cell rfl
    go_wp2_with fail
    clear l0 c0_0 c0_1 l1 c1_0 c1_1 l2 c2_0 c2_1 l3 c3_0 c3_1
    refine (implTransposedSet_any C0 A6_ ts0 ts0.length c6_ w17 rfl (rt_of O6.out rfl) (le_of O6.out) (by omega)).mono ?_
    rintro e w18 ⟨v0_, xc0_, x0_, x1_, hR_, rfl, hO0, hB⟩
    obtain ⟨rfl, rfl, rfl⟩ : rc1 = xc0_ ∧ r1 = x0_ ∧ r2 = x1_ := (by have h_ := HR.out.symm.trans hR_; simpa [and_assoc] using h_)
    clear hR_
    obtain ⟨A7_, c7_, rfl, -⟩ := hO0.form
    have O7 := Lib.hid hO0
    clear hO0
    replace b0 := b0.below hB b0.lt
    replace b1 := b1.below hB b1.lt
    replace b2 := b2.below hB b2.lt
    replace b3 := b3.below hB b3.lt
    replace O1 := Lib.hid (O1.out.to hB)
    replace O2 := Lib.hid (O2.out.to hB)
    replace O3 := Lib.hid (O3.out.to hB)
    replace O4 := Lib.hid (O4.out.to hB)
    replace O5 := Lib.hid (O5.out.to hB)
    replace O6 := Lib.hid (O6.out.to hB)
    have sw18 : w17.heap.size ≤ w18.heap.size := hB.size
    replace hE := Lib.hid (below_to hE.out hB)
    clear hB
    have l0 := b0.lt
    have c0_0 : w18.cell? ⟨w.heap.size, 0, none⟩ = some (.int .i64 C0) := b0.cell rfl
    have c0_1 : w18.cell? ⟨w.heap.size, 1, none⟩ = some (.slice A0 ts0.length c0) := b0.cell rfl
    have l1 := b1.lt
    have c1_0 : w18.cell? ⟨w4.heap.size, 0, none⟩ = some (.int .i64 rc1) := b1.cell rfl
    have c1_1 : w18.cell? ⟨w4.heap.size, 1, none⟩ = some (.slice A2_ r1.length c2_) := b1.cell rfl
    have l2 := b2.lt
    have c2_0 : w18.cell? ⟨w6.heap.size, 0, none⟩ = some (.int .i64 C0) := b2.cell rfl
    have c2_1 : w18.cell? ⟨w6.heap.size, 1, none⟩ = some (.slice A3_ ts0.length c3_) := b2.cell rfl
    have l3 := b3.lt
    have c3_0 : w18.cell? ⟨w8.heap.size, 0, none⟩ = some (.int .i64 rc1) := b3.cell rfl
    have c3_1 : w18.cell? ⟨w8.heap.size, 1, none⟩ = some (.slice A4_ r1.length c4_) := b3.cell rfl
    go_wp2_with fail
    clear l0 c0_0 c0_1 l1 c1_0 c1_1 l2 c2_0 c2_1 l3 c3_0 c3_1
    refine namec1 ?_
    intro w19 b4 hz hB
    have tw19 : w18.heap.size + 1 ≤ w19.heap.size := by omega
    clear hz
    replace b0 := b0.below hB b0.lt
    replace b1 := b1.below hB b1.lt
    replace b2 := b2.below hB b2.lt
    replace b3 := b3.below hB b3.lt
    replace O1 := Lib.hid (O1.out.to hB)
    replace O2 := Lib.hid (O2.out.to hB)
    replace O3 := Lib.hid (O3.out.to hB)
    replace O4 := Lib.hid (O4.out.to hB)
    replace O5 := Lib.hid (O5.out.to hB)
    replace O6 := Lib.hid (O6.out.to hB)
    replace O7 := Lib.hid (O7.out.to hB)
    have sw19 : w18.heap.size ≤ w19.heap.size := hB.size
    replace hE := Lib.hid (below_to hE.out hB)
    clear hB
    refine (eqSet_any rc1 rc1 A7_ A2_ r1 r1 r1.length r1.length c7_ c2_ w19 rfl rfl (rt_of O7.out rfl) (rt_of O2.out rfl) (by omega) (by omega)).mono ?_
    rintro e w20 ⟨rfl, hB⟩
    simp only [decide_true, Bool.and_self]
    replace b0 := b0.below hB b0.lt
    replace b1 := b1.below hB b1.lt
    replace b2 := b2.below hB b2.lt
    replace b3 := b3.below hB b3.lt
    replace b4 := b4.below hB b4.lt
    replace O1 := Lib.hid (O1.out.to hB)
    replace O2 := Lib.hid (O2.out.to hB)
    replace O3 := Lib.hid (O3.out.to hB)
    replace O4 := Lib.hid (O4.out.to hB)
    replace O5 := Lib.hid (O5.out.to hB)
    replace O6 := Lib.hid (O6.out.to hB)
    replace O7 := Lib.hid (O7.out.to hB)
    have sw20 : w19.heap.size ≤ w20.heap.size := hB.size
    replace hE := Lib.hid (below_to hE.out hB)
    clear hB
    have l0 := b0.lt
    have c0_0 : w20.cell? ⟨w.heap.size, 0, none⟩ = some (.int .i64 C0) := b0.cell rfl
    have c0_1 : w20.cell? ⟨w.heap.size, 1, none⟩ = some (.slice A0 ts0.length c0) := b0.cell rfl
    have l1 := b1.lt
    have c1_0 : w20.cell? ⟨w4.heap.size, 0, none⟩ = some (.int .i64 rc1) := b1.cell rfl
    have c1_1 : w20.cell? ⟨w4.heap.size, 1, none⟩ = some (.slice A2_ r1.length c2_) := b1.cell rfl
    have l2 := b2.lt
    have c2_0 : w20.cell? ⟨w6.heap.size, 0, none⟩ = some (.int .i64 C0) := b2.cell rfl
    have c2_1 : w20.cell? ⟨w6.heap.size, 1, none⟩ = some (.slice A3_ ts0.length c3_) := b2.cell rfl
    have l3 := b3.lt
    have c3_0 : w20.cell? ⟨w8.heap.size, 0, none⟩ = some (.int .i64 rc1) := b3.cell rfl
    have c3_1 : w20.cell? ⟨w8.heap.size, 1, none⟩ = some (.slice A4_ r1.length c4_) := b3.cell rfl
    have l4 := b4.lt
    have c4_0 : w20.cell? ⟨w18.heap.size, 0, none⟩ = some (.int .i64 rc1) := b4.cell rfl
    have c4_1 : w20.cell? ⟨w18.heap.size, 1, none⟩ = some (.slice A7_ r1.length c7_) := b4.cell rfl
    go_wp2_with fail
    clear l0 c0_0 c0_1 l1 c1_0 c1_1 l2 c2_0 c2_1 l3 c3_0 c3_1 l4 c4_0 c4_1
    refine (heldSet_m w7.heap.size w8.heap.size rc1 (.slice A4_ r1.length c4_) r1.length m_O4 (1) w20 Hm_O4.out O4.out (by omega) (by omega) (by omega)).mono ?_
    rintro e w21 ⟨rfl, hB⟩
    replace b0 := b0.below hB b0.lt
    replace b1 := b1.below hB b1.lt
    replace b2 := b2.below hB b2.lt
    replace b3 := b3.below hB b3.lt
    replace b4 := b4.below hB b4.lt
    replace O1 := Lib.hid (O1.out.to hB)
    replace O2 := Lib.hid (O2.out.to hB)
    replace O3 := Lib.hid (O3.out.to hB)
    replace O4 := Lib.hid (O4.out.to hB)
    replace O5 := Lib.hid (O5.out.to hB)
    replace O6 := Lib.hid (O6.out.to hB)
    replace O7 := Lib.hid (O7.out.to hB)
    have sw21 : w20.heap.size ≤ w21.heap.size := hB.size
    replace hE := Lib.hid (below_to hE.out hB)
    clear hB
    go_wp2_with fail
    go_ret
    exact ⟨rfl, hE.out⟩
end Go.Proofs.Ytnjmgmdpkogocaa

/-
  Parts of the proof, in their order: ExtS, P4, PTold, PAreSets, QImplJoinSets, PJoin, LawJoinSets.
-/
import Derived.Test.YtnjmgmdpkogocaaPk18
import Derived.Test.YtnjmgmdpkogocaaPk16
import Derived.Test.YtnjmgmdpkogocaaPk8
import Derived.Test.YtnjmgmdpkogocaaPk6
import Derived.Test.YtnjmgmdpkogocaaPk11
import Derived.Test.YtnjmgmdpkogocaaWMore
import Derived.Test.YtnjmgmdpkogocaaPk17
import Derived.Test.YtnjmgmdpkogocaaPk5
import Derived.Deep.RegionHeld3
/-
  Contracts of functions that make sets, in the form of the printed ones.
-/
namespace Go.Proofs.Ytnjmgmdpkogocaa
open Go Go.RowKit Go.Proofs Go.Proofs.YtnjmgmdpkogocaaW.PrintWords Go.Proofs.Ytnjmgmdpkogocaa.Q
set_option linter.unusedVariables false
set_option linter.unusedSimpArgs false
theorem R_of_OT {w : World} {base : Nat} {e : TypeId} {v : Value} {ts : List T4} (h : OT w base e v ts) : Kd.R k45 e w base (fun _ => True) v (ts.map toS) := by
  refine ⟨fun _ _ => trivial, tcells ts, ?_, ?_, fun j p hp => ?_⟩
  · rw [List.length_map]; exact h
  · rw [tcells_length, List.length_map]; rfl
  · have hj := (List.getElem?_eq_some_iff.1 hp).1
    rw [List.length_map] at hj
    have hp' : p = toS (tk ts j) := by
      rw [List.getElem?_map, List.getElem?_eq_getElem hj] at hp
      simp only [Option.map_some, Option.some.injEq] at hp
      rw [← hp]; simp [tk, List.getD, List.getElem?_eq_getElem hj]
    subst hp'
    have e4 : k45.sz = 4 := rfl
    have hc : ((tcells ts).drop (j * 4)).take 4 = [.int .i64 (toS (tk ts j)).f0, .int .i64 (toS (tk ts j)).f1, .int .i64 (toS (tk ts j)).f2, .int .i64 (toS (tk ts j)).f3] := by
      apply List.ext_getElem?
      intro i
      rw [List.getElem?_take, List.getElem?_drop]
      match i with
      | 0 => rw [if_pos (by omega), tcells_get hj (by omega)]; rfl
      | 1 => rw [if_pos (by omega), tcells_get hj (by omega)]; rfl
      | 2 => rw [if_pos (by omega), tcells_get hj (by omega)]; rfl
      | 3 => rw [if_pos (by omega), tcells_get hj (by omega)]; rfl
      | i + 4 => rw [if_neg (by omega)]; simp
    rw [e4, hc]
    exact k45_mk w (toS (tk ts j))
theorem R_of_OW {w : World} {base hi : Nat} {e : TypeId} {v : Value} {ts : List T4} {n : Nat} (h : OW w base hi e 4 v n (tcells ts)) (hn : n = ts.length) : Kd.R k45 e w base (fun _ => True) v (ts.map toS) := by
  subst hn
  exact R_of_OT h.own
theorem ow_of_RT {w : World} {base : Nat} {e : TypeId} {v : Value} {ts : List T4} {ok : Nat → Prop} (h : Kd.R k45 e w base ok v (ts.map toS)) : OW w base w.heap.size e 4 v ts.length (tcells ts) := by
  obtain ⟨-, inner, ho, hr⟩ := h
  have e4 : k45.sz = 4 := rfl
  rw [List.length_map, e4] at ho
  have hl : inner.length = ts.length * 4 := by have := hr.1; rw [List.length_map, e4] at this; exact this
  have : inner = tcells ts := by
    apply List.ext_getElem?
    intro j
    by_cases hj : j < ts.length * 4
    · obtain ⟨q, r, rfl, hr4⟩ : ∃ q r, j = q * 4 + r ∧ r < 4 := ⟨j / 4, j % 4, by omega, by omega⟩
      have hq : q < ts.length := by omega
      have h2 := hr.2 q (toS (tk ts q)) (by rw [List.getElem?_map, List.getElem?_eq_getElem hq]; simp [tk, List.getD, List.getElem?_eq_getElem hq])
      have h3 := k45_open (k45.K_of_M h2)
      rw [e4] at h3
      have h4 : inner[q * 4 + r]? = ((inner.drop (q * 4)).take 4)[r]? := by rw [List.getElem?_take, if_pos hr4, List.getElem?_drop]
      rw [h4, h3, tcells_get hq hr4]
      have : r = 0 ∨ r = 1 ∨ r = 2 ∨ r = 3 := by omega
      rcases this with rfl | rfl | rfl | rfl <;> rfl
    · rw [List.getElem?_eq_none (by omega), List.getElem?_eq_none (by rw [tcells_length]; omega)]
  subst this
  exact OW.of ho
end Go.Proofs.Ytnjmgmdpkogocaa
namespace Go.Proofs.Ytnjmgmdpkogocaa.Q
open Go Go.RowKit Go.Proofs Go.Proofs.YtnjmgmdpkogocaaW.PrintWords Go.Proofs.Ytnjmgmdpkogocaa
set_option linter.unusedVariables false
set_option linter.unusedSimpArgs false

def lim6 (n : Nat) : Bool := decide (n ≤ 1000000)
def spec_l01Made.f (a0 : Int) (l1 : List STile) : Option (Int × List STile) := if lim6 l1.length = true then some (a0, (sortT (l1.map toT)).map toS) else none
theorem spec_l01Made.calls (a0 : Int) (A1 : Option Addr) (c1 : Nat) (l1 : List STile) (r1 : Int) (r2 : List STile) (w : World) (hr1 : Kd.C k45 w A1 l1.length l1) (hc1 : l1.length ≤ c1) (h : spec_l01Made.f a0 l1 = some (r1, r2)) :
    Calls Try.prog 52 #[.int .i64 a0, .slice A1 l1.length c1] w fun e w' => ∃ v1_ : Value, e = .returned (.agg #[.int .i64 r1, v1_]) ∧ Kd.R k45 45 w' w.heap.size (fun _ => True) v1_ r2 ∧ Below w.heap.size w w' := by
  unfold spec_l01Made.f at h
  split at h
  · rename_i hl
    obtain ⟨rfl, rfl⟩ := Prod.mk.inj (Option.some.inj h)
    refine (l01Made_any a0 A1 (l1.map toT) _ c1 w (by simp) (rt_of_C hr1) (by simpa [lim6] using hl)).mono ?_
    rintro e w' ⟨g, ln, c', rfl, hln, hO, hB⟩
    have e1 : sortK (l1.map toT) l1.length = sortT (l1.map toT) := by unfold sortT; rw [List.length_map]
    rw [e1] at hln hO
    exact ⟨_, rfl, R_of_OW hO hln, hB⟩
  · cases h
def spec_l01Flipped.f (a0_0 : Int) (l0_1 : List STile) : Option (Int × List STile) := if lim6 l0_1.length = true then some (a0_0, (sortT ((l0_1.map toT).map (sidesT 0 3 2 1))).map toS) else none
theorem spec_l01Flipped.calls (a0_0 : Int) (A0_1 : Option Addr) (c0_1 : Nat) (l0_1 : List STile) (r1 : Int) (r2 : List STile) (w : World) (hr0_1 : Kd.C k45 w A0_1 l0_1.length l0_1) (hc0_1 : l0_1.length ≤ c0_1) (h : spec_l01Flipped.f a0_0 l0_1 = some (r1, r2)) :
    Calls Try.prog 64 #[.agg #[.int .i64 a0_0, .slice A0_1 l0_1.length c0_1]] w fun e w' => ∃ v1_ : Value, e = .returned (.agg #[.int .i64 r1, v1_]) ∧ Kd.R k45 45 w' w.heap.size (fun _ => True) v1_ r2 ∧ Below w.heap.size w w' := by
  unfold spec_l01Flipped.f at h
  split at h
  · rename_i hl
    obtain ⟨rfl, rfl⟩ := Prod.mk.inj (Option.some.inj h)
    refine (l01Flipped_any a0_0 A0_1 (l0_1.map toT) _ c0_1 w (by simp) (rt_of_C hr0_1) (by simpa [lim6] using hl)).mono ?_
    rintro e w' ⟨g, ln, c', rfl, hln, hO, hB⟩
    exact ⟨_, rfl, R_of_OW hO hln, hB⟩
  · cases h
def spec_l01Mirrored.f (a0_0 : Int) (l0_1 : List STile) : Option (Int × List STile) := if lim6 l0_1.length = true then some (a0_0, (sortT ((l0_1.map toT).map (sidesT 2 1 0 3))).map toS) else none
theorem spec_l01Mirrored.calls (a0_0 : Int) (A0_1 : Option Addr) (c0_1 : Nat) (l0_1 : List STile) (r1 : Int) (r2 : List STile) (w : World) (hr0_1 : Kd.C k45 w A0_1 l0_1.length l0_1) (hc0_1 : l0_1.length ≤ c0_1) (h : spec_l01Mirrored.f a0_0 l0_1 = some (r1, r2)) :
    Calls Try.prog 67 #[.agg #[.int .i64 a0_0, .slice A0_1 l0_1.length c0_1]] w fun e w' => ∃ v1_ : Value, e = .returned (.agg #[.int .i64 r1, v1_]) ∧ Kd.R k45 45 w' w.heap.size (fun _ => True) v1_ r2 ∧ Below w.heap.size w w' := by
  unfold spec_l01Mirrored.f at h
  split at h
  · rename_i hl
    obtain ⟨rfl, rfl⟩ := Prod.mk.inj (Option.some.inj h)
    refine (l01Mirrored_any a0_0 A0_1 (l0_1.map toT) _ c0_1 w (by simp) (rt_of_C hr0_1) (by simpa [lim6] using hl)).mono ?_
    rintro e w' ⟨g, ln, c', rfl, hln, hO, hB⟩
    exact ⟨_, rfl, R_of_OW hO hln, hB⟩
  · cases h
def spec_l01Turned.f (a0_0 : Int) (l0_1 : List STile) : Option (Int × List STile) := if lim6 l0_1.length = true then some (a0_0, (sortT ((l0_1.map toT).map (sidesT 3 0 1 2))).map toS) else none
theorem spec_l01Turned.calls (a0_0 : Int) (A0_1 : Option Addr) (c0_1 : Nat) (l0_1 : List STile) (r1 : Int) (r2 : List STile) (w : World) (hr0_1 : Kd.C k45 w A0_1 l0_1.length l0_1) (hc0_1 : l0_1.length ≤ c0_1) (h : spec_l01Turned.f a0_0 l0_1 = some (r1, r2)) :
    Calls Try.prog 61 #[.agg #[.int .i64 a0_0, .slice A0_1 l0_1.length c0_1]] w fun e w' => ∃ v1_ : Value, e = .returned (.agg #[.int .i64 r1, v1_]) ∧ Kd.R k45 45 w' w.heap.size (fun _ => True) v1_ r2 ∧ Below w.heap.size w w' := by
  unfold spec_l01Turned.f at h
  split at h
  · rename_i hl
    obtain ⟨rfl, rfl⟩ := Prod.mk.inj (Option.some.inj h)
    refine (l01Turned_any a0_0 A0_1 (l0_1.map toT) _ c0_1 w (by simp) (rt_of_C hr0_1) (by simpa [lim6] using hl)).mono ?_
    rintro e w' ⟨g, ln, c', rfl, hln, hO, hB⟩
    exact ⟨_, rfl, R_of_OW hO hln, hB⟩
  · cases h
def spec_l01Transposed.f (a0_0 : Int) (l0_1 : List STile) : Option (Int × List STile) := if lim6 l0_1.length = true then some (a0_0, (sortT ((l0_1.map toT).map (sidesT 1 0 3 2))).map toS) else none
theorem spec_l01Transposed.calls (a0_0 : Int) (A0_1 : Option Addr) (c0_1 : Nat) (l0_1 : List STile) (r1 : Int) (r2 : List STile) (w : World) (hr0_1 : Kd.C k45 w A0_1 l0_1.length l0_1) (hc0_1 : l0_1.length ≤ c0_1) (h : spec_l01Transposed.f a0_0 l0_1 = some (r1, r2)) :
    Calls Try.prog 69 #[.agg #[.int .i64 a0_0, .slice A0_1 l0_1.length c0_1]] w fun e w' => ∃ v1_ : Value, e = .returned (.agg #[.int .i64 r1, v1_]) ∧ Kd.R k45 45 w' w.heap.size (fun _ => True) v1_ r2 ∧ Below w.heap.size w w' := by
  unfold spec_l01Transposed.f at h
  split at h
  · rename_i hl
    obtain ⟨rfl, rfl⟩ := Prod.mk.inj (Option.some.inj h)
    refine (l01Transposed_any a0_0 A0_1 (l0_1.map toT) _ c0_1 w (by simp) (rt_of_C hr0_1) (by simpa [lim6] using hl)).mono ?_
    rintro e w' ⟨g, ln, c', rfl, hln, hO, hB⟩
    exact ⟨_, rfl, R_of_OW hO hln, hB⟩
  · cases h
def impl_Tile_sides.f (a0_0 a0_1 a0_2 a0_3 a1 a2 a3 a4 : Int) : Option (Int × Int × Int × Int) :=
  if a1 = 0 ∧ a2 = 3 ∧ a3 = 2 ∧ a4 = 1 then some (a0_0, a0_3, a0_2, a0_1) else if a1 = 2 ∧ a2 = 1 ∧ a3 = 0 ∧ a4 = 3 then some (a0_2, a0_1, a0_0, a0_3) else
  if a1 = 3 ∧ a2 = 0 ∧ a3 = 1 ∧ a4 = 2 then some (a0_3, a0_0, a0_1, a0_2) else if a1 = 1 ∧ a2 = 0 ∧ a3 = 3 ∧ a4 = 2 then some (a0_1, a0_0, a0_3, a0_2) else none
theorem impl_Tile_sides.calls (a0_0 a0_1 a0_2 a0_3 a1 a2 a3 a4 : Int) (r1 r2 r3 r4 : Int) (w : World) (h : impl_Tile_sides.f a0_0 a0_1 a0_2 a0_3 a1 a2 a3 a4 = some (r1, r2, r3, r4)) :
    Calls Try.prog 66 #[.agg #[.int .i64 a0_0, .int .i64 a0_1, .int .i64 a0_2, .int .i64 a0_3], .int .i64 a1, .int .i64 a2, .int .i64 a3, .int .i64 a4] w fun e w' => e = .returned (.agg #[.int .i64 r1, .int .i64 r2, .int .i64 r3, .int .i64 r4]) ∧ Below w.heap.size w w' := by
  unfold impl_Tile_sides.f at h
  split at h
  · rename_i hq
    obtain ⟨rfl, rfl, rfl, rfl⟩ := hq
    simp only [Option.some.injEq, Prod.mk.injEq] at h
    obtain ⟨rfl, rfl, rfl, rfl⟩ := h
    exact sides_any a0_0 a0_1 a0_2 a0_3 _ _ _ _ 0 3 2 1 w (by decide) (by decide) (by decide) (by decide) rfl rfl rfl rfl
  · skip
    split at h
    · rename_i hq
      obtain ⟨rfl, rfl, rfl, rfl⟩ := hq
      simp only [Option.some.injEq, Prod.mk.injEq] at h
      obtain ⟨rfl, rfl, rfl, rfl⟩ := h
      exact sides_any a0_0 a0_1 a0_2 a0_3 _ _ _ _ 2 1 0 3 w (by decide) (by decide) (by decide) (by decide) rfl rfl rfl rfl
    · skip
      split at h
      · rename_i hq
        obtain ⟨rfl, rfl, rfl, rfl⟩ := hq
        simp only [Option.some.injEq, Prod.mk.injEq] at h
        obtain ⟨rfl, rfl, rfl, rfl⟩ := h
        exact sides_any a0_0 a0_1 a0_2 a0_3 _ _ _ _ 3 0 1 2 w (by decide) (by decide) (by decide) (by decide) rfl rfl rfl rfl
      · skip
        split at h
        · rename_i hq
          obtain ⟨rfl, rfl, rfl, rfl⟩ := hq
          simp only [Option.some.injEq, Prod.mk.injEq] at h
          obtain ⟨rfl, rfl, rfl, rfl⟩ := h
          exact sides_any a0_0 a0_1 a0_2 a0_3 _ _ _ _ 1 0 3 2 w (by decide) (by decide) (by decide) (by decide) rfl rfl rfl rfl
        · cases h
def impl_limited.f (a0 : Int) (l1 : List STile) : Option (Int × List STile × Int) := if lim6 l1.length = true then some ((limR a0 (l1.map toT)).1.1, (limR a0 (l1.map toT)).1.2.map toS, (limR a0 (l1.map toT)).2) else none
theorem impl_limited.calls (a0 : Int) (A1 : Option Addr) (c1 : Nat) (l1 : List STile) (r1 : Int) (r2 : List STile) (r3 : Int) (w : World) (hr1 : Kd.C k45 w A1 l1.length l1) (hc1 : l1.length ≤ c1) (h : impl_limited.f a0 l1 = some (r1, r2, r3)) :
    Calls Try.prog 57 #[.int .i64 a0, .slice A1 l1.length c1] w fun e w' => ∃ v1_ : Value, e = .returned (.tuple #[.agg #[.int .i64 r1, v1_], .int .i64 r3]) ∧ Kd.R k45 45 w' w.heap.size (fun _ => True) v1_ r2 ∧ Below w.heap.size w w' := by
  unfold impl_limited.f at h
  split at h
  · rename_i hl
    simp only [Option.some.injEq, Prod.mk.injEq] at h
    obtain ⟨rfl, rfl, rfl⟩ := h
    refine (limited_any a0 A1 (l1.map toT) _ c1 w (by simp) (rt_of_C hr1) (by simpa [lim6] using hl)).mono ?_
    rintro e w' ⟨v, xc, xs, code, hR, rfl, hO, hB⟩
    rw [hR]
    exact ⟨_, rfl, R_of_OW hO rfl, hB⟩
  · cases h
def spec_l01Has.f (a0_0 : Int) (l0_1 : List STile) (a1_0 a1_1 a1_2 a1_3 : Int) : Option Bool := if inLim l0_1.length = true then some (hasT (l0_1.map toT) ⟨a1_0, a1_1, a1_2, a1_3⟩) else none
theorem spec_l01Has.calls (a0_0 : Int) (A0_1 : Option Addr) (c0_1 : Nat) (l0_1 : List STile) (a1_0 a1_1 a1_2 a1_3 : Int) (r : Bool) (w : World) (hr0_1 : Kd.C k45 w A0_1 l0_1.length l0_1) (hc0_1 : l0_1.length ≤ c0_1) (h : spec_l01Has.f a0_0 l0_1 a1_0 a1_1 a1_2 a1_3 = some r) :
    Calls Try.prog 76 #[.agg #[.int .i64 a0_0, .slice A0_1 l0_1.length c0_1], .agg #[.int .i64 a1_0, .int .i64 a1_1, .int .i64 a1_2, .int .i64 a1_3]] w fun e w' => e = .returned (.bool r) ∧ Below w.heap.size w w' := by
  unfold spec_l01Has.f at h
  split at h
  · rename_i hl
    obtain rfl := Option.some.inj h
    exact l01Has_any a0_0 A0_1 (l0_1.map toT) _ c0_1 ⟨a1_0, a1_1, a1_2, a1_3⟩ w (by simp) (rt_of_C hr0_1) (by simpa [inLim] using hl)
  · cases h
def slices_Contains_impl_Tile_impl_Tile.f (l0 : List STile) (a1_0 a1_1 a1_2 a1_3 : Int) : Option Bool := if inLim l0.length = true then some (hasT (l0.map toT) ⟨a1_0, a1_1, a1_2, a1_3⟩) else none
theorem slices_Contains_impl_Tile_impl_Tile.calls (A0 : Option Addr) (c0 : Nat) (l0 : List STile) (a1_0 a1_1 a1_2 a1_3 : Int) (r : Bool) (w : World) (hr0 : Kd.C k45 w A0 l0.length l0) (hc0 : l0.length ≤ c0) (h : slices_Contains_impl_Tile_impl_Tile.f l0 a1_0 a1_1 a1_2 a1_3 = some r) :
    Calls Try.prog 79 #[.slice A0 l0.length c0, .agg #[.int .i64 a1_0, .int .i64 a1_1, .int .i64 a1_2, .int .i64 a1_3]] w fun e w' => e = .returned (.bool r) ∧ Below w.heap.size w w' := by
  unfold slices_Contains_impl_Tile_impl_Tile.f at h
  split at h
  · rename_i hl
    obtain rfl := Option.some.inj h
    exact ContainsT_any A0 (l0.map toT) _ c0 ⟨a1_0, a1_1, a1_2, a1_3⟩ w (by simp) (rt_of_C hr0) (by simpa [inLim] using hl)
  · cases h
theorem CloneNil_any (c : Nat) (w : World) : Calls Try.prog 72 #[.slice none 0 c] w fun e w' => e = .returned (.slice none 0 0) ∧ Below w.heap.size w w' := by
  have hEQ := fun w => Lib.run_eql_slice_nil (P := Try.prog) w 24 45 none 0 c 0 0 Try.underlying24
  simp only [Option.isNone_none] at hEQ
  go_enter Try.func72, Try.ntmps72
  go_wp2_with fail
  go_ret
  exact ⟨rfl, Below.refl _ _⟩
def slices_Clone_impl_Tile_impl_Tile.f (l0 : List STile) : Option (List STile) := if lim6 l0.length = true then some l0 else none
theorem slices_Clone_impl_Tile_impl_Tile.calls (A0 : Option Addr) (c0 : Nat) (l0 : List STile) (r : List STile) (w : World) (hr0 : Kd.C k45 w A0 l0.length l0) (hc0 : l0.length ≤ c0) (h : slices_Clone_impl_Tile_impl_Tile.f l0 = some r) :
    Calls Try.prog 72 #[.slice A0 l0.length c0] w fun e w' => ∃ v, e = .returned v ∧ Kd.R k45 45 w' w.heap.size (fun _ => True) v r ∧ Below w.heap.size w w' := by
  unfold slices_Clone_impl_Tile_impl_Tile.f at h
  split at h
  · rename_i hl
    obtain rfl := Option.some.inj h
    cases A0 with
    | none =>
      have hn : l0.length = 0 := by
        rcases Nat.eq_zero_or_pos l0.length with h0 | h0
        · exact h0
        · obtain ⟨ad, e, -⟩ := hr0.2.2 h0
          cases e
      obtain rfl := List.eq_nil_of_length_eq_zero hn
      refine (CloneNil_any c0 w).mono ?_
      rintro e w' ⟨rfl, hB⟩
      exact ⟨_, rfl, Kd.R_nil _ _ _ _ _, hB⟩
    | some ad =>
      refine (CloneT_any ad (l0.map toT) _ c0 w (by simp) (rt_of_C hr0) (by simpa [lim6] using hl)).mono ?_
      rintro e w' ⟨g, c', rfl, hO, hB⟩
      have := R_of_OT hO
      rw [map_toST] at this
      exact ⟨_, rfl, this, hB⟩
  · cases h
end Go.Proofs.Ytnjmgmdpkogocaa.Q

/-
  Plain: sets whose tiles are laid in another way.
-/
namespace Go.Proofs.Ytnjmgmdpkogocaa
open Go Go.RowKit Go.Proofs Go.Proofs.YtnjmgmdpkogocaaW.PrintWords Go.Proofs.YtnjmgmdpkogocaaW.PrintMore Go.Proofs.Ytnjmgmdpkogocaa.Q
set_option linter.unusedVariables false
set_option linter.unusedSimpArgs false

theorem wrap_succ (m : Nat) (h : m < 1000000000) : wrap64 ((m : Int) + 1) = ((m + 1 : Nat) : Int) := by unfold wrap64; omega
theorem rdT_get (l : List STile) (i : Nat) (h : i < l.length) : rd_T45 l (i : Int) = l[i] := by simp [rd_T45, List.getD, List.getElem?_eq_getElem h]
theorem sortT_len (ts : List T4) : (sortT ts).length ≤ ts.length := sortK_len ts ts.length
theorem isS_lens {C : Int} {ts : List T4} (h : isS C ts = true) : 1 ≤ C ∧ C ≤ 6 ∧ ts.length ≤ 16 := by
  simp only [isS, Bool.and_eq_true, inB, decide_eq_true_eq] at h
  omega
/-- a set's tiles laid in another way -/
def wayR (p : T4 → T4) (C : Int) (ts : List T4) : (Int × List T4) × Int := if isS C ts = true then ((C, sortT (ts.map p)), 0) else ((0, []), 1)
/-- a result in the form of the printed ones -/
def flat (r : (Int × List T4) × Int) : Int × List STile × Int := (r.1.1, r.1.2.map toS, r.2)
theorem limR_in {C : Int} {ts : List T4} (hC : C ≤ 6) (h : ts.length ≤ 16) : limR C ts = ((C, sortT ts), 0) := by
  have := sortT_len ts
  unfold limR
  rw [if_pos (by simp; omega)]
theorem limited_f (C : Int) (l : List STile) (h : l.length ≤ 1000000) : impl_limited.f C l = some (flat (limR C (l.map toT))) := by
  unfold impl_limited.f flat
  rw [if_pos (by simpa [lim6] using h)]
theorem wayR_len (p : T4 → T4) (C : Int) (ts : List T4) : (wayR p C ts).1.2.length ≤ 1048576 := by
  unfold wayR
  split
  · rename_i h
    have h1 := isS_lens h
    have h2 := sortT_len (ts.map p)
    rw [List.length_map] at h2
    show (sortT (ts.map p)).length ≤ _
    omega
  · simp
end Go.Proofs.Ytnjmgmdpkogocaa

/-
  Plain: sets made by the reference, within the limits or not.
-/
namespace Go.Proofs.Ytnjmgmdpkogocaa
open Go Go.RowKit Go.Proofs Go.Proofs.YtnjmgmdpkogocaaW.PrintWords Go.Proofs.YtnjmgmdpkogocaaW.PrintMore Go.Proofs.Ytnjmgmdpkogocaa.Q
set_option linter.unusedVariables false
set_option linter.unusedSimpArgs false

theorem told_f (C : Int) (us : List T4) : spec_l01Told.f C (us.map toS) = some (flat (if (decide (C ≤ 6) && decide (us.length ≤ 16)) = true then ((C, us), 0) else ((0, []), 3))) := by
  unfold spec_l01Told.f flat
  rw [List.length_map]
  by_cases h1 : C ≤ 6
  · rw [if_neg (show ¬ C > 6 by omega)]
    by_cases h2 : us.length ≤ 16
    · rw [if_neg (show ¬ (us.length : Int) > 16 by omega), if_pos (by simp [h1, h2])]
    · rw [if_pos (show (us.length : Int) > 16 by omega), if_neg (by simp [h2])]; rfl
  · rw [if_pos (show C > 6 by omega), if_neg (by simp [h1])]; rfl
theorem specMade_f (C : Int) (l : List STile) (h : l.length ≤ 1000000) : spec_l01Made.f C l = some (C, (sortT (l.map toT)).map toS) := by
  unfold spec_l01Made.f
  rw [if_pos (by simpa [lim6] using h)]
end Go.Proofs.Ytnjmgmdpkogocaa

/-
  Plain: two sets; ascending tiles.
-/
namespace Go.Proofs.Ytnjmgmdpkogocaa
open Go Go.RowKit Go.Proofs Go.Proofs.YtnjmgmdpkogocaaW.PrintWords Go.Proofs.YtnjmgmdpkogocaaW.PrintMore Go.Proofs.Ytnjmgmdpkogocaa.Q
set_option linter.unusedVariables false
set_option linter.unusedSimpArgs false

abbrev SSet := Q.S26
theorem wy0 : wrap64 (0 + 1) = 1 := by unfold wrap64; omega
theorem wy1 : wrap64 (1 + 1) = 2 := by unfold wrap64; omega
theorem areOne (C : Int) (l : List STile) (hl : l.length ≤ 35184372088832) : impl_areSets_1.f C l = some (!isS C (l.map toT)) := by
  have hin : inLim l.length = true := by simpa [inLim] using hl
  rw [impl_areSets_1.f, impl_IsSet.f, if_pos hin]; rfl
theorem areSets_ev (C : Int) (l : List STile) (D : Int) (u : List STile) (hl : l.length ≤ 35184372088832) (hu : u.length ≤ 35184372088832) :
    Ev (fun k => impl_areSets.f k [(⟨C, l⟩ : SSet), (⟨D, u⟩ : SSet)]) (isS C (l.map toT) && isS D (u.map toT)) := by
  have hidx : ∃ j : Int, Ev (fun k => impl_Set_112_at_impl_areSets_1.f k [(⟨C, l⟩ : SSet), (⟨D, u⟩ : SSet)]) j ∧ (!decide (j ≥ 0)) = (isS C (l.map toT) && isS D (u.map toT)) := by
    have r0 : ∀ k, impl_Set_112_at_impl_areSets_1.l0 (k + 1) [(⟨C, l⟩ : SSet), (⟨D, u⟩ : SSet)] 2 0 = (impl_areSets_1.f C l).bind fun t => if t = true then some 0 else impl_Set_112_at_impl_areSets_1.l0 k [(⟨C, l⟩ : SSet), (⟨D, u⟩ : SSet)] 2 1 := by
      intro k
      rw [impl_Set_112_at_impl_areSets_1.l0, if_pos (by decide), if_pos (by decide), if_pos (by simp), wy0]; rfl
    have r1 : ∀ k, impl_Set_112_at_impl_areSets_1.l0 (k + 1) [(⟨C, l⟩ : SSet), (⟨D, u⟩ : SSet)] 2 1 = (impl_areSets_1.f D u).bind fun t => if t = true then some 1 else impl_Set_112_at_impl_areSets_1.l0 k [(⟨C, l⟩ : SSet), (⟨D, u⟩ : SSet)] 2 2 := by
      intro k
      rw [impl_Set_112_at_impl_areSets_1.l0, if_pos (by decide), if_pos (by decide), if_pos (by simp), wy1]; rfl
    have r2 : ∀ k, impl_Set_112_at_impl_areSets_1.l0 (k + 1) [(⟨C, l⟩ : SSet), (⟨D, u⟩ : SSet)] 2 2 = some (-1) := by
      intro k
      rw [impl_Set_112_at_impl_areSets_1.l0, if_neg (by decide)]
    have e0 : ∀ k, impl_Set_112_at_impl_areSets_1.f k [(⟨C, l⟩ : SSet), (⟨D, u⟩ : SSet)] = impl_Set_112_at_impl_areSets_1.l0 k [(⟨C, l⟩ : SSet), (⟨D, u⟩ : SSet)] 2 0 := fun k => by rw [impl_Set_112_at_impl_areSets_1.f]; rfl
    cases h1 : isS C (l.map toT)
    · refine ⟨0, Ev.congr e0 (Ev.step (f := fun _ => some 0) (fun k => ?_) (Ev.now _)), rfl⟩
      rw [r0, areOne C l hl, h1]; rfl
    · cases h2 : isS D (u.map toT)
      · refine ⟨1, Ev.congr e0 (Ev.step (f := fun k => impl_Set_112_at_impl_areSets_1.l0 k [(⟨C, l⟩ : SSet), (⟨D, u⟩ : SSet)] 2 1) (fun k => ?_) (Ev.step (f := fun _ => some 1) (fun k => ?_) (Ev.now _))), rfl⟩
        · rw [r0, areOne C l hl, h1]; rfl
        · rw [r1, areOne D u hu, h2]; rfl
      · refine ⟨-1, Ev.congr e0 (Ev.step (f := fun k => impl_Set_112_at_impl_areSets_1.l0 k [(⟨C, l⟩ : SSet), (⟨D, u⟩ : SSet)] 2 1) (fun k => ?_) (Ev.step (f := fun k => impl_Set_112_at_impl_areSets_1.l0 k [(⟨C, l⟩ : SSet), (⟨D, u⟩ : SSet)] 2 2) (fun k => ?_) (Ev.step (f := fun _ => some (-1)) (fun k => ?_) (Ev.now _)))), rfl⟩
        · rw [r0, areOne C l hl, h1]; rfl
        · rw [r1, areOne D u hu, h2]; rfl
        · rw [r2]
  obtain ⟨j, hj, hd⟩ := hidx
  refine Ev.congr (f := fun k => (impl_Set_97_at_impl_areSets_1.f k [(⟨C, l⟩ : SSet), (⟨D, u⟩ : SSet)]).bind fun t => some (!t)) (fun k => by rw [impl_areSets.f]) ?_
  refine Ev.bind (a := decide (j ≥ 0)) ?_ (Ev.congr (fun k => by rw [hd]) (Ev.now _))
  exact Ev.congr (f := fun k => (impl_Set_112_at_impl_areSets_1.f k [(⟨C, l⟩ : SSet), (⟨D, u⟩ : SSet)]).bind fun t => some (decide (t ≥ 0))) (fun k => by rw [impl_Set_97_at_impl_areSets_1.f]) (Ev.bind hj (Ev.now _))
/-- a set, if it has not too many colours and tiles -/
def toldR (C : Int) (us : List T4) : (Int × List T4) × Int := if (decide (C ≤ 6) && decide (us.length ≤ 16)) = true then ((C, us), 0) else ((0, []), 3)
theorem told_f2 (C : Int) (l : List STile) : spec_l01Told.f C l = some (flat (toldR C (l.map toT))) := by
  have := told_f C (l.map toT)
  rwa [map_toST] at this
theorem limR_told (C : Int) (ts : List T4) : limR C ts = toldR C (sortT ts) := rfl
theorem asc_chain {ts : List T4} (h : ∀ k, k + 1 < ts.length → ltT (tk ts k) (tk ts (k + 1)) = true) : Asc ts := by
  have go : ∀ d i, i + d + 1 < ts.length → ltT (tk ts i) (tk ts (i + d + 1)) = true := by
    intro d
    induction d with
    | zero => intro i hi; exact h i hi
    | succ d ih => intro i hi; exact ltT_trans (ih i (by omega)) (h (i + d + 1) (by omega))
  unfold Asc
  rw [List.pairwise_iff_getElem]
  intro i j hi hj hij
  rw [tk_at hi, tk_at hj]
  obtain ⟨d, rfl⟩ : ∃ d, j = i + d + 1 := ⟨j - i - 1, by omega⟩
  exact go d i hj
theorem isS_asc {C : Int} {ts : List T4} (h : isS C ts = true) : Asc ts := by
  obtain ⟨-, -, h3⟩ := isS_iff.1 h
  exact asc_chain fun k hk => (h3 (k + 1) hk).2 (Nat.succ_pos k)
theorem isS_cols {C : Int} {ts : List T4} (h : isS C ts = true) : ∀ t ∈ ts, (0 ≤ t.a ∧ t.a < C) ∧ (0 ≤ t.b ∧ t.b < C) ∧ (0 ≤ t.c ∧ t.c < C) ∧ (0 ≤ t.d ∧ t.d < C) := by
  obtain ⟨-, -, h3⟩ := isS_iff.1 h
  intro t ht
  obtain ⟨i, hi, rfl⟩ := List.mem_iff_getElem.1 ht
  have := (h3 i hi).1
  rw [← tk_at hi] at this
  simp only [tileB, Bool.and_eq_true, inB_iff, T4.get] at this
  simp at this
  omega
theorem RT.block {w w' : World} {A : Option Addr} {ts : List T4} (h : RT w A ts) (hW : ∀ k, k < w.heap.size → w'.heap[k]? = w.heap[k]?) : RT w' A ts := by
  intro k hk
  obtain ⟨b, o, e, hlt, h0, h1, h2, h3⟩ := h k hk
  have hb := hW b hlt
  exact ⟨b, o, e, heap_lt hb hlt, (World.cell?_of_block (w := w) hb).trans h0, (World.cell?_of_block (w := w) hb).trans h1, (World.cell?_of_block (w := w) hb).trans h2, (World.cell?_of_block (w := w) hb).trans h3⟩
theorem V_of_rt {w : World} {A : Option Addr} {ts : List T4} {base c : Nat} (h : RT w A ts) (hl : ts.length ≤ 9223372036854775807) (hc : ts.length ≤ c) : Kd.V k45 45 w base (fun k_ => (fun _ => True : Nat → Prop) k_) (.slice A (ts.map toS).length c) (ts.map toS) :=
  Kd.V_mk (by simpa using hc) (fun W' hW => C_of_rt (h.block (fun k hk => hW k trivial hk)) hl)
end Go.Proofs.Ytnjmgmdpkogocaa

-- Printed by a program of this session (the kit's print, turned: printpatch.py) out of Lean's print of the translation. Lean checks it.
namespace Go.Proofs.Ytnjmgmdpkogocaa.Q
open Go.RowKit Go.Proofs.YtnjmgmdpkogocaaW.PrintWords Go.Proofs.YtnjmgmdpkogocaaW.PrintLast Go.Proofs.YtnjmgmdpkogocaaW.PrintMore
attribute [local go_sem] max2_int min2_int max_two min_two max_three min_three max_four min_four   -- for this text's walks alone
set_option linter.unusedVariables false
set_option linter.unusedSimpArgs false

/-! ### impl_JoinSets: function 33 -/
def impl_JoinSets.l0 : Nat → List (S45) → List (S45) → Int → Int → Int → List (S45) → Int → List (S45) → Option (Int × (List (S45)) × Int)
 | 0, _, _, _, _, _, _, _, _ => none
 | k + 1, x6, x19, x20, x21, x1120000, x1120001, x1121000, x1121001 => if x21 < x20 then (if 0 ≤ x21 then (if x21 < (x19.length : Int) then ((impl_Tile_coloured_at_impl_JoinSets_1.f ((rd_T45 x19 x21).f0) ((rd_T45 x19 x21).f1) ((rd_T45 x19 x21).f2) ((rd_T45 x19 x21).f3) x1120000 x1120001).bind fun bt1131 => (if x6.length < 4398046511104 then (impl_JoinSets.l0 k (x6 ++ [(⟨bt1131.1, bt1131.2.1, bt1131.2.2.1, bt1131.2.2.2⟩ : S45)]) x19 x20 (wrap64 (x21 + 1)) x1120000 x1120001 x1121000 x1121001) else (none))) else (none)) else (none)) else ((impl_limited.f (wrap64 (x1120000 + x1121000)) x6).bind fun bt1138 => (some (bt1138.1, bt1138.2.1, bt1138.2.2)))
def impl_JoinSets.f (k : Nat) (a0_0 : Int) (l0_1 : List (S45)) (a1_0 : Int) (l1_1 : List (S45)) : Option (Int × (List (S45)) × Int) := (impl_areSets.f k (([(⟨a0_0, l0_1⟩ : S26), (⟨a1_0, l1_1⟩ : S26)] : List (S26)))).bind fun t1125 => (if t1125 = true then ((slices_Clone_impl_Tile_impl_Tile.f l0_1).bind fun t1126 => (impl_JoinSets.l0 k t1126 l1_1 (l1_1.length : Int) 0 a0_0 l0_1 a1_0 l1_1)) else (some (0, ([] : List (S45)), 1)))
theorem impl_JoinSets.mono_l : ∀ k, (∀ y0 y1 y2 y3 y4 y5 y6 y7, LeO (impl_JoinSets.l0 k y0 y1 y2 y3 y4 y5 y6 y7) (impl_JoinSets.l0 (k + 1) y0 y1 y2 y3 y4 y5 y6 y7))
 | 0 => fun _ _ _ _ _ _ _ _ r h => by simp [impl_JoinSets.l0] at h
 | k + 1 => by
  have ih0 := impl_JoinSets.mono_l k
  ·intro y0 y1 y2 y3 y4 y5 y6 y7
   unfold impl_JoinSets.l0
   repeat' first
   | (with_reducible exact ih0 _ _ _ _ _ _ _ _)
   | (with_reducible exact impl_areSets.mono _ _)
   | (with_reducible exact LeO.refl _)
   | (with_reducible exact LeO.none _)
   | (with_reducible refine LeO.ite ?_ ?_)
   | (with_reducible refine LeO.bind ?_ (fun _ => ?_))
   | exact ih0 _ _ _ _ _ _ _ _
   | exact impl_areSets.mono _ _
   | exact LeO.none _
   | refine LeO.ite ?_ ?_
   | refine LeO.bind ?_ (fun _ => ?_)
theorem impl_JoinSets.mono : ∀ a0 a1 a2 a3 k, LeO (impl_JoinSets.f k a0 a1 a2 a3) (impl_JoinSets.f (k + 1) a0 a1 a2 a3) := by
 intro a0 a1 a2 a3 k
 have ih0 := impl_JoinSets.mono_l k
 unfold impl_JoinSets.f
 repeat' first
   | (with_reducible exact ih0 _ _ _ _ _ _ _ _)
   | (with_reducible exact impl_areSets.mono _ _)
   | (with_reducible exact LeO.refl _)
   | (with_reducible exact LeO.none _)
   | (with_reducible refine LeO.ite ?_ ?_)
   | (with_reducible refine LeO.bind ?_ (fun _ => ?_))
   | exact ih0 _ _ _ _ _ _ _ _
   | exact impl_areSets.mono _ _
   | exact LeO.none _
   | refine LeO.ite ?_ ?_
   | refine LeO.bind ?_ (fun _ => ?_)
set_option maxHeartbeats 8000000 in
set_option maxRecDepth 100000 in
theorem impl_JoinSets.calls (k : Nat) (a0_0 : Int) (P0_1_ : Nat → Prop) (A0_1 : Option Addr) (c0_1 : Nat) (l0_1 : List (S45)) (a1_0 : Int) (P1_1_ : Nat → Prop) (A1_1 : Option Addr) (c1_1 : Nat) (l1_1 : List (S45)) (r1 : Int) (r2 : List (S45)) (r3 : Int) (w : World) (hs0_1 : Kd.V k45 45 w w.heap.size (fun k_ => P0_1_ k_) (.slice A0_1 l0_1.length c0_1) l0_1) (hs1_1 : Kd.V k45 45 w w.heap.size (fun k_ => P1_1_ k_) (.slice A1_1 l1_1.length c1_1) l1_1) (h : impl_JoinSets.f k a0_0 l0_1 a1_0 l1_1 = some (r1, r2, r3)) :
  Calls Try.prog 33 #[.agg #[.int .i64 a0_0, .slice A0_1 l0_1.length c0_1], .agg #[.int .i64 a1_0, .slice A1_1 l1_1.length c1_1]] w fun e w' => ∃ v1_ : Value, e = .returned (.tuple #[.agg #[.int .i64 r1, v1_], .int .i64 r3]) ∧ Kd.R k45 45 w' w.heap.size (fun k_ => (w.heap.size ≤ k_)) v1_ r2 ∧ Below w.heap.size w w' := by
 have hu26 := Try.underlying26
 have hu45 := Try.underlying45
 have HO0_1 := Aside0.mk (show Kd.V k45 45 w w.heap.size (fun k_ => ((P0_1_ k_ ∨ P1_1_ k_) ∨ w.heap.size ≤ k_)) (.slice A0_1 l0_1.length c0_1) l0_1 from Kd.V_mono hs0_1 (fun k_ hk => .inl (.inl hk)))
 have HO1_1 := Aside0.mk (show Kd.V k45 45 w w.heap.size (fun k_ => ((P0_1_ k_ ∨ P1_1_ k_) ∨ w.heap.size ≤ k_)) (.slice A1_1 l1_1.length c1_1) l1_1 from Kd.V_mono hs1_1 (fun k_ hk => .inl (.inr hk)))
 have HB := Aside0.mk (Below.refl w.heap.size w)
 have H : ((impl_areSets.f k (([(⟨a0_0, l0_1⟩ : S26), (⟨a1_0, l1_1⟩ : S26)] : List (S26)))).bind fun t1125 => (if t1125 = true then ((slices_Clone_impl_Tile_impl_Tile.f l0_1).bind fun t1126 => (impl_JoinSets.l0 k t1126 l1_1 (l1_1.length : Int) 0 a0_0 l0_1 a1_0 l1_1)) else (some (0, ([] : List (S45)), 1)))) = some (r1, r2, r3) := h
 clear h
 obtain ⟨y1122, hy1122⟩ : ∃ y_ : List (S26), y_ = (([(⟨a0_0, l0_1⟩ : S26), (⟨a1_0, l1_1⟩ : S26)] : List (S26))) := ⟨_, rfl⟩
 replace H : ((impl_areSets.f k y1122).bind fun t1125 => (if t1125 = true then ((slices_Clone_impl_Tile_impl_Tile.f l0_1).bind fun t1126 => (impl_JoinSets.l0 k t1126 l1_1 (l1_1.length : Int) 0 a0_0 l0_1 a1_0 l1_1)) else (some (0, ([] : List (S45)), 1)))) = some (r1, r2, r3) := by first | (rw [hy1122]; with_reducible exact H) | (have H2_ := (Option.bind_some _ _).symm.trans H; rw [hy1122]; with_reducible exact H2_) | (have H2_ := (Option.bind_some _ _).symm.trans H; with_reducible exact H2_) | with_reducible exact H | (rw [hy1122]; exact H) | exact H
 have Ny1122 := Aside0.mk hy1122
 clear hy1122
 replace H := Option.bind_eq_some_iff.mp H
 obtain ⟨t1125, A30, H⟩ := H
 replace H : (if t1125 = true then ((slices_Clone_impl_Tile_impl_Tile.f l0_1).bind fun t1126 => (impl_JoinSets.l0 k t1126 l1_1 (l1_1.length : Int) 0 a0_0 l0_1 a1_0 l1_1)) else (some (0, ([] : List (S45)), 1))) = some (r1, r2, r3) := H
 have A3 := Aside0.mk A30
 clear A30
 by_cases c4 : t1125 = true
 ·subst c4
  have H1 : ((slices_Clone_impl_Tile_impl_Tile.f l0_1).bind fun t1126 => (impl_JoinSets.l0 k t1126 l1_1 (l1_1.length : Int) 0 a0_0 l0_1 a1_0 l1_1)) = some (r1, r2, r3) := by rw [if_pos rfl] at H; exact H
  clear H
  have H := H1
  clear H1
  replace H := Option.bind_eq_some_iff.mp H
  obtain ⟨t1126, A50, H⟩ := H
  replace H : (impl_JoinSets.l0 k t1126 l1_1 (l1_1.length : Int) 0 a0_0 l0_1 a1_0 l1_1) = some (r1, r2, r3) := H
  have A5 := Aside0.mk A50
  clear A50
  have H' := Aside0.mk H
  clear H
  go_enter Try.func33, Try.ntmps33
  go_wp2_with (first | ((with_reducible refine gate_dst (N := 2) rfl ?_); refine box_event ?hg (N := 2) ?hd (cs := #[.int .i64 a0_0, .slice A0_1 l0_1.length c0_1]) (t := 26) ?hr ?_; (case hd => rfl); (case hg => rfl); (case hr => first | (go_simp; done) | (go_simp; rfl)); intro gb1119 hg w6 hbox hb; have n0_ := Aside0.mk (Kd.V_below (Kd.V_elderB (by (with_reducible repeat (first | apply Kd.V_alloc | apply Kd.V_drewN | apply Kd.V_drew)); exact HO0_1.out) gb1119 (Nat.le_of_eq hg.symm)) hb); have n1_ := Aside0.mk (Kd.V_below (Kd.V_elderB (by (with_reducible repeat (first | apply Kd.V_alloc | apply Kd.V_drewN | apply Kd.V_drew)); exact HO1_1.out) gb1119 (Nat.le_of_eq hg.symm)) hb); have n2_ := Aside0.mk (below_step (by repeat (first | (with_reducible first | exact HB.out | apply below_alloc | apply pw_below_drewN | apply below_drew1) | exact HB.out)) hb); have n3_ := Aside0.mk (hbox); have n4_ := Aside0.mk ((by rw [hg]; exact (below_size (by repeat (first | (with_reducible first | exact HB.out | apply below_alloc | apply pw_below_drewN | apply below_drew1) | exact HB.out))) : w.heap.size ≤ gb1119)); have n5_ := Aside0.mk ((by rw [hg]; exact (below_size (by repeat (first | (with_reducible first | exact HB.out | apply below_alloc | apply pw_below_drewN | apply below_drew1) | exact HB.out))) : w.heap.size ≤ gb1119)); clear HO0_1; clear HO1_1; clear HB; have HO0_1 := n0_; have HO1_1 := n1_; have HB := n2_; have BK1119 := n3_; have GW1119 := n4_; have GE1119 := n5_; clear n0_ n1_ n2_ n3_ n4_ n5_; clear hb hbox hg) | ((with_reducible refine gate_dst (N := 3) rfl ?_); refine box_event ?hg (N := 3) ?hd (cs := #[.int .i64 a1_0, .slice A1_1 l1_1.length c1_1]) (t := 26) ?hr ?_; (case hd => rfl); (case hg => rfl); (case hr => first | (go_simp; done) | (go_simp; rfl)); intro gb1120 hg w7 hbox hb; have n0_ := Aside0.mk (Kd.V_below (Kd.V_elderB (by (with_reducible repeat (first | apply Kd.V_alloc | apply Kd.V_drewN | apply Kd.V_drew)); exact HO0_1.out) gb1120 (Nat.le_of_eq hg.symm)) hb); have n1_ := Aside0.mk (Kd.V_below (Kd.V_elderB (by (with_reducible repeat (first | apply Kd.V_alloc | apply Kd.V_drewN | apply Kd.V_drew)); exact HO1_1.out) gb1120 (Nat.le_of_eq hg.symm)) hb); have n2_ := Aside0.mk (blk_below (g := gb1119) (o := .cells #[.int .i64 a0_0, .slice A0_1 l0_1.length c0_1] 26 (0, 0)) (by (with_reducible repeat (first | refine blk_drewN ?_ _ | refine blk_drew ?_ | refine blk_alloc ?_ _)); exact BK1119.out) hb); have n3_ := Aside0.mk (below_step (by repeat (first | (with_reducible first | exact HB.out | apply below_alloc | apply pw_below_drewN | apply below_drew1 | refine below_set ?_ GE1119.out) | exact HB.out)) hb); have n4_ := Aside0.mk (hbox); have n5_ := Aside0.mk ((by rw [hg]; exact (below_size (by repeat (first | (with_reducible first | exact HB.out | apply below_alloc | apply pw_below_drewN | apply below_drew1 | refine below_set ?_ GE1119.out) | exact HB.out))) : w.heap.size ≤ gb1120)); have n6_ := Aside0.mk ((by rw [hg]; exact (below_size (by repeat (first | (with_reducible first | exact HB.out | apply below_alloc | apply pw_below_drewN | apply below_drew1 | refine below_set ?_ GE1119.out) | exact HB.out))) : w.heap.size ≤ gb1120)); have n7_ := Aside0.mk ((by rw [hg]; exact Nat.ne_of_lt (blk_lt (g := gb1119) (o := .cells #[.int .i64 a0_0, .slice A0_1 l0_1.length c0_1] 26 (0, 0)) (by (with_reducible repeat (first | refine blk_drewN ?_ _ | refine blk_drew ?_ | refine blk_alloc ?_ _)); exact BK1119.out)) : gb1119 ≠ gb1120)); have n8_ := Aside0.mk ((by rw [hg]; exact Nat.ne_of_gt (blk_lt (g := gb1119) (o := .cells #[.int .i64 a0_0, .slice A0_1 l0_1.length c0_1] 26 (0, 0)) (by (with_reducible repeat (first | refine blk_drewN ?_ _ | refine blk_drew ?_ | refine blk_alloc ?_ _)); exact BK1119.out)) : gb1120 ≠ gb1119)); clear HO0_1; clear HO1_1; clear BK1119; clear HB; have HO0_1 := n0_; have HO1_1 := n1_; have BK1119 := n2_; have HB := n3_; have BK1120 := n4_; have GW1120 := n5_; have GE1120 := n6_; have NB1119_1120 := n7_; have NB1120_1119 := n8_; clear n0_ n1_ n2_ n3_ n4_ n5_ n6_ n7_ n8_; clear hb hbox hg) | ((with_reducible refine gate_dst (N := 4) rfl ?_); refine box_event ?hg (N := 4) ?hd (cs := #[.int .i64 0, .slice none 0 0]) (t := 26) ?hr ?_; (case hd => rfl); (case hg => rfl); (case hr => first | (go_simp; done) | (go_simp; rfl)); intro gb1121 hg w8 hbox hb; have n0_ := Aside0.mk (Kd.V_below (Kd.V_elderB (by (with_reducible repeat (first | apply Kd.V_alloc | apply Kd.V_drewN | apply Kd.V_drew)); exact HO0_1.out) gb1121 (Nat.le_of_eq hg.symm)) hb); have n1_ := Aside0.mk (Kd.V_below (Kd.V_elderB (by (with_reducible repeat (first | apply Kd.V_alloc | apply Kd.V_drewN | apply Kd.V_drew)); exact HO1_1.out) gb1121 (Nat.le_of_eq hg.symm)) hb); have n2_ := Aside0.mk (blk_below (g := gb1119) (o := .cells #[.int .i64 a0_0, .slice A0_1 l0_1.length c0_1] 26 (0, 0)) (by (with_reducible repeat (first | refine blk_drewN ?_ _ | refine blk_drew ?_ | refine blk_alloc ?_ _)); exact BK1119.out) hb); have n3_ := Aside0.mk (blk_below (g := gb1120) (o := .cells #[.int .i64 a1_0, .slice A1_1 l1_1.length c1_1] 26 (0, 0)) (by (with_reducible repeat (first | refine blk_drewN ?_ _ | refine blk_drew ?_ | refine blk_alloc ?_ _)); exact BK1120.out) hb); have n4_ := Aside0.mk (below_step (by repeat (first | (with_reducible first | exact HB.out | apply below_alloc | apply pw_below_drewN | apply below_drew1 | refine below_set ?_ GE1119.out | refine below_set ?_ GE1120.out) | exact HB.out)) hb); have n5_ := Aside0.mk (hbox); have n6_ := Aside0.mk ((by rw [hg]; exact (below_size (by repeat (first | (with_reducible first | exact HB.out | apply below_alloc | apply pw_below_drewN | apply below_drew1 | refine below_set ?_ GE1119.out | refine below_set ?_ GE1120.out) | exact HB.out))) : w.heap.size ≤ gb1121)); have n7_ := Aside0.mk ((by rw [hg]; exact (below_size (by repeat (first | (with_reducible first | exact HB.out | apply below_alloc | apply pw_below_drewN | apply below_drew1 | refine below_set ?_ GE1119.out | refine below_set ?_ GE1120.out) | exact HB.out))) : w.heap.size ≤ gb1121)); have n8_ := Aside0.mk ((by rw [hg]; exact Nat.ne_of_lt (blk_lt (g := gb1119) (o := .cells #[.int .i64 a0_0, .slice A0_1 l0_1.length c0_1] 26 (0, 0)) (by (with_reducible repeat (first | refine blk_drewN ?_ _ | refine blk_drew ?_ | refine blk_alloc ?_ _)); exact BK1119.out)) : gb1119 ≠ gb1121)); have n9_ := Aside0.mk ((by rw [hg]; exact Nat.ne_of_gt (blk_lt (g := gb1119) (o := .cells #[.int .i64 a0_0, .slice A0_1 l0_1.length c0_1] 26 (0, 0)) (by (with_reducible repeat (first | refine blk_drewN ?_ _ | refine blk_drew ?_ | refine blk_alloc ?_ _)); exact BK1119.out)) : gb1121 ≠ gb1119)); have n10_ := Aside0.mk ((by rw [hg]; exact Nat.ne_of_lt (blk_lt (g := gb1120) (o := .cells #[.int .i64 a1_0, .slice A1_1 l1_1.length c1_1] 26 (0, 0)) (by (with_reducible repeat (first | refine blk_drewN ?_ _ | refine blk_drew ?_ | refine blk_alloc ?_ _)); exact BK1120.out)) : gb1120 ≠ gb1121)); have n11_ := Aside0.mk ((by rw [hg]; exact Nat.ne_of_gt (blk_lt (g := gb1120) (o := .cells #[.int .i64 a1_0, .slice A1_1 l1_1.length c1_1] 26 (0, 0)) (by (with_reducible repeat (first | refine blk_drewN ?_ _ | refine blk_drew ?_ | refine blk_alloc ?_ _)); exact BK1120.out)) : gb1121 ≠ gb1120)); clear HO0_1; clear HO1_1; clear BK1119; clear BK1120; clear HB; have HO0_1 := n0_; have HO1_1 := n1_; have BK1119 := n2_; have BK1120 := n3_; have HB := n4_; have BK1121 := n5_; have GW1121 := n6_; have GE1121 := n7_; have NB1119_1121 := n8_; have NB1121_1119 := n9_; have NB1120_1121 := n10_; have NB1121_1120 := n11_; clear n0_ n1_ n2_ n3_ n4_ n5_ n6_ n7_ n8_ n9_ n10_ n11_; clear hb hbox hg; have hnb9 := NB1119_1120.out; have hnc9 := NB1120_1119.out; have hnb10 := NB1119_1121.out; have hnc10 := NB1121_1119.out; have hcz11_0 : w8.cell? ⟨gb1119, 0, none⟩ = some (.int .i64 a0_0) := (blk_cell BK1119.out 0).trans rfl; have hcz11_1 : w8.cell? ⟨gb1119, 1, none⟩ = some (.slice A0_1 l0_1.length c0_1) := (blk_cell BK1119.out 1).trans rfl; have hfz11_0 := blk_frozen BK1119.out 0; have hfz11_1 := blk_frozen BK1119.out 1; have hnb12 := NB1120_1121.out; have hnc12 := NB1121_1120.out; have hcz13_0 : w8.cell? ⟨gb1120, 0, none⟩ = some (.int .i64 a1_0) := (blk_cell BK1120.out 0).trans rfl; have hcz13_1 : w8.cell? ⟨gb1120, 1, none⟩ = some (.slice A1_1 l1_1.length c1_1) := (blk_cell BK1120.out 1).trans rfl; have hfz13_0 := blk_frozen BK1120.out 0; have hfz13_1 := blk_frozen BK1120.out 1) | ((with_reducible refine gate_dst (N := 11) rfl ?_); refine Kd.N_lit k26 _ 26 ?hg (N' := 11) ?hd (xs := ([(⟨a0_0, l0_1⟩ : S26), (⟨a1_0, l1_1⟩ : S26)] : List (S26))) (inner := [.int .i64 a0_0, .slice A0_1 l0_1.length c0_1, .int .i64 a1_0, .slice A1_1 l1_1.length c1_1]) (ok := (fun k_ => ((P0_1_ k_ ∨ P1_1_ k_) ∨ w.heap.size ≤ k_) ∧ k_ ≠ gb1119 ∧ k_ ≠ gb1120 ∧ k_ ≠ gb1121)) (okp := (fun k_ => ((P0_1_ k_ ∨ P1_1_ k_) ∨ w.heap.size ≤ k_) ∧ k_ ≠ gb1119 ∧ k_ ≠ gb1120 ∧ k_ ≠ gb1121)) ?hr ?hp (fun _ hk => hk) ((show ∀ k_, w8.heap.size ≤ k_ → (fun k_ => ((P0_1_ k_ ∨ P1_1_ k_) ∨ w.heap.size ≤ k_) ∧ k_ ≠ gb1119 ∧ k_ ≠ gb1120 ∧ k_ ≠ gb1121) k_ from fun k_ hk => ⟨(.inr (Nat.le_trans (below_size (by repeat (first | (with_reducible first | exact HB.out | apply below_alloc | apply pw_below_drewN | apply below_drew1 | refine below_set ?_ GE1119.out | refine below_set ?_ GE1120.out | refine below_set ?_ GE1121.out) | exact HB.out))) hk)), Kd.freshB (g := gb1119) (o := .cells #[.int .i64 a0_0, .slice A0_1 l0_1.length c0_1] 26 (0, 0)) (by (with_reducible repeat (first | refine blk_drewN ?_ _ | refine blk_drew ?_ | refine blk_alloc ?_ _)); exact BK1119.out) k_ hk, Kd.freshB (g := gb1120) (o := .cells #[.int .i64 a1_0, .slice A1_1 l1_1.length c1_1] 26 (0, 0)) (by (with_reducible repeat (first | refine blk_drewN ?_ _ | refine blk_drew ?_ | refine blk_alloc ?_ _)); exact BK1120.out) k_ hk, Kd.freshB (g := gb1121) (o := .cells #[.int .i64 0, .slice none 0 0] 26 (0, 0)) (by (with_reducible repeat (first | refine blk_drewN ?_ _ | refine blk_drew ?_ | refine blk_alloc ?_ _)); exact BK1121.out) k_ hk⟩) _ (Nat.le_refl _)) (Below.refl _ _) (Nat.le_refl _) (by simp) ?_; (case hd => rfl); (case hg => rfl); (case hr => first | (go_simp; done) | (go_simp; rfl)); (case hp => exact (Reps.c2 (show Kd.FK k26 _ _ (⟨a0_0, l0_1⟩ : S26) [.int .i64 a0_0, .slice A0_1 l0_1.length c0_1] from (k26_mkF _ _ (⟨a0_0, l0_1⟩ : S26) (Kd.V_reads' (Kd.V_mono (ok' := (fun k_ => ((P0_1_ k_ ∨ P1_1_ k_) ∨ w.heap.size ≤ k_) ∧ k_ ≠ gb1119 ∧ k_ ≠ gb1120 ∧ k_ ≠ gb1121)) (HO0_1.out) (fun k_ hk => ⟨hk.1.1.1, ⟨hk.1.1.2, ⟨hk.1.2, hk.2⟩⟩⟩))).2.1 (Kd.V_F (Kd.V_mono (ok' := (fun k_ => ((P0_1_ k_ ∨ P1_1_ k_) ∨ w.heap.size ≤ k_) ∧ k_ ≠ gb1119 ∧ k_ ≠ gb1120 ∧ k_ ≠ gb1121)) (HO0_1.out) (fun k_ hk => ⟨hk.1.1.1, ⟨hk.1.1.2, ⟨hk.1.2, hk.2⟩⟩⟩))))) (Reps.c2 (show Kd.FK k26 _ _ (⟨a1_0, l1_1⟩ : S26) [.int .i64 a1_0, .slice A1_1 l1_1.length c1_1] from (k26_mkF _ _ (⟨a1_0, l1_1⟩ : S26) (Kd.V_reads' (Kd.V_mono (ok' := (fun k_ => ((P0_1_ k_ ∨ P1_1_ k_) ∨ w.heap.size ≤ k_) ∧ k_ ≠ gb1119 ∧ k_ ≠ gb1120 ∧ k_ ≠ gb1121)) (HO1_1.out) (fun k_ hk => ⟨hk.1.1.1, ⟨hk.1.1.2, ⟨hk.1.2, hk.2⟩⟩⟩))).2.1 (Kd.V_F (Kd.V_mono (ok' := (fun k_ => ((P0_1_ k_ ∨ P1_1_ k_) ∨ w.heap.size ≤ k_) ∧ k_ ≠ gb1119 ∧ k_ ≠ gb1120 ∧ k_ ≠ gb1121)) (HO1_1.out) (fun k_ hk => ⟨hk.1.1.1, ⟨hk.1.1.2, ⟨hk.1.2, hk.2⟩⟩⟩))))) (Reps.none _ _)))); intro v1123 w14 ho15 hb hg_ hnew_; clear hg_ hnew_; (first | rw [← Ny1122.out] at ho15 | (simp only [Int.reduceToNat] at ho15; rw [← Ny1122.out] at ho15)); have n0_ := Aside0.mk (Kd.V_elder' (by (with_reducible repeat (first | apply Kd.V_alloc | apply Kd.V_drewN | apply Kd.V_drew)); exact HO0_1.out) (Kd.N_base ho15) hb); have n1_ := Aside0.mk (Kd.V_elder' (by (with_reducible repeat (first | apply Kd.V_alloc | apply Kd.V_drewN | apply Kd.V_drew)); exact HO1_1.out) (Kd.N_base ho15) hb); have n2_ := Aside0.mk (Kd.N_lower ho15 (below_size (by repeat (first | (with_reducible first | exact HB.out | apply below_alloc | apply pw_below_drewN | apply below_drew1 | refine below_set ?_ GE1119.out | refine below_set ?_ GE1120.out | refine below_set ?_ GE1121.out) | exact HB.out)))); have n3_ := Aside0.mk (blk_below (g := gb1119) (o := .cells #[.int .i64 a0_0, .slice A0_1 l0_1.length c0_1] 26 (0, 0)) (by (with_reducible repeat (first | refine blk_drewN ?_ _ | refine blk_drew ?_ | refine blk_alloc ?_ _)); exact BK1119.out) hb); have n4_ := Aside0.mk (blk_below (g := gb1120) (o := .cells #[.int .i64 a1_0, .slice A1_1 l1_1.length c1_1] 26 (0, 0)) (by (with_reducible repeat (first | refine blk_drewN ?_ _ | refine blk_drew ?_ | refine blk_alloc ?_ _)); exact BK1120.out) hb); have n5_ := Aside0.mk (blk_below (g := gb1121) (o := .cells #[.int .i64 0, .slice none 0 0] 26 (0, 0)) (by (with_reducible repeat (first | refine blk_drewN ?_ _ | refine blk_drew ?_ | refine blk_alloc ?_ _)); exact BK1121.out) hb); have n6_ := Aside0.mk (below_step (by repeat (first | (with_reducible first | exact HB.out | apply below_alloc | apply pw_below_drewN | apply below_drew1 | refine below_set ?_ GE1119.out | refine below_set ?_ GE1120.out | refine below_set ?_ GE1121.out) | exact HB.out)) hb); clear HO0_1; clear HO1_1; clear BK1119; clear BK1120; clear BK1121; clear HB; have HO0_1 := n0_; have HO1_1 := n1_; have HO1124 := n2_; have BK1119 := n3_; have BK1120 := n4_; have BK1121 := n5_; have HB := n6_; clear n0_ n1_ n2_ n3_ n4_ n5_ n6_; clear hb ho15; obtain ⟨Ao16, co16, eo16⟩ := Kd.N_slice HO1124.out; subst eo16) | ((with_reducible refine gate_callee (f := 71) rfl ?_); refine goesL_ (some 12) rfl rfl Try.func71 (by kernel_rfl) rfl #[.slice Ao16 y1122.length co16] rfl (by (try simp only [List.map_toArray, List.map_cons, List.map_nil]); first | done | rfl | (simp only [List.length_drop, List.length_take]; rfl)) ?_; (with_reducible refine (impl_areSets.calls k _ _ y1122 true _ ?side1 ?side2 A3.out).mono ?_); (case side1 => repeat (first | exact (Kd.N_reads' HO1124.out).2.2 | (with_reducible refine Kd.C_alloc ?_ _) | (with_reducible refine Kd.C_drewN ?_ _) | (with_reducible refine Kd.C_drew ?_))); (case side2 => exact (Kd.N_reads' HO1124.out).2.1); rintro e w17 ⟨rfl, hb⟩; refine ⟨_, rfl, ?_⟩; have n0_ := Aside0.mk (Kd.V_below (by (with_reducible repeat (first | apply Kd.V_alloc | apply Kd.V_drewN | apply Kd.V_drew)); exact HO0_1.out) hb); have n1_ := Aside0.mk (Kd.V_below (by (with_reducible repeat (first | apply Kd.V_alloc | apply Kd.V_drewN | apply Kd.V_drew)); exact HO1_1.out) hb); have n2_ := Aside0.mk (Kd.N_below (by (with_reducible repeat (first | apply Kd.N_alloc | apply Kd.N_drewN | apply Kd.N_drew)); exact HO1124.out) hb); have n3_ := Aside0.mk (blk_below (g := gb1119) (o := .cells #[.int .i64 a0_0, .slice A0_1 l0_1.length c0_1] 26 (0, 0)) (by (with_reducible repeat (first | refine blk_drewN ?_ _ | refine blk_drew ?_ | refine blk_alloc ?_ _)); exact BK1119.out) hb); have n4_ := Aside0.mk (blk_below (g := gb1120) (o := .cells #[.int .i64 a1_0, .slice A1_1 l1_1.length c1_1] 26 (0, 0)) (by (with_reducible repeat (first | refine blk_drewN ?_ _ | refine blk_drew ?_ | refine blk_alloc ?_ _)); exact BK1120.out) hb); have n5_ := Aside0.mk (blk_below (g := gb1121) (o := .cells #[.int .i64 0, .slice none 0 0] 26 (0, 0)) (by (with_reducible repeat (first | refine blk_drewN ?_ _ | refine blk_drew ?_ | refine blk_alloc ?_ _)); exact BK1121.out) hb); have n6_ := Aside0.mk (below_step (by repeat (first | (with_reducible first | exact HB.out | apply below_alloc | apply pw_below_drewN | apply below_drew1 | refine below_set ?_ GE1119.out | refine below_set ?_ GE1120.out | refine below_set ?_ GE1121.out) | exact HB.out)) hb); clear HO0_1; clear HO1_1; clear HO1124; clear BK1119; clear BK1120; clear BK1121; clear HB; have HO0_1 := n0_; have HO1_1 := n1_; have HO1124 := n2_; have BK1119 := n3_; have BK1120 := n4_; have BK1121 := n5_; have HB := n6_; clear n0_ n1_ n2_ n3_ n4_ n5_ n6_; (try clear hb); (try clear hb2); (try clear hk); (try clear hi); have hcz18_0 : w17.cell? ⟨gb1119, 0, none⟩ = some (.int .i64 a0_0) := (blk_cell BK1119.out 0).trans rfl; have hcz18_1 : w17.cell? ⟨gb1119, 1, none⟩ = some (.slice A0_1 l0_1.length c0_1) := (blk_cell BK1119.out 1).trans rfl; have hfz18_0 := blk_frozen BK1119.out 0; have hfz18_1 := blk_frozen BK1119.out 1) | ((with_reducible refine gate_callee (f := 72) rfl ?_); refine goesL_ (some 17) rfl rfl Try.func72 (by kernel_rfl) rfl #[.slice A0_1 l0_1.length c0_1] rfl (by (try simp only [List.map_toArray, List.map_cons, List.map_nil]); first | done | rfl | (simp only [List.length_drop, List.length_take]; rfl)) ?_; (with_reducible refine (slices_Clone_impl_Tile_impl_Tile.calls _ _ l0_1 t1126 _ ?side1 ?side2 A5.out).mono ?_); (case side1 => repeat (first | exact (Kd.V_reads' HO0_1.out).2.2 | (with_reducible refine Kd.C_alloc ?_ _) | (with_reducible refine Kd.C_drewN ?_ _) | (with_reducible refine Kd.C_drew ?_))); (case side2 => exact (Kd.V_reads' HO0_1.out).2.1); rintro e w19 ⟨v1127, rfl, ho0, hb⟩; refine ⟨_, rfl, ?_⟩; have n0_ := Aside0.mk (Kd.V_elder' (by (with_reducible repeat (first | apply Kd.V_alloc | apply Kd.V_drewN | apply Kd.V_drew)); exact HO0_1.out) (Kd.R_base ho0) hb); have n1_ := Aside0.mk (Kd.V_elder' (by (with_reducible repeat (first | apply Kd.V_alloc | apply Kd.V_drewN | apply Kd.V_drew)); exact HO1_1.out) (Kd.R_base ho0) hb); have n2_ := Aside0.mk (Kd.N_elder' (by (with_reducible repeat (first | apply Kd.N_alloc | apply Kd.N_drewN | apply Kd.N_drew)); exact HO1124.out) (Kd.R_base ho0) hb); have n3_ := Aside0.mk (Kd.R_lower (Kd.R_newM (M := fun k_ => (w.heap.size ≤ k_)) ho0 (below_size (by repeat (first | (with_reducible first | exact HB.out | apply below_alloc | apply pw_below_drewN | apply below_drew1 | refine below_set ?_ GE1119.out | refine below_set ?_ GE1120.out | refine below_set ?_ GE1121.out) | exact HB.out))) (fun k_ h_ => h_)) (below_size (by repeat (first | (with_reducible first | exact HB.out | apply below_alloc | apply pw_below_drewN | apply below_drew1 | refine below_set ?_ GE1119.out | refine below_set ?_ GE1120.out | refine below_set ?_ GE1121.out) | exact HB.out)))); have n4_ := Aside0.mk (blk_below (g := gb1119) (o := .cells #[.int .i64 a0_0, .slice A0_1 l0_1.length c0_1] 26 (0, 0)) (by (with_reducible repeat (first | refine blk_drewN ?_ _ | refine blk_drew ?_ | refine blk_alloc ?_ _)); exact BK1119.out) hb); have n5_ := Aside0.mk (blk_below (g := gb1120) (o := .cells #[.int .i64 a1_0, .slice A1_1 l1_1.length c1_1] 26 (0, 0)) (by (with_reducible repeat (first | refine blk_drewN ?_ _ | refine blk_drew ?_ | refine blk_alloc ?_ _)); exact BK1120.out) hb); have n6_ := Aside0.mk (blk_below (g := gb1121) (o := .cells #[.int .i64 0, .slice none 0 0] 26 (0, 0)) (by (with_reducible repeat (first | refine blk_drewN ?_ _ | refine blk_drew ?_ | refine blk_alloc ?_ _)); exact BK1121.out) hb); have n7_ := Aside0.mk (below_step (by repeat (first | (with_reducible first | exact HB.out | apply below_alloc | apply pw_below_drewN | apply below_drew1 | refine below_set ?_ GE1119.out | refine below_set ?_ GE1120.out | refine below_set ?_ GE1121.out) | exact HB.out)) hb); clear HO0_1; clear HO1_1; clear HO1124; clear BK1119; clear BK1120; clear BK1121; clear HB; have HO0_1 := n0_; have HO1_1 := n1_; have HO1124 := n2_; have HO1128 := n3_; have BK1119 := n4_; have BK1120 := n5_; have BK1121 := n6_; have HB := n7_; clear n0_ n1_ n2_ n3_ n4_ n5_ n6_ n7_; (try clear hb); (try clear hb2); (try clear hk); (try clear hi); (try clear ho0); have hcz20_0 : w19.cell? ⟨gb1120, 0, none⟩ = some (.int .i64 a1_0) := (blk_cell BK1120.out 0).trans rfl; have hcz20_1 : w19.cell? ⟨gb1120, 1, none⟩ = some (.slice A1_1 l1_1.length c1_1) := (blk_cell BK1120.out 1).trans rfl; have hfz20_0 := blk_frozen BK1120.out 0; have hfz20_1 := blk_frozen BK1120.out 1))
  go_loopg [6, 21] k (fun kq v6 v21 w' => ∃ (x6_1 : List (S45)) (x21_1 : Int), v21 = .int .i64 x21_1 ∧ Aside0 (impl_JoinSets.l0 kq x6_1 l1_1 (l1_1.length : Int) x21_1 a0_0 l0_1 a1_0 l1_1 = some (r1, r2, r3)) ∧ Aside0 (kq ≤ k) ∧ Aside0 (Kd.R k45 45 w' w.heap.size (fun k_ => (w.heap.size ≤ k_)) v6 x6_1) ∧ Aside0 (Kd.V k45 45 w' w.heap.size (fun k_ => ((P0_1_ k_ ∨ P1_1_ k_) ∨ w.heap.size ≤ k_) ∧ some k_ ≠ (v6 : Value).ownBlock ∧ k_ ≠ gb1119 ∧ k_ ≠ gb1120 ∧ k_ ≠ gb1121) (.slice A1_1 l1_1.length c1_1) l1_1) ∧ Aside0 (Kd.V k45 45 w' w.heap.size (fun k_ => ((P0_1_ k_ ∨ P1_1_ k_) ∨ w.heap.size ≤ k_) ∧ some k_ ≠ (v6 : Value).ownBlock ∧ k_ ≠ gb1119 ∧ k_ ≠ gb1120 ∧ k_ ≠ gb1121) (.slice A0_1 l0_1.length c0_1) l0_1) ∧ Aside0 (Kd.V k45 45 w' w.heap.size (fun k_ => ((P0_1_ k_ ∨ P1_1_ k_) ∨ w.heap.size ≤ k_) ∧ some k_ ≠ (v6 : Value).ownBlock ∧ k_ ≠ gb1119 ∧ k_ ≠ gb1120 ∧ k_ ≠ gb1121) (.slice A1_1 l1_1.length c1_1) l1_1) ∧ Aside0 (w'.heap[gb1119]? = some (.cells #[.int .i64 a0_0, (.slice A0_1 l0_1.length c0_1)] 26 (0, 0))) ∧ Aside0 (w'.heap[gb1120]? = some (.cells #[.int .i64 a1_0, (.slice A1_1 l1_1.length c1_1)] 26 (0, 0))) ∧ Aside0 (w'.heap[gb1121]? = some (.cells #[.int .i64 0, (.slice none 0 0)] 26 (0, 0))) ∧ Aside0 (Below w.heap.size w w'))
  case atStart => exact ⟨(t1126), (0), (by first | rfl | (simp; done) | (simp [*]; done) | (simp; decide +kernel)), H', ⟨Nat.le_refl _⟩, ⟨by (with_reducible repeat (first | apply Kd.R_alloc | apply Kd.R_drewN | apply Kd.R_drew)); exact Kd.R_mono HO1128.out (fun _ hk => hk.1)⟩, ⟨by (with_reducible repeat (first | apply Kd.V_alloc | apply Kd.V_drewN | apply Kd.V_drew)); exact Kd.V_mono HO1_1.out (fun _ hk => ⟨hk.1.1.1.1.1, ⟨hk.2, ⟨hk.1.1.1.1.2, ⟨hk.1.1.1.2, hk.1.1.2⟩⟩⟩⟩)⟩, ⟨by (with_reducible repeat (first | apply Kd.V_alloc | apply Kd.V_drewN | apply Kd.V_drew)); exact Kd.V_mono HO0_1.out (fun _ hk => ⟨hk.1.1.1.1.1, ⟨hk.2, ⟨hk.1.1.1.1.2, ⟨hk.1.1.1.2, hk.1.1.2⟩⟩⟩⟩)⟩, ⟨by (with_reducible repeat (first | apply Kd.V_alloc | apply Kd.V_drewN | apply Kd.V_drew)); exact Kd.V_mono HO1_1.out (fun _ hk => ⟨hk.1.1.1.1.1, ⟨hk.2, ⟨hk.1.1.1.1.2, ⟨hk.1.1.1.2, hk.1.1.2⟩⟩⟩⟩)⟩, ⟨by (with_reducible repeat (first | refine blk_drewN ?_ _ | refine blk_drew ?_ | refine blk_alloc ?_ _)); exact BK1119.out⟩, ⟨by (with_reducible repeat (first | refine blk_drewN ?_ _ | refine blk_drew ?_ | refine blk_alloc ?_ _)); exact BK1120.out⟩, ⟨by (with_reducible repeat (first | refine blk_drewN ?_ _ | refine blk_drew ?_ | refine blk_alloc ?_ _)); exact BK1121.out⟩, ⟨by repeat (first | (with_reducible first | exact HB.out | apply below_alloc | apply pw_below_drewN | apply below_drew1 | refine below_set ?_ GE1119.out | refine below_set ?_ GE1120.out | refine below_set ?_ GE1121.out) | exact HB.out)⟩⟩
  case round =>
   clear H'
   try clear c1
   try clear c2
   try clear p2
   try clear c3
   try clear c4
   try clear c7
   try clear c9
   try clear c10
   try clear c12
   try clear hcz11_0
   try clear hcz11_1
   try clear hcz13_0
   try clear hcz13_1
   try clear hcz18_0
   try clear hcz18_1
   try clear hcz20_0
   try clear hcz20_1
   try clear hfz11_0
   try clear hfz11_1
   try clear hfz13_0
   try clear hfz13_1
   try clear hfz18_0
   try clear hfz18_1
   try clear hfz20_0
   try clear hfz20_1
   obtain ⟨x6_1, x21_1, rfl, HA, HK1, HO_6, HO_19, HO_1120001, HO_1121001, BK1119, BK1120, BK1121, HB⟩ := hrel
   cases gk with
   | zero => exact absurd HA.out (by simp [impl_JoinSets.l0])
   | succ k1 =>
    have H := HA.out
    clear HA
    simp only [impl_JoinSets.l0] at H
    by_cases c21 : x21_1 < (l1_1.length : Int)
    ·rw [if_pos c21] at H
     have c21b0 : decide (x21_1 < (l1_1.length : Int)) = true := decide_eq_true c21
     clear c21
     by_cases c22 : 0 ≤ x21_1
     ·rw [if_pos c22] at H
      have c22b0 : decide (0 ≤ x21_1) = true := decide_eq_true c22
      clear c22
      by_cases c23 : x21_1 < (l1_1.length : Int)
      ·rw [if_pos c23] at H
       have c23b0 : decide (x21_1 < (l1_1.length : Int)) = true := decide_eq_true c23
       clear c23
       replace H := Option.bind_eq_some_iff.mp H
       obtain ⟨⟨t1131, t1132, t1133, t1134⟩, A240, H⟩ := H
       replace H : (if x6_1.length < 4398046511104 then (impl_JoinSets.l0 k1 (x6_1 ++ [(⟨t1131, t1132, t1133, t1134⟩ : S45)]) l1_1 (l1_1.length : Int) (wrap64 (x21_1 + 1)) a0_0 l0_1 a1_0 l1_1) else (none)) = some (r1, r2, r3) := H
       have A24 := Aside0.mk A240
       clear A240
       by_cases c25 : x6_1.length < 4398046511104
       ·rw [if_pos c25] at H
        have LMc25 := Aside0.mk c25
        clear c25
        obtain ⟨y1135, hy1135⟩ : ∃ y_ : List (S45), y_ = (x6_1 ++ [(⟨t1131, t1132, t1133, t1134⟩ : S45)]) := ⟨_, rfl⟩
        replace H : (impl_JoinSets.l0 k1 y1135 l1_1 (l1_1.length : Int) (wrap64 (x21_1 + 1)) a0_0 l0_1 a1_0 l1_1) = some (r1, r2, r3) := by first | (rw [hy1135]; with_reducible exact H) | (have H2_ := (Option.bind_some _ _).symm.trans H; rw [hy1135]; with_reducible exact H2_) | (have H2_ := (Option.bind_some _ _).symm.trans H; with_reducible exact H2_) | with_reducible exact H | (rw [hy1135]; exact H) | exact H
        have Ny1135 := Aside0.mk hy1135
        clear hy1135
        have H' := Aside0.mk H
        clear H
        have p1129 : 0 ≤ (x21_1 : Int) := of_decide_eq_true (by first | (with_reducible assumption) | assumption)
        have q1129 : x21_1 < (l1_1.length : Int) := of_decide_eq_true (by first | (with_reducible assumption) | assumption)
        obtain ⟨ad1129, e1129, hx1129_0, hx1129_1, hx1129_2, hx1129_3⟩ := at_T45 (Kd.V_reads' HO_19.out).2.2 x21_1 p1129 q1129
        cases e1129
        replace p1129 := eq_true p1129
        replace q1129 := eq_true q1129
        go_wp2_with (first | ((with_reducible refine gate_dst (N := 8) rfl ?_); refine box_event ?hg (N := 8) ?hd (cs := #[.int .i64 0, .int .i64 0, .int .i64 0, .int .i64 0]) (t := 45) ?hr ?_; (case hd => rfl); (case hg => rfl); (case hr => first | (go_simp; done) | (go_simp; rfl)); intro gb1130 hg w26 hbox hb; have n0_ := Aside0.mk (Kd.R_below (Kd.R_elderB (by (with_reducible repeat (first | apply Kd.R_alloc | apply Kd.R_drewN | apply Kd.R_drew)); exact HO_6.out) gb1130 (Nat.le_of_eq hg.symm)) hb); have n1_ := Aside0.mk (Kd.V_below (Kd.V_elderB (by (with_reducible repeat (first | apply Kd.V_alloc | apply Kd.V_drewN | apply Kd.V_drew)); exact HO_19.out) gb1130 (Nat.le_of_eq hg.symm)) hb); have n2_ := Aside0.mk (Kd.V_below (Kd.V_elderB (by (with_reducible repeat (first | apply Kd.V_alloc | apply Kd.V_drewN | apply Kd.V_drew)); exact HO_1120001.out) gb1130 (Nat.le_of_eq hg.symm)) hb); have n3_ := Aside0.mk (Kd.V_below (Kd.V_elderB (by (with_reducible repeat (first | apply Kd.V_alloc | apply Kd.V_drewN | apply Kd.V_drew)); exact HO_1121001.out) gb1130 (Nat.le_of_eq hg.symm)) hb); have n4_ := Aside0.mk (blk_below (g := gb1119) (o := .cells #[.int .i64 a0_0, .slice A0_1 l0_1.length c0_1] 26 (0, 0)) (by (with_reducible repeat (first | refine blk_drewN ?_ _ | refine blk_drew ?_ | refine blk_alloc ?_ _)); exact BK1119.out) hb); have n5_ := Aside0.mk (blk_below (g := gb1120) (o := .cells #[.int .i64 a1_0, .slice (some ad1129) l1_1.length c1_1] 26 (0, 0)) (by (with_reducible repeat (first | refine blk_drewN ?_ _ | refine blk_drew ?_ | refine blk_alloc ?_ _)); exact BK1120.out) hb); have n6_ := Aside0.mk (blk_below (g := gb1121) (o := .cells #[.int .i64 0, .slice none 0 0] 26 (0, 0)) (by (with_reducible repeat (first | refine blk_drewN ?_ _ | refine blk_drew ?_ | refine blk_alloc ?_ _)); exact BK1121.out) hb); have n7_ := Aside0.mk (below_step (by repeat (first | (with_reducible first | exact HB.out | apply below_alloc | apply pw_below_drewN | apply below_drew1 | refine below_set ?_ GE1119.out | refine below_set ?_ GE1120.out | refine below_set ?_ GE1121.out) | exact HB.out)) hb); have n8_ := Aside0.mk (hbox); have n9_ := Aside0.mk ((by rw [hg]; exact (below_size (by repeat (first | (with_reducible first | exact HB.out | apply below_alloc | apply pw_below_drewN | apply below_drew1 | refine below_set ?_ GE1119.out | refine below_set ?_ GE1120.out | refine below_set ?_ GE1121.out) | exact HB.out))) : w.heap.size ≤ gb1130)); have n10_ := Aside0.mk ((by rw [hg]; exact (below_size (by repeat (first | (with_reducible first | exact HB.out | apply below_alloc | apply pw_below_drewN | apply below_drew1 | refine below_set ?_ GE1119.out | refine below_set ?_ GE1120.out | refine below_set ?_ GE1121.out) | exact HB.out))) : w.heap.size ≤ gb1130)); have n11_ := Aside0.mk ((by rw [hg]; exact Nat.ne_of_lt (blk_lt (g := gb1119) (o := .cells #[.int .i64 a0_0, .slice A0_1 l0_1.length c0_1] 26 (0, 0)) (by (with_reducible repeat (first | refine blk_drewN ?_ _ | refine blk_drew ?_ | refine blk_alloc ?_ _)); exact BK1119.out)) : gb1119 ≠ gb1130)); have n12_ := Aside0.mk ((by rw [hg]; exact Nat.ne_of_gt (blk_lt (g := gb1119) (o := .cells #[.int .i64 a0_0, .slice A0_1 l0_1.length c0_1] 26 (0, 0)) (by (with_reducible repeat (first | refine blk_drewN ?_ _ | refine blk_drew ?_ | refine blk_alloc ?_ _)); exact BK1119.out)) : gb1130 ≠ gb1119)); have n13_ := Aside0.mk ((by rw [hg]; exact Nat.ne_of_lt (blk_lt (g := gb1120) (o := .cells #[.int .i64 a1_0, .slice (some ad1129) l1_1.length c1_1] 26 (0, 0)) (by (with_reducible repeat (first | refine blk_drewN ?_ _ | refine blk_drew ?_ | refine blk_alloc ?_ _)); exact BK1120.out)) : gb1120 ≠ gb1130)); have n14_ := Aside0.mk ((by rw [hg]; exact Nat.ne_of_gt (blk_lt (g := gb1120) (o := .cells #[.int .i64 a1_0, .slice (some ad1129) l1_1.length c1_1] 26 (0, 0)) (by (with_reducible repeat (first | refine blk_drewN ?_ _ | refine blk_drew ?_ | refine blk_alloc ?_ _)); exact BK1120.out)) : gb1130 ≠ gb1120)); have n15_ := Aside0.mk ((by rw [hg]; exact Nat.ne_of_lt (blk_lt (g := gb1121) (o := .cells #[.int .i64 0, .slice none 0 0] 26 (0, 0)) (by (with_reducible repeat (first | refine blk_drewN ?_ _ | refine blk_drew ?_ | refine blk_alloc ?_ _)); exact BK1121.out)) : gb1121 ≠ gb1130)); have n16_ := Aside0.mk ((by rw [hg]; exact Nat.ne_of_gt (blk_lt (g := gb1121) (o := .cells #[.int .i64 0, .slice none 0 0] 26 (0, 0)) (by (with_reducible repeat (first | refine blk_drewN ?_ _ | refine blk_drew ?_ | refine blk_alloc ?_ _)); exact BK1121.out)) : gb1130 ≠ gb1121)); clear HO_6; clear HO_19; clear HO_1120001; clear HO_1121001; clear BK1119; clear BK1120; clear BK1121; clear HB; have HO_6 := n0_; have HO_19 := n1_; have HO_1120001 := n2_; have HO_1121001 := n3_; have BK1119 := n4_; have BK1120 := n5_; have BK1121 := n6_; have HB := n7_; have BK1130 := n8_; have GW1130 := n9_; have GE1130 := n10_; have NB1119_1130 := n11_; have NB1130_1119 := n12_; have NB1120_1130 := n13_; have NB1130_1120 := n14_; have NB1121_1130 := n15_; have NB1130_1121 := n16_; clear n0_ n1_ n2_ n3_ n4_ n5_ n6_ n7_ n8_ n9_ n10_ n11_ n12_ n13_ n14_ n15_ n16_; clear hb hbox hg; have hnb27 := NB1130_1119.out; have hnc27 := NB1119_1130.out; have hnb28 := NB1130_1120.out; have hnc28 := NB1120_1130.out; have hnb29 := NB1130_1121.out; have hnc29 := NB1121_1130.out; have hcz30_0 : w26.cell? ⟨gb1130, 0, none⟩ = some (.int .i64 0) := (blk_cell BK1130.out 0).trans rfl; have hcz30_1 : w26.cell? ⟨gb1130, 1, none⟩ = some (.int .i64 0) := (blk_cell BK1130.out 1).trans rfl; have hcz30_2 : w26.cell? ⟨gb1130, 2, none⟩ = some (.int .i64 0) := (blk_cell BK1130.out 2).trans rfl; have hcz30_3 : w26.cell? ⟨gb1130, 3, none⟩ = some (.int .i64 0) := (blk_cell BK1130.out 3).trans rfl; have hfz30_0 := blk_frozen BK1130.out 0; have hfz30_1 := blk_frozen BK1130.out 1; have hfz30_2 := blk_frozen BK1130.out 2; have hfz30_3 := blk_frozen BK1130.out 3) | ((with_reducible refine gate_callee (f := 73) rfl ?_); refine goesL_ (some 28) rfl rfl Try.func73 (by kernel_rfl) rfl #[.agg #[.int .i64 ((rd_T45 l1_1 x21_1).f0), .int .i64 ((rd_T45 l1_1 x21_1).f1), .int .i64 ((rd_T45 l1_1 x21_1).f2), .int .i64 ((rd_T45 l1_1 x21_1).f3)], .func (.func 74) #[] #[.pointer (some ⟨gb1119, 0, none⟩)]] rfl (by (try simp only [List.map_toArray, List.map_cons, List.map_nil]); first | done | rfl | (simp only [List.length_drop, List.length_take]; rfl)) ?_; (with_reducible refine (impl_Tile_coloured_at_impl_JoinSets_1.calls ((rd_T45 l1_1 x21_1).f0) ((rd_T45 l1_1 x21_1).f1) ((rd_T45 l1_1 x21_1).f2) ((rd_T45 l1_1 x21_1).f3) gb1119 a0_0 A0_1 c0_1 l0_1 t1131 t1132 t1133 t1134 _ ?side1 ?side2 ?side3 A24.out).mono ?_); (case side1 => (first | (refine (Kd.V_reads' (e := 45) (base := w.heap.size) (ok := fun k_ => ((((P0_1_ k_ ∨ P1_1_ k_) ∨ w.heap.size ≤ k_) ∧ (some k_ ≠ (u6 : Value).ownBlock ∧ (k_ ≠ gb1119 ∧ (k_ ≠ gb1120 ∧ k_ ≠ gb1121)))) ∧ k_ ≠ gb1130)) (n := l0_1.length) (c := c0_1) ?_).2.2; exact (by (with_reducible repeat (first | apply Kd.V_alloc | apply Kd.V_drewN | apply Kd.V_drew)); exact (Kd.V_mono (Kd.V_far (p := ⟨gb1130, 3, none⟩) (Kd.V_far (p := ⟨gb1130, 2, none⟩) (Kd.V_far (p := ⟨gb1130, 1, none⟩) (Kd.V_far (p := ⟨gb1130, 0, none⟩) (Kd.V_mono HO_1120001.out (fun k_ hk => (⟨hk, hk.2⟩ : _ ∧ k_ ≠ gb1130))) (fun _ hk => hk.2) (.int .i64 ((rd_T45 l1_1 x21_1).f0))) (fun _ hk => hk.2) (.int .i64 ((rd_T45 l1_1 x21_1).f1))) (fun _ hk => hk.2) (.int .i64 ((rd_T45 l1_1 x21_1).f2))) (fun _ hk => hk.2) (.int .i64 ((rd_T45 l1_1 x21_1).f3))) (fun _ h_ => h_.1)))) | (refine (Kd.V_reads' (e := 45) (base := w.heap.size) (ok := ?okh_) (n := l0_1.length) (c := c0_1) ?_).2.2; exact (by (with_reducible repeat (first | apply Kd.V_alloc | apply Kd.V_drewN | apply Kd.V_drew)); exact (Kd.V_mono (Kd.V_far (p := ⟨gb1130, 3, none⟩) (Kd.V_far (p := ⟨gb1130, 2, none⟩) (Kd.V_far (p := ⟨gb1130, 1, none⟩) (Kd.V_far (p := ⟨gb1130, 0, none⟩) (Kd.V_mono HO_1120001.out (fun k_ hk => (⟨hk, hk.2⟩ : _ ∧ k_ ≠ gb1130))) (fun _ hk => hk.2) (.int .i64 ((rd_T45 l1_1 x21_1).f0))) (fun _ hk => hk.2) (.int .i64 ((rd_T45 l1_1 x21_1).f1))) (fun _ hk => hk.2) (.int .i64 ((rd_T45 l1_1 x21_1).f2))) (fun _ hk => hk.2) (.int .i64 ((rd_T45 l1_1 x21_1).f3))) (fun _ h_ => h_.1)))))); (case side2 => exact (Kd.V_reads' HO_1120001.out).2.1); (case side3 => exact (by (with_reducible repeat (first | refine blk_drewN ?_ _ | refine blk_drew ?_ | refine blk_alloc ?_ _)); refine blk_far ?_ NB1119_1130.out _; (with_reducible repeat (first | refine blk_drewN ?_ _ | refine blk_drew ?_ | refine blk_alloc ?_ _)); refine blk_far ?_ NB1119_1130.out _; (with_reducible repeat (first | refine blk_drewN ?_ _ | refine blk_drew ?_ | refine blk_alloc ?_ _)); refine blk_far ?_ NB1119_1130.out _; (with_reducible repeat (first | refine blk_drewN ?_ _ | refine blk_drew ?_ | refine blk_alloc ?_ _)); refine blk_far ?_ NB1119_1130.out _; (with_reducible repeat (first | refine blk_drewN ?_ _ | refine blk_drew ?_ | refine blk_alloc ?_ _)); exact BK1119.out)); rintro e w31 ⟨rfl, hb⟩; refine ⟨_, rfl, ?_⟩; have n0_ := Aside0.mk (Kd.R_below (by (with_reducible repeat (first | apply Kd.R_alloc | apply Kd.R_drewN | apply Kd.R_drew)); exact (Kd.R_mono (Kd.R_far (p := ⟨gb1130, 3, none⟩) (Kd.R_far (p := ⟨gb1130, 2, none⟩) (Kd.R_far (p := ⟨gb1130, 1, none⟩) (Kd.R_far (p := ⟨gb1130, 0, none⟩) (Kd.R_mono HO_6.out (fun k_ hk => (⟨hk, hk.2⟩ : _ ∧ k_ ≠ gb1130))) (fun _ hk => hk.2) (.int .i64 ((rd_T45 l1_1 x21_1).f0))) (fun _ hk => hk.2) (.int .i64 ((rd_T45 l1_1 x21_1).f1))) (fun _ hk => hk.2) (.int .i64 ((rd_T45 l1_1 x21_1).f2))) (fun _ hk => hk.2) (.int .i64 ((rd_T45 l1_1 x21_1).f3))) (fun _ h_ => h_.1))) hb); have n1_ := Aside0.mk (Kd.V_below (by (with_reducible repeat (first | apply Kd.V_alloc | apply Kd.V_drewN | apply Kd.V_drew)); exact (Kd.V_mono (Kd.V_far (p := ⟨gb1130, 3, none⟩) (Kd.V_far (p := ⟨gb1130, 2, none⟩) (Kd.V_far (p := ⟨gb1130, 1, none⟩) (Kd.V_far (p := ⟨gb1130, 0, none⟩) (Kd.V_mono HO_19.out (fun k_ hk => (⟨hk, hk.2⟩ : _ ∧ k_ ≠ gb1130))) (fun _ hk => hk.2) (.int .i64 ((rd_T45 l1_1 x21_1).f0))) (fun _ hk => hk.2) (.int .i64 ((rd_T45 l1_1 x21_1).f1))) (fun _ hk => hk.2) (.int .i64 ((rd_T45 l1_1 x21_1).f2))) (fun _ hk => hk.2) (.int .i64 ((rd_T45 l1_1 x21_1).f3))) (fun _ h_ => h_.1))) hb); have n2_ := Aside0.mk (Kd.V_below (by (with_reducible repeat (first | apply Kd.V_alloc | apply Kd.V_drewN | apply Kd.V_drew)); exact (Kd.V_mono (Kd.V_far (p := ⟨gb1130, 3, none⟩) (Kd.V_far (p := ⟨gb1130, 2, none⟩) (Kd.V_far (p := ⟨gb1130, 1, none⟩) (Kd.V_far (p := ⟨gb1130, 0, none⟩) (Kd.V_mono HO_1120001.out (fun k_ hk => (⟨hk, hk.2⟩ : _ ∧ k_ ≠ gb1130))) (fun _ hk => hk.2) (.int .i64 ((rd_T45 l1_1 x21_1).f0))) (fun _ hk => hk.2) (.int .i64 ((rd_T45 l1_1 x21_1).f1))) (fun _ hk => hk.2) (.int .i64 ((rd_T45 l1_1 x21_1).f2))) (fun _ hk => hk.2) (.int .i64 ((rd_T45 l1_1 x21_1).f3))) (fun _ h_ => h_.1))) hb); have n3_ := Aside0.mk (Kd.V_below (by (with_reducible repeat (first | apply Kd.V_alloc | apply Kd.V_drewN | apply Kd.V_drew)); exact (Kd.V_mono (Kd.V_far (p := ⟨gb1130, 3, none⟩) (Kd.V_far (p := ⟨gb1130, 2, none⟩) (Kd.V_far (p := ⟨gb1130, 1, none⟩) (Kd.V_far (p := ⟨gb1130, 0, none⟩) (Kd.V_mono HO_1121001.out (fun k_ hk => (⟨hk, hk.2⟩ : _ ∧ k_ ≠ gb1130))) (fun _ hk => hk.2) (.int .i64 ((rd_T45 l1_1 x21_1).f0))) (fun _ hk => hk.2) (.int .i64 ((rd_T45 l1_1 x21_1).f1))) (fun _ hk => hk.2) (.int .i64 ((rd_T45 l1_1 x21_1).f2))) (fun _ hk => hk.2) (.int .i64 ((rd_T45 l1_1 x21_1).f3))) (fun _ h_ => h_.1))) hb); have n4_ := Aside0.mk (blk_below (g := gb1119) (o := .cells #[.int .i64 a0_0, .slice A0_1 l0_1.length c0_1] 26 (0, 0)) (by (with_reducible repeat (first | refine blk_drewN ?_ _ | refine blk_drew ?_ | refine blk_alloc ?_ _)); refine blk_far ?_ NB1119_1130.out _; (with_reducible repeat (first | refine blk_drewN ?_ _ | refine blk_drew ?_ | refine blk_alloc ?_ _)); refine blk_far ?_ NB1119_1130.out _; (with_reducible repeat (first | refine blk_drewN ?_ _ | refine blk_drew ?_ | refine blk_alloc ?_ _)); refine blk_far ?_ NB1119_1130.out _; (with_reducible repeat (first | refine blk_drewN ?_ _ | refine blk_drew ?_ | refine blk_alloc ?_ _)); refine blk_far ?_ NB1119_1130.out _; (with_reducible repeat (first | refine blk_drewN ?_ _ | refine blk_drew ?_ | refine blk_alloc ?_ _)); exact BK1119.out) hb); have n5_ := Aside0.mk (blk_below (g := gb1120) (o := .cells #[.int .i64 a1_0, .slice (some ad1129) l1_1.length c1_1] 26 (0, 0)) (by (with_reducible repeat (first | refine blk_drewN ?_ _ | refine blk_drew ?_ | refine blk_alloc ?_ _)); refine blk_far ?_ NB1120_1130.out _; (with_reducible repeat (first | refine blk_drewN ?_ _ | refine blk_drew ?_ | refine blk_alloc ?_ _)); refine blk_far ?_ NB1120_1130.out _; (with_reducible repeat (first | refine blk_drewN ?_ _ | refine blk_drew ?_ | refine blk_alloc ?_ _)); refine blk_far ?_ NB1120_1130.out _; (with_reducible repeat (first | refine blk_drewN ?_ _ | refine blk_drew ?_ | refine blk_alloc ?_ _)); refine blk_far ?_ NB1120_1130.out _; (with_reducible repeat (first | refine blk_drewN ?_ _ | refine blk_drew ?_ | refine blk_alloc ?_ _)); exact BK1120.out) hb); have n6_ := Aside0.mk (blk_below (g := gb1121) (o := .cells #[.int .i64 0, .slice none 0 0] 26 (0, 0)) (by (with_reducible repeat (first | refine blk_drewN ?_ _ | refine blk_drew ?_ | refine blk_alloc ?_ _)); refine blk_far ?_ NB1121_1130.out _; (with_reducible repeat (first | refine blk_drewN ?_ _ | refine blk_drew ?_ | refine blk_alloc ?_ _)); refine blk_far ?_ NB1121_1130.out _; (with_reducible repeat (first | refine blk_drewN ?_ _ | refine blk_drew ?_ | refine blk_alloc ?_ _)); refine blk_far ?_ NB1121_1130.out _; (with_reducible repeat (first | refine blk_drewN ?_ _ | refine blk_drew ?_ | refine blk_alloc ?_ _)); refine blk_far ?_ NB1121_1130.out _; (with_reducible repeat (first | refine blk_drewN ?_ _ | refine blk_drew ?_ | refine blk_alloc ?_ _)); exact BK1121.out) hb); have n7_ := Aside0.mk (blk_below (g := gb1130) (o := .cells #[.int .i64 ((rd_T45 l1_1 x21_1).f0), .int .i64 ((rd_T45 l1_1 x21_1).f1), .int .i64 ((rd_T45 l1_1 x21_1).f2), .int .i64 ((rd_T45 l1_1 x21_1).f3)] 45 (0, 0)) (by (with_reducible repeat (first | refine blk_drewN ?_ _ | refine blk_drew ?_ | refine blk_alloc ?_ _)); refine blk_put (cs := #[.int .i64 ((rd_T45 l1_1 x21_1).f0), .int .i64 ((rd_T45 l1_1 x21_1).f1), .int .i64 ((rd_T45 l1_1 x21_1).f2), .int .i64 0]) ?_ 3 _ rfl; (with_reducible repeat (first | refine blk_drewN ?_ _ | refine blk_drew ?_ | refine blk_alloc ?_ _)); refine blk_put (cs := #[.int .i64 ((rd_T45 l1_1 x21_1).f0), .int .i64 ((rd_T45 l1_1 x21_1).f1), .int .i64 0, .int .i64 0]) ?_ 2 _ rfl; (with_reducible repeat (first | refine blk_drewN ?_ _ | refine blk_drew ?_ | refine blk_alloc ?_ _)); refine blk_put (cs := #[.int .i64 ((rd_T45 l1_1 x21_1).f0), .int .i64 0, .int .i64 0, .int .i64 0]) ?_ 1 _ rfl; (with_reducible repeat (first | refine blk_drewN ?_ _ | refine blk_drew ?_ | refine blk_alloc ?_ _)); refine blk_put (cs := #[.int .i64 0, .int .i64 0, .int .i64 0, .int .i64 0]) ?_ 0 _ rfl; (with_reducible repeat (first | refine blk_drewN ?_ _ | refine blk_drew ?_ | refine blk_alloc ?_ _)); exact BK1130.out) hb); have n8_ := Aside0.mk (below_step (by repeat (first | (with_reducible first | exact HB.out | apply below_alloc | apply pw_below_drewN | apply below_drew1 | refine below_set ?_ GE1119.out | refine below_set ?_ GE1120.out | refine below_set ?_ GE1121.out | refine below_set ?_ GE1130.out) | exact HB.out)) hb); clear HO_6; clear HO_19; clear HO_1120001; clear HO_1121001; clear BK1119; clear BK1120; clear BK1121; clear BK1130; clear HB; have HO_6 := n0_; have HO_19 := n1_; have HO_1120001 := n2_; have HO_1121001 := n3_; have BK1119 := n4_; have BK1120 := n5_; have BK1121 := n6_; have BK1130 := n7_; have HB := n8_; clear n0_ n1_ n2_ n3_ n4_ n5_ n6_ n7_ n8_; (try clear hb); (try clear hb2); (try clear hk); (try clear hi)) | ((with_reducible refine gate_builtin (b := .append) (xs := #[.tmp 25, .tmp 29]) rfl ?_); at_builtin; refine Kd.R_append k45 (w0 := w) w.heap.size rfl (.tmp 25) (.tmp 29) 24 45 (.agg #[(.int .i64 0), (.int .i64 0), (.int .i64 0), (.int .i64 0)]) 32 rfl Try.underlying24 info45 rfl (by decide) (by omega) u6 x6_1 (⟨t1131, t1132, t1133, t1134⟩ : S45) [.int .i64 t1131, .int .i64 t1132, .int .i64 t1133, .int .i64 t1134] (fun k_ => (w.heap.size ≤ k_) ∧ k_ ≠ gb1130) (fun _ => False) rfl rfl ?aP (fun _ hk => hk.elim) ?aF ?aO ?aB ?aS ?aL ?_; (case aP => exact k45_mkM _ _ _ (⟨t1131, t1132, t1133, t1134⟩ : S45)); (case aB => exact (by repeat (first | (with_reducible first | exact HB.out | apply below_alloc | apply pw_below_drewN | apply below_drew1 | refine below_set ?_ GE1119.out | refine below_set ?_ GE1120.out | refine below_set ?_ GE1121.out | refine below_set ?_ GE1130.out) | exact HB.out))); (case aF => exact (fun k_ hk => ⟨(Nat.le_trans (below_size (by repeat (first | (with_reducible first | exact HB.out | apply below_alloc | apply pw_below_drewN | apply below_drew1 | refine below_set ?_ GE1119.out | refine below_set ?_ GE1120.out | refine below_set ?_ GE1121.out | refine below_set ?_ GE1130.out) | exact HB.out))) hk), Kd.freshB (g := gb1130) (o := .cells #[.int .i64 ((rd_T45 l1_1 x21_1).f0), .int .i64 ((rd_T45 l1_1 x21_1).f1), .int .i64 ((rd_T45 l1_1 x21_1).f2), .int .i64 ((rd_T45 l1_1 x21_1).f3)] 45 (0, 0)) (by (with_reducible repeat (first | refine blk_drewN ?_ _ | refine blk_drew ?_ | refine blk_alloc ?_ _)); exact BK1130.out) k_ hk⟩)); (case aO => exact (by (with_reducible repeat (first | apply Kd.R_alloc | apply Kd.R_drewN | apply Kd.R_drew)); exact HO_6.out)); (case aS => exact (below_size (by repeat (first | (with_reducible first | exact HB.out | apply below_alloc | apply pw_below_drewN | apply below_drew1 | refine below_set ?_ GE1119.out | refine below_set ?_ GE1120.out | refine below_set ?_ GE1121.out | refine below_set ?_ GE1130.out) | exact HB.out)))); (case aL => have := LMc25.out; omega); intro v1136 w32 ho hb hg hat; rw [← Ny1135.out] at ho; have n0_ := Aside0.mk (Kd.V_afterv (ok := (fun k_ => ((P0_1_ k_ ∨ P1_1_ k_) ∨ w.heap.size ≤ k_) ∧ k_ ≠ gb1119 ∧ k_ ≠ gb1120 ∧ k_ ≠ gb1121 ∧ k_ ≠ gb1130)) (by (with_reducible repeat (first | apply Kd.V_alloc | apply Kd.V_drewN | apply Kd.V_drew)); exact Kd.V_mono HO_19.out (fun _ hk => ⟨⟨hk.1.1, ⟨hk.1.2.2.1, ⟨hk.1.2.2.2.1, ⟨hk.1.2.2.2.2, hk.2⟩⟩⟩⟩, hk.1.2.1⟩)) hg hat); have n1_ := Aside0.mk (Kd.V_afterv (ok := (fun k_ => ((P0_1_ k_ ∨ P1_1_ k_) ∨ w.heap.size ≤ k_) ∧ k_ ≠ gb1119 ∧ k_ ≠ gb1120 ∧ k_ ≠ gb1121 ∧ k_ ≠ gb1130)) (by (with_reducible repeat (first | apply Kd.V_alloc | apply Kd.V_drewN | apply Kd.V_drew)); exact Kd.V_mono HO_1120001.out (fun _ hk => ⟨⟨hk.1.1, ⟨hk.1.2.2.1, ⟨hk.1.2.2.2.1, ⟨hk.1.2.2.2.2, hk.2⟩⟩⟩⟩, hk.1.2.1⟩)) hg hat); have n2_ := Aside0.mk (Kd.V_afterv (ok := (fun k_ => ((P0_1_ k_ ∨ P1_1_ k_) ∨ w.heap.size ≤ k_) ∧ k_ ≠ gb1119 ∧ k_ ≠ gb1120 ∧ k_ ≠ gb1121 ∧ k_ ≠ gb1130)) (by (with_reducible repeat (first | apply Kd.V_alloc | apply Kd.V_drewN | apply Kd.V_drew)); exact Kd.V_mono HO_1121001.out (fun _ hk => ⟨⟨hk.1.1, ⟨hk.1.2.2.1, ⟨hk.1.2.2.2.1, ⟨hk.1.2.2.2.2, hk.2⟩⟩⟩⟩, hk.1.2.1⟩)) hg hat); have n3_ := Aside0.mk (blk_grown (g := gb1119) (o := .cells #[.int .i64 a0_0, .slice A0_1 l0_1.length c0_1] 26 (0, 0)) (by (with_reducible repeat (first | refine blk_drewN ?_ _ | refine blk_drew ?_ | refine blk_alloc ?_ _)); exact BK1119.out) hg (Kd.R_ne HO_6.out BK1119.out (by decide))); have n4_ := Aside0.mk (blk_grown (g := gb1120) (o := .cells #[.int .i64 a1_0, .slice (some ad1129) l1_1.length c1_1] 26 (0, 0)) (by (with_reducible repeat (first | refine blk_drewN ?_ _ | refine blk_drew ?_ | refine blk_alloc ?_ _)); exact BK1120.out) hg (Kd.R_ne HO_6.out BK1120.out (by decide))); have n5_ := Aside0.mk (blk_grown (g := gb1121) (o := .cells #[.int .i64 0, .slice none 0 0] 26 (0, 0)) (by (with_reducible repeat (first | refine blk_drewN ?_ _ | refine blk_drew ?_ | refine blk_alloc ?_ _)); exact BK1121.out) hg (Kd.R_ne HO_6.out BK1121.out (by decide))); have n6_ := Aside0.mk (blk_grown (g := gb1130) (o := .cells #[.int .i64 ((rd_T45 l1_1 x21_1).f0), .int .i64 ((rd_T45 l1_1 x21_1).f1), .int .i64 ((rd_T45 l1_1 x21_1).f2), .int .i64 ((rd_T45 l1_1 x21_1).f3)] 45 (0, 0)) (by (with_reducible repeat (first | refine blk_drewN ?_ _ | refine blk_drew ?_ | refine blk_alloc ?_ _)); exact BK1130.out) hg (Kd.R_away HO_6.out (fun _ hk => hk.2))); have n7_ := Aside0.mk (hb); have n8_ := Aside0.mk (ho); clear HO_19; clear HO_1120001; clear HO_1121001; clear BK1119; clear BK1120; clear BK1121; clear BK1130; clear HB; clear HO_6; have HO_19 := n0_; have HO_1120001 := n1_; have HO_1121001 := n2_; have BK1119 := n3_; have BK1120 := n4_; have BK1121 := n5_; have BK1130 := n6_; have HB := n7_; have HO1137 := n8_; clear n0_ n1_ n2_ n3_ n4_ n5_ n6_ n7_ n8_; clear ho hb hg hat))
        go_roundg k1
        case measure => have := HK1.out; omega
        case rel => exact ⟨(y1135), (wrap64 (x21_1 + 1)), (by first | rfl | (simp; done) | (simp [*]; done) | (simp; decide +kernel)), H', ⟨by have := HK1.out; omega⟩, ⟨by (with_reducible repeat (first | apply Kd.R_alloc | apply Kd.R_drewN | apply Kd.R_drew)); exact Kd.R_mono HO1137.out (fun _ hk => hk.1)⟩, ⟨by (with_reducible repeat (first | apply Kd.V_alloc | apply Kd.V_drewN | apply Kd.V_drew)); exact Kd.V_mono HO_19.out (fun _ hk => ⟨hk.1.1, ⟨hk.2, ⟨hk.1.2.1, ⟨hk.1.2.2.1, hk.1.2.2.2.1⟩⟩⟩⟩)⟩, ⟨by (with_reducible repeat (first | apply Kd.V_alloc | apply Kd.V_drewN | apply Kd.V_drew)); exact Kd.V_mono HO_1120001.out (fun _ hk => ⟨hk.1.1, ⟨hk.2, ⟨hk.1.2.1, ⟨hk.1.2.2.1, hk.1.2.2.2.1⟩⟩⟩⟩)⟩, ⟨by (with_reducible repeat (first | apply Kd.V_alloc | apply Kd.V_drewN | apply Kd.V_drew)); exact Kd.V_mono HO_1121001.out (fun _ hk => ⟨hk.1.1, ⟨hk.2, ⟨hk.1.2.1, ⟨hk.1.2.2.1, hk.1.2.2.2.1⟩⟩⟩⟩)⟩, ⟨by (with_reducible repeat (first | refine blk_drewN ?_ _ | refine blk_drew ?_ | refine blk_alloc ?_ _)); exact BK1119.out⟩, ⟨by (with_reducible repeat (first | refine blk_drewN ?_ _ | refine blk_drew ?_ | refine blk_alloc ?_ _)); exact BK1120.out⟩, ⟨by (with_reducible repeat (first | refine blk_drewN ?_ _ | refine blk_drew ?_ | refine blk_alloc ?_ _)); exact BK1121.out⟩, ⟨by repeat (first | (with_reducible first | exact HB.out | apply below_alloc | apply pw_below_drewN | apply below_drew1 | refine below_set ?_ GE1119.out | refine below_set ?_ GE1120.out | refine below_set ?_ GE1121.out | refine below_set ?_ GE1130.out) | exact HB.out)⟩⟩
       ·rw [if_neg c25] at H
        exact absurd H (by simp)
      ·rw [if_neg c23] at H
       exact absurd H (by simp)
     ·rw [if_neg c22] at H
      exact absurd H (by simp)
    ·rw [if_neg c21] at H
     have c21b0 : decide (x21_1 < (l1_1.length : Int)) = false := decide_eq_false c21
     clear c21
     replace H := Option.bind_eq_some_iff.mp H
     obtain ⟨⟨t1138, t1139, t1142⟩, A330, H⟩ := H
     replace H : (some (t1138, t1139, t1142)) = some (r1, r2, r3) := H
     have A33 := Aside0.mk A330
     clear A330
     simp only [Option.some.injEq, Prod.mk.injEq] at H
     obtain ⟨rfl, rfl, rfl⟩ := H
     have hnb34 := NB1119_1120.out
     have hnc34 := NB1120_1119.out
     have hnb35 := NB1119_1121.out
     have hnc35 := NB1121_1119.out
     have hcz36_0 : wr.cell? ⟨gb1119, 0, none⟩ = some (.int .i64 a0_0) := (blk_cell BK1119.out 0).trans rfl
     have hcz36_1 : wr.cell? ⟨gb1119, 1, none⟩ = some (.slice A0_1 l0_1.length c0_1) := (blk_cell BK1119.out 1).trans rfl
     have hfz36_0 := blk_frozen BK1119.out 0
     have hfz36_1 := blk_frozen BK1119.out 1
     have hnb37 := NB1120_1121.out
     have hnc37 := NB1121_1120.out
     have hcz38_0 : wr.cell? ⟨gb1120, 0, none⟩ = some (.int .i64 a1_0) := (blk_cell BK1120.out 0).trans rfl
     have hcz38_1 : wr.cell? ⟨gb1120, 1, none⟩ = some (.slice A1_1 l1_1.length c1_1) := (blk_cell BK1120.out 1).trans rfl
     have hfz38_0 := blk_frozen BK1120.out 0
     have hfz38_1 := blk_frozen BK1120.out 1
     obtain ⟨Ao39, co39, eo39⟩ := Kd.R_slice HO_6.out
     subst eo39
     go_wp2_with (first | ((with_reducible refine gate_callee (f := 57) rfl ?_); refine goesL_ (some 38) rfl rfl Try.func57 (by kernel_rfl) rfl #[.int .i64 (wrap64 (a0_0 + a1_0)), .slice Ao39 x6_1.length co39] rfl (by (try simp only [List.map_toArray, List.map_cons, List.map_nil]); first | done | rfl | (simp only [List.length_drop, List.length_take]; rfl)) ?_; (with_reducible refine (impl_limited.calls (wrap64 (a0_0 + a1_0)) _ _ x6_1 t1138 t1139 t1142 _ ?side1 ?side2 A33.out).mono ?_); (case side1 => repeat (first | exact (Kd.R_reads' HO_6.out).2.2 | (with_reducible refine Kd.C_alloc ?_ _) | (with_reducible refine Kd.C_drewN ?_ _) | (with_reducible refine Kd.C_drew ?_))); (case side2 => exact (Kd.R_reads' HO_6.out).2.1); rintro e w40 ⟨v1140, rfl, ho0, hb⟩; refine ⟨_, rfl, ?_⟩; have n0_ := Aside0.mk (Kd.R_elder' (by (with_reducible repeat (first | apply Kd.R_alloc | apply Kd.R_drewN | apply Kd.R_drew)); exact HO_6.out) (Kd.R_base ho0) hb); have n1_ := Aside0.mk (Kd.V_elder' (by (with_reducible repeat (first | apply Kd.V_alloc | apply Kd.V_drewN | apply Kd.V_drew)); exact HO_19.out) (Kd.R_base ho0) hb); have n2_ := Aside0.mk (Kd.V_elder' (by (with_reducible repeat (first | apply Kd.V_alloc | apply Kd.V_drewN | apply Kd.V_drew)); exact HO_1120001.out) (Kd.R_base ho0) hb); have n3_ := Aside0.mk (Kd.V_elder' (by (with_reducible repeat (first | apply Kd.V_alloc | apply Kd.V_drewN | apply Kd.V_drew)); exact HO_1121001.out) (Kd.R_base ho0) hb); have n4_ := Aside0.mk (Kd.R_lower (Kd.R_new' (Kd.R_newM (M := fun k_ => (w.heap.size ≤ k_)) ho0 (below_size (by repeat (first | (with_reducible first | exact HB.out | apply below_alloc | apply pw_below_drewN | apply below_drew1 | refine below_set ?_ GE1119.out | refine below_set ?_ GE1120.out | refine below_set ?_ GE1121.out) | exact HB.out))) (fun k_ h_ => h_)) (Kd.R_lt (by (with_reducible repeat (first | apply Kd.R_alloc | apply Kd.R_drewN | apply Kd.R_drew)); exact HO_6.out))) (below_size (by repeat (first | (with_reducible first | exact HB.out | apply below_alloc | apply pw_below_drewN | apply below_drew1 | refine below_set ?_ GE1119.out | refine below_set ?_ GE1120.out | refine below_set ?_ GE1121.out) | exact HB.out)))); have n5_ := Aside0.mk (blk_below (g := gb1119) (o := .cells #[.int .i64 a0_0, .slice A0_1 l0_1.length c0_1] 26 (0, 0)) (by (with_reducible repeat (first | refine blk_drewN ?_ _ | refine blk_drew ?_ | refine blk_alloc ?_ _)); exact BK1119.out) hb); have n6_ := Aside0.mk (blk_below (g := gb1120) (o := .cells #[.int .i64 a1_0, .slice A1_1 l1_1.length c1_1] 26 (0, 0)) (by (with_reducible repeat (first | refine blk_drewN ?_ _ | refine blk_drew ?_ | refine blk_alloc ?_ _)); exact BK1120.out) hb); have n7_ := Aside0.mk (blk_below (g := gb1121) (o := .cells #[.int .i64 0, .slice none 0 0] 26 (0, 0)) (by (with_reducible repeat (first | refine blk_drewN ?_ _ | refine blk_drew ?_ | refine blk_alloc ?_ _)); exact BK1121.out) hb); have n8_ := Aside0.mk (below_step (by repeat (first | (with_reducible first | exact HB.out | apply below_alloc | apply pw_below_drewN | apply below_drew1 | refine below_set ?_ GE1119.out | refine below_set ?_ GE1120.out | refine below_set ?_ GE1121.out) | exact HB.out)) hb); clear HO_6; clear HO_19; clear HO_1120001; clear HO_1121001; clear BK1119; clear BK1120; clear BK1121; clear HB; have HO_6 := n0_; have HO_19 := n1_; have HO_1120001 := n2_; have HO_1121001 := n3_; have HO1141 := n4_; have BK1119 := n5_; have BK1120 := n6_; have BK1121 := n7_; have HB := n8_; clear n0_ n1_ n2_ n3_ n4_ n5_ n6_ n7_ n8_; (try clear hb); (try clear hb2); (try clear hk); (try clear hi); (try clear ho0); have hcz41_0 : w40.cell? ⟨gb1121, 0, none⟩ = some (.int .i64 0) := (blk_cell BK1121.out 0).trans rfl; have hcz41_1 : w40.cell? ⟨gb1121, 1, none⟩ = some (.slice none 0 0) := (blk_cell BK1121.out 1).trans rfl; have hfz41_0 := blk_frozen BK1121.out 0; have hfz41_1 := blk_frozen BK1121.out 1; obtain ⟨Ao42, co42, eo42⟩ := Kd.R_slice HO1141.out; subst eo42))
     refine bodyPost_ret (results_ct rfl _ _ gb1121 26 #[.int .i64 t1138, .slice Ao42 t1139.length co42] (0, 0) _ rfl (by (with_reducible repeat (first | refine blk_drewN ?_ _ | refine blk_drew ?_ | refine blk_alloc ?_ _)); refine blk_put (cs := #[.int .i64 t1138, .slice none 0 0]) ?_ 1 _ rfl; (with_reducible repeat (first | refine blk_drewN ?_ _ | refine blk_drew ?_ | refine blk_alloc ?_ _)); refine blk_put (cs := #[.int .i64 0, .slice none 0 0]) ?_ 0 _ rfl; (with_reducible repeat (first | refine blk_drewN ?_ _ | refine blk_drew ?_ | refine blk_alloc ?_ _)); exact BK1121.out) Try.underlying26 rfl (by kernel_rfl)) rfl ?_
     exact ⟨_, by first | rfl | (simp [errW_none, errW_some] <;> rfl) | (simp [*, errW_none, errW_some] <;> rfl), by (with_reducible repeat (first | apply Kd.R_alloc | apply Kd.R_drewN | apply Kd.R_drew)); exact Kd.R_mono (Kd.R_far (p := ⟨gb1121, 1, none⟩) (Kd.R_far (p := ⟨gb1121, 0, none⟩) (Kd.R_types HO1141.out BK1121.out (by decide)) (fun _ hk => hk.2) (.int .i64 t1138)) (fun _ hk => hk.2) (.slice Ao42 t1139.length co42)) (fun _ hk => hk.1.1.1), by repeat (first | (with_reducible first | exact HB.out | apply below_alloc | apply pw_below_drewN | apply below_drew1 | refine below_set ?_ GE1119.out | refine below_set ?_ GE1120.out | refine below_set ?_ GE1121.out) | exact HB.out)⟩
 ·replace c4 := Bool.eq_false_iff.mpr c4
  subst c4
  have H1 : (some (0, ([] : List (S45)), 1)) = some (r1, r2, r3) := by rw [if_neg (show ¬ (false = true) by decide)] at H; exact H
  clear H
  have H := H1
  clear H1
  simp only [Option.some.injEq, Prod.mk.injEq] at H
  obtain ⟨rfl, rfl, rfl⟩ := H
  go_enter Try.func33, Try.ntmps33
  go_wp2_with (first | ((with_reducible refine gate_dst (N := 2) rfl ?_); refine box_event ?hg (N := 2) ?hd (cs := #[.int .i64 a0_0, .slice A0_1 l0_1.length c0_1]) (t := 26) ?hr ?_; (case hd => rfl); (case hg => rfl); (case hr => first | (go_simp; done) | (go_simp; rfl)); intro gb1119 hg w43 hbox hb; have n0_ := Aside0.mk (Kd.V_below (Kd.V_elderB (by (with_reducible repeat (first | apply Kd.V_alloc | apply Kd.V_drewN | apply Kd.V_drew)); exact HO0_1.out) gb1119 (Nat.le_of_eq hg.symm)) hb); have n1_ := Aside0.mk (Kd.V_below (Kd.V_elderB (by (with_reducible repeat (first | apply Kd.V_alloc | apply Kd.V_drewN | apply Kd.V_drew)); exact HO1_1.out) gb1119 (Nat.le_of_eq hg.symm)) hb); have n2_ := Aside0.mk (below_step (by repeat (first | (with_reducible first | exact HB.out | apply below_alloc | apply pw_below_drewN | apply below_drew1) | exact HB.out)) hb); have n3_ := Aside0.mk (hbox); have n4_ := Aside0.mk ((by rw [hg]; exact (below_size (by repeat (first | (with_reducible first | exact HB.out | apply below_alloc | apply pw_below_drewN | apply below_drew1) | exact HB.out))) : w.heap.size ≤ gb1119)); have n5_ := Aside0.mk ((by rw [hg]; exact (below_size (by repeat (first | (with_reducible first | exact HB.out | apply below_alloc | apply pw_below_drewN | apply below_drew1) | exact HB.out))) : w.heap.size ≤ gb1119)); clear HO0_1; clear HO1_1; clear HB; have HO0_1 := n0_; have HO1_1 := n1_; have HB := n2_; have BK1119 := n3_; have GW1119 := n4_; have GE1119 := n5_; clear n0_ n1_ n2_ n3_ n4_ n5_; clear hb hbox hg) | ((with_reducible refine gate_dst (N := 3) rfl ?_); refine box_event ?hg (N := 3) ?hd (cs := #[.int .i64 a1_0, .slice A1_1 l1_1.length c1_1]) (t := 26) ?hr ?_; (case hd => rfl); (case hg => rfl); (case hr => first | (go_simp; done) | (go_simp; rfl)); intro gb1120 hg w44 hbox hb; have n0_ := Aside0.mk (Kd.V_below (Kd.V_elderB (by (with_reducible repeat (first | apply Kd.V_alloc | apply Kd.V_drewN | apply Kd.V_drew)); exact HO0_1.out) gb1120 (Nat.le_of_eq hg.symm)) hb); have n1_ := Aside0.mk (Kd.V_below (Kd.V_elderB (by (with_reducible repeat (first | apply Kd.V_alloc | apply Kd.V_drewN | apply Kd.V_drew)); exact HO1_1.out) gb1120 (Nat.le_of_eq hg.symm)) hb); have n2_ := Aside0.mk (blk_below (g := gb1119) (o := .cells #[.int .i64 a0_0, .slice A0_1 l0_1.length c0_1] 26 (0, 0)) (by (with_reducible repeat (first | refine blk_drewN ?_ _ | refine blk_drew ?_ | refine blk_alloc ?_ _)); exact BK1119.out) hb); have n3_ := Aside0.mk (below_step (by repeat (first | (with_reducible first | exact HB.out | apply below_alloc | apply pw_below_drewN | apply below_drew1 | refine below_set ?_ GE1119.out) | exact HB.out)) hb); have n4_ := Aside0.mk (hbox); have n5_ := Aside0.mk ((by rw [hg]; exact (below_size (by repeat (first | (with_reducible first | exact HB.out | apply below_alloc | apply pw_below_drewN | apply below_drew1 | refine below_set ?_ GE1119.out) | exact HB.out))) : w.heap.size ≤ gb1120)); have n6_ := Aside0.mk ((by rw [hg]; exact (below_size (by repeat (first | (with_reducible first | exact HB.out | apply below_alloc | apply pw_below_drewN | apply below_drew1 | refine below_set ?_ GE1119.out) | exact HB.out))) : w.heap.size ≤ gb1120)); have n7_ := Aside0.mk ((by rw [hg]; exact Nat.ne_of_lt (blk_lt (g := gb1119) (o := .cells #[.int .i64 a0_0, .slice A0_1 l0_1.length c0_1] 26 (0, 0)) (by (with_reducible repeat (first | refine blk_drewN ?_ _ | refine blk_drew ?_ | refine blk_alloc ?_ _)); exact BK1119.out)) : gb1119 ≠ gb1120)); have n8_ := Aside0.mk ((by rw [hg]; exact Nat.ne_of_gt (blk_lt (g := gb1119) (o := .cells #[.int .i64 a0_0, .slice A0_1 l0_1.length c0_1] 26 (0, 0)) (by (with_reducible repeat (first | refine blk_drewN ?_ _ | refine blk_drew ?_ | refine blk_alloc ?_ _)); exact BK1119.out)) : gb1120 ≠ gb1119)); clear HO0_1; clear HO1_1; clear BK1119; clear HB; have HO0_1 := n0_; have HO1_1 := n1_; have BK1119 := n2_; have HB := n3_; have BK1120 := n4_; have GW1120 := n5_; have GE1120 := n6_; have NB1119_1120 := n7_; have NB1120_1119 := n8_; clear n0_ n1_ n2_ n3_ n4_ n5_ n6_ n7_ n8_; clear hb hbox hg) | ((with_reducible refine gate_dst (N := 4) rfl ?_); refine box_event ?hg (N := 4) ?hd (cs := #[.int .i64 0, .slice none 0 0]) (t := 26) ?hr ?_; (case hd => rfl); (case hg => rfl); (case hr => first | (go_simp; done) | (go_simp; rfl)); intro gb1121 hg w45 hbox hb; have n0_ := Aside0.mk (Kd.V_below (Kd.V_elderB (by (with_reducible repeat (first | apply Kd.V_alloc | apply Kd.V_drewN | apply Kd.V_drew)); exact HO0_1.out) gb1121 (Nat.le_of_eq hg.symm)) hb); have n1_ := Aside0.mk (Kd.V_below (Kd.V_elderB (by (with_reducible repeat (first | apply Kd.V_alloc | apply Kd.V_drewN | apply Kd.V_drew)); exact HO1_1.out) gb1121 (Nat.le_of_eq hg.symm)) hb); have n2_ := Aside0.mk (blk_below (g := gb1119) (o := .cells #[.int .i64 a0_0, .slice A0_1 l0_1.length c0_1] 26 (0, 0)) (by (with_reducible repeat (first | refine blk_drewN ?_ _ | refine blk_drew ?_ | refine blk_alloc ?_ _)); exact BK1119.out) hb); have n3_ := Aside0.mk (blk_below (g := gb1120) (o := .cells #[.int .i64 a1_0, .slice A1_1 l1_1.length c1_1] 26 (0, 0)) (by (with_reducible repeat (first | refine blk_drewN ?_ _ | refine blk_drew ?_ | refine blk_alloc ?_ _)); exact BK1120.out) hb); have n4_ := Aside0.mk (below_step (by repeat (first | (with_reducible first | exact HB.out | apply below_alloc | apply pw_below_drewN | apply below_drew1 | refine below_set ?_ GE1119.out | refine below_set ?_ GE1120.out) | exact HB.out)) hb); have n5_ := Aside0.mk (hbox); have n6_ := Aside0.mk ((by rw [hg]; exact (below_size (by repeat (first | (with_reducible first | exact HB.out | apply below_alloc | apply pw_below_drewN | apply below_drew1 | refine below_set ?_ GE1119.out | refine below_set ?_ GE1120.out) | exact HB.out))) : w.heap.size ≤ gb1121)); have n7_ := Aside0.mk ((by rw [hg]; exact (below_size (by repeat (first | (with_reducible first | exact HB.out | apply below_alloc | apply pw_below_drewN | apply below_drew1 | refine below_set ?_ GE1119.out | refine below_set ?_ GE1120.out) | exact HB.out))) : w.heap.size ≤ gb1121)); have n8_ := Aside0.mk ((by rw [hg]; exact Nat.ne_of_lt (blk_lt (g := gb1119) (o := .cells #[.int .i64 a0_0, .slice A0_1 l0_1.length c0_1] 26 (0, 0)) (by (with_reducible repeat (first | refine blk_drewN ?_ _ | refine blk_drew ?_ | refine blk_alloc ?_ _)); exact BK1119.out)) : gb1119 ≠ gb1121)); have n9_ := Aside0.mk ((by rw [hg]; exact Nat.ne_of_gt (blk_lt (g := gb1119) (o := .cells #[.int .i64 a0_0, .slice A0_1 l0_1.length c0_1] 26 (0, 0)) (by (with_reducible repeat (first | refine blk_drewN ?_ _ | refine blk_drew ?_ | refine blk_alloc ?_ _)); exact BK1119.out)) : gb1121 ≠ gb1119)); have n10_ := Aside0.mk ((by rw [hg]; exact Nat.ne_of_lt (blk_lt (g := gb1120) (o := .cells #[.int .i64 a1_0, .slice A1_1 l1_1.length c1_1] 26 (0, 0)) (by (with_reducible repeat (first | refine blk_drewN ?_ _ | refine blk_drew ?_ | refine blk_alloc ?_ _)); exact BK1120.out)) : gb1120 ≠ gb1121)); have n11_ := Aside0.mk ((by rw [hg]; exact Nat.ne_of_gt (blk_lt (g := gb1120) (o := .cells #[.int .i64 a1_0, .slice A1_1 l1_1.length c1_1] 26 (0, 0)) (by (with_reducible repeat (first | refine blk_drewN ?_ _ | refine blk_drew ?_ | refine blk_alloc ?_ _)); exact BK1120.out)) : gb1121 ≠ gb1120)); clear HO0_1; clear HO1_1; clear BK1119; clear BK1120; clear HB; have HO0_1 := n0_; have HO1_1 := n1_; have BK1119 := n2_; have BK1120 := n3_; have HB := n4_; have BK1121 := n5_; have GW1121 := n6_; have GE1121 := n7_; have NB1119_1121 := n8_; have NB1121_1119 := n9_; have NB1120_1121 := n10_; have NB1121_1120 := n11_; clear n0_ n1_ n2_ n3_ n4_ n5_ n6_ n7_ n8_ n9_ n10_ n11_; clear hb hbox hg; have hnb46 := NB1119_1120.out; have hnc46 := NB1120_1119.out; have hnb47 := NB1119_1121.out; have hnc47 := NB1121_1119.out; have hcz48_0 : w45.cell? ⟨gb1119, 0, none⟩ = some (.int .i64 a0_0) := (blk_cell BK1119.out 0).trans rfl; have hcz48_1 : w45.cell? ⟨gb1119, 1, none⟩ = some (.slice A0_1 l0_1.length c0_1) := (blk_cell BK1119.out 1).trans rfl; have hfz48_0 := blk_frozen BK1119.out 0; have hfz48_1 := blk_frozen BK1119.out 1; have hnb49 := NB1120_1121.out; have hnc49 := NB1121_1120.out; have hcz50_0 : w45.cell? ⟨gb1120, 0, none⟩ = some (.int .i64 a1_0) := (blk_cell BK1120.out 0).trans rfl; have hcz50_1 : w45.cell? ⟨gb1120, 1, none⟩ = some (.slice A1_1 l1_1.length c1_1) := (blk_cell BK1120.out 1).trans rfl; have hfz50_0 := blk_frozen BK1120.out 0; have hfz50_1 := blk_frozen BK1120.out 1) | ((with_reducible refine gate_dst (N := 11) rfl ?_); refine Kd.N_lit k26 _ 26 ?hg (N' := 11) ?hd (xs := ([(⟨a0_0, l0_1⟩ : S26), (⟨a1_0, l1_1⟩ : S26)] : List (S26))) (inner := [.int .i64 a0_0, .slice A0_1 l0_1.length c0_1, .int .i64 a1_0, .slice A1_1 l1_1.length c1_1]) (ok := (fun k_ => ((P0_1_ k_ ∨ P1_1_ k_) ∨ w.heap.size ≤ k_) ∧ k_ ≠ gb1119 ∧ k_ ≠ gb1120 ∧ k_ ≠ gb1121)) (okp := (fun k_ => ((P0_1_ k_ ∨ P1_1_ k_) ∨ w.heap.size ≤ k_) ∧ k_ ≠ gb1119 ∧ k_ ≠ gb1120 ∧ k_ ≠ gb1121)) ?hr ?hp (fun _ hk => hk) ((show ∀ k_, w45.heap.size ≤ k_ → (fun k_ => ((P0_1_ k_ ∨ P1_1_ k_) ∨ w.heap.size ≤ k_) ∧ k_ ≠ gb1119 ∧ k_ ≠ gb1120 ∧ k_ ≠ gb1121) k_ from fun k_ hk => ⟨(.inr (Nat.le_trans (below_size (by repeat (first | (with_reducible first | exact HB.out | apply below_alloc | apply pw_below_drewN | apply below_drew1 | refine below_set ?_ GE1119.out | refine below_set ?_ GE1120.out | refine below_set ?_ GE1121.out) | exact HB.out))) hk)), Kd.freshB (g := gb1119) (o := .cells #[.int .i64 a0_0, .slice A0_1 l0_1.length c0_1] 26 (0, 0)) (by (with_reducible repeat (first | refine blk_drewN ?_ _ | refine blk_drew ?_ | refine blk_alloc ?_ _)); exact BK1119.out) k_ hk, Kd.freshB (g := gb1120) (o := .cells #[.int .i64 a1_0, .slice A1_1 l1_1.length c1_1] 26 (0, 0)) (by (with_reducible repeat (first | refine blk_drewN ?_ _ | refine blk_drew ?_ | refine blk_alloc ?_ _)); exact BK1120.out) k_ hk, Kd.freshB (g := gb1121) (o := .cells #[.int .i64 0, .slice none 0 0] 26 (0, 0)) (by (with_reducible repeat (first | refine blk_drewN ?_ _ | refine blk_drew ?_ | refine blk_alloc ?_ _)); exact BK1121.out) k_ hk⟩) _ (Nat.le_refl _)) (Below.refl _ _) (Nat.le_refl _) (by simp) ?_; (case hd => rfl); (case hg => rfl); (case hr => first | (go_simp; done) | (go_simp; rfl)); (case hp => exact (Reps.c2 (show Kd.FK k26 _ _ (⟨a0_0, l0_1⟩ : S26) [.int .i64 a0_0, .slice A0_1 l0_1.length c0_1] from (k26_mkF _ _ (⟨a0_0, l0_1⟩ : S26) (Kd.V_reads' (Kd.V_mono (ok' := (fun k_ => ((P0_1_ k_ ∨ P1_1_ k_) ∨ w.heap.size ≤ k_) ∧ k_ ≠ gb1119 ∧ k_ ≠ gb1120 ∧ k_ ≠ gb1121)) (HO0_1.out) (fun k_ hk => ⟨hk.1.1.1, ⟨hk.1.1.2, ⟨hk.1.2, hk.2⟩⟩⟩))).2.1 (Kd.V_F (Kd.V_mono (ok' := (fun k_ => ((P0_1_ k_ ∨ P1_1_ k_) ∨ w.heap.size ≤ k_) ∧ k_ ≠ gb1119 ∧ k_ ≠ gb1120 ∧ k_ ≠ gb1121)) (HO0_1.out) (fun k_ hk => ⟨hk.1.1.1, ⟨hk.1.1.2, ⟨hk.1.2, hk.2⟩⟩⟩))))) (Reps.c2 (show Kd.FK k26 _ _ (⟨a1_0, l1_1⟩ : S26) [.int .i64 a1_0, .slice A1_1 l1_1.length c1_1] from (k26_mkF _ _ (⟨a1_0, l1_1⟩ : S26) (Kd.V_reads' (Kd.V_mono (ok' := (fun k_ => ((P0_1_ k_ ∨ P1_1_ k_) ∨ w.heap.size ≤ k_) ∧ k_ ≠ gb1119 ∧ k_ ≠ gb1120 ∧ k_ ≠ gb1121)) (HO1_1.out) (fun k_ hk => ⟨hk.1.1.1, ⟨hk.1.1.2, ⟨hk.1.2, hk.2⟩⟩⟩))).2.1 (Kd.V_F (Kd.V_mono (ok' := (fun k_ => ((P0_1_ k_ ∨ P1_1_ k_) ∨ w.heap.size ≤ k_) ∧ k_ ≠ gb1119 ∧ k_ ≠ gb1120 ∧ k_ ≠ gb1121)) (HO1_1.out) (fun k_ hk => ⟨hk.1.1.1, ⟨hk.1.1.2, ⟨hk.1.2, hk.2⟩⟩⟩))))) (Reps.none _ _)))); intro v1123 w51 ho52 hb hg_ hnew_; clear hg_ hnew_; (first | rw [← Ny1122.out] at ho52 | (simp only [Int.reduceToNat] at ho52; rw [← Ny1122.out] at ho52)); have n0_ := Aside0.mk (Kd.V_elder' (by (with_reducible repeat (first | apply Kd.V_alloc | apply Kd.V_drewN | apply Kd.V_drew)); exact HO0_1.out) (Kd.N_base ho52) hb); have n1_ := Aside0.mk (Kd.V_elder' (by (with_reducible repeat (first | apply Kd.V_alloc | apply Kd.V_drewN | apply Kd.V_drew)); exact HO1_1.out) (Kd.N_base ho52) hb); have n2_ := Aside0.mk (Kd.N_lower ho52 (below_size (by repeat (first | (with_reducible first | exact HB.out | apply below_alloc | apply pw_below_drewN | apply below_drew1 | refine below_set ?_ GE1119.out | refine below_set ?_ GE1120.out | refine below_set ?_ GE1121.out) | exact HB.out)))); have n3_ := Aside0.mk (blk_below (g := gb1119) (o := .cells #[.int .i64 a0_0, .slice A0_1 l0_1.length c0_1] 26 (0, 0)) (by (with_reducible repeat (first | refine blk_drewN ?_ _ | refine blk_drew ?_ | refine blk_alloc ?_ _)); exact BK1119.out) hb); have n4_ := Aside0.mk (blk_below (g := gb1120) (o := .cells #[.int .i64 a1_0, .slice A1_1 l1_1.length c1_1] 26 (0, 0)) (by (with_reducible repeat (first | refine blk_drewN ?_ _ | refine blk_drew ?_ | refine blk_alloc ?_ _)); exact BK1120.out) hb); have n5_ := Aside0.mk (blk_below (g := gb1121) (o := .cells #[.int .i64 0, .slice none 0 0] 26 (0, 0)) (by (with_reducible repeat (first | refine blk_drewN ?_ _ | refine blk_drew ?_ | refine blk_alloc ?_ _)); exact BK1121.out) hb); have n6_ := Aside0.mk (below_step (by repeat (first | (with_reducible first | exact HB.out | apply below_alloc | apply pw_below_drewN | apply below_drew1 | refine below_set ?_ GE1119.out | refine below_set ?_ GE1120.out | refine below_set ?_ GE1121.out) | exact HB.out)) hb); clear HO0_1; clear HO1_1; clear BK1119; clear BK1120; clear BK1121; clear HB; have HO0_1 := n0_; have HO1_1 := n1_; have HO1124 := n2_; have BK1119 := n3_; have BK1120 := n4_; have BK1121 := n5_; have HB := n6_; clear n0_ n1_ n2_ n3_ n4_ n5_ n6_; clear hb ho52; obtain ⟨Ao53, co53, eo53⟩ := Kd.N_slice HO1124.out; subst eo53) | ((with_reducible refine gate_callee (f := 71) rfl ?_); refine goesL_ (some 12) rfl rfl Try.func71 (by kernel_rfl) rfl #[.slice Ao53 y1122.length co53] rfl (by (try simp only [List.map_toArray, List.map_cons, List.map_nil]); first | done | rfl | (simp only [List.length_drop, List.length_take]; rfl)) ?_; (with_reducible refine (impl_areSets.calls k _ _ y1122 false _ ?side1 ?side2 A3.out).mono ?_); (case side1 => repeat (first | exact (Kd.N_reads' HO1124.out).2.2 | (with_reducible refine Kd.C_alloc ?_ _) | (with_reducible refine Kd.C_drewN ?_ _) | (with_reducible refine Kd.C_drew ?_))); (case side2 => exact (Kd.N_reads' HO1124.out).2.1); rintro e w54 ⟨rfl, hb⟩; refine ⟨_, rfl, ?_⟩; have n0_ := Aside0.mk (Kd.V_below (by (with_reducible repeat (first | apply Kd.V_alloc | apply Kd.V_drewN | apply Kd.V_drew)); exact HO0_1.out) hb); have n1_ := Aside0.mk (Kd.V_below (by (with_reducible repeat (first | apply Kd.V_alloc | apply Kd.V_drewN | apply Kd.V_drew)); exact HO1_1.out) hb); have n2_ := Aside0.mk (Kd.N_below (by (with_reducible repeat (first | apply Kd.N_alloc | apply Kd.N_drewN | apply Kd.N_drew)); exact HO1124.out) hb); have n3_ := Aside0.mk (blk_below (g := gb1119) (o := .cells #[.int .i64 a0_0, .slice A0_1 l0_1.length c0_1] 26 (0, 0)) (by (with_reducible repeat (first | refine blk_drewN ?_ _ | refine blk_drew ?_ | refine blk_alloc ?_ _)); exact BK1119.out) hb); have n4_ := Aside0.mk (blk_below (g := gb1120) (o := .cells #[.int .i64 a1_0, .slice A1_1 l1_1.length c1_1] 26 (0, 0)) (by (with_reducible repeat (first | refine blk_drewN ?_ _ | refine blk_drew ?_ | refine blk_alloc ?_ _)); exact BK1120.out) hb); have n5_ := Aside0.mk (blk_below (g := gb1121) (o := .cells #[.int .i64 0, .slice none 0 0] 26 (0, 0)) (by (with_reducible repeat (first | refine blk_drewN ?_ _ | refine blk_drew ?_ | refine blk_alloc ?_ _)); exact BK1121.out) hb); have n6_ := Aside0.mk (below_step (by repeat (first | (with_reducible first | exact HB.out | apply below_alloc | apply pw_below_drewN | apply below_drew1 | refine below_set ?_ GE1119.out | refine below_set ?_ GE1120.out | refine below_set ?_ GE1121.out) | exact HB.out)) hb); clear HO0_1; clear HO1_1; clear HO1124; clear BK1119; clear BK1120; clear BK1121; clear HB; have HO0_1 := n0_; have HO1_1 := n1_; have HO1124 := n2_; have BK1119 := n3_; have BK1120 := n4_; have BK1121 := n5_; have HB := n6_; clear n0_ n1_ n2_ n3_ n4_ n5_ n6_; (try clear hb); (try clear hb2); (try clear hk); (try clear hi); have hcz55_0 : w54.cell? ⟨gb1121, 0, none⟩ = some (.int .i64 0) := (blk_cell BK1121.out 0).trans rfl; have hcz55_1 : w54.cell? ⟨gb1121, 1, none⟩ = some (.slice none 0 0) := (blk_cell BK1121.out 1).trans rfl; have hfz55_0 := blk_frozen BK1121.out 0; have hfz55_1 := blk_frozen BK1121.out 1))
  refine bodyPost_ret (results_ct rfl _ _ gb1121 26 #[.int .i64 0, .slice none 0 0] (0, 0) _ rfl (by (with_reducible repeat (first | refine blk_drewN ?_ _ | refine blk_drew ?_ | refine blk_alloc ?_ _)); refine blk_put (cs := #[.int .i64 0, .slice none 0 0]) ?_ 1 _ rfl; (with_reducible repeat (first | refine blk_drewN ?_ _ | refine blk_drew ?_ | refine blk_alloc ?_ _)); refine blk_put (cs := #[.int .i64 0, .slice none 0 0]) ?_ 0 _ rfl; (with_reducible repeat (first | refine blk_drewN ?_ _ | refine blk_drew ?_ | refine blk_alloc ?_ _)); exact BK1121.out) Try.underlying26 rfl (by kernel_rfl)) rfl ?_
  exact ⟨_, by first | rfl | (simp [errW_none, errW_some] <;> rfl) | (simp [*, errW_none, errW_some] <;> rfl), by first | exact Kd.R_nil _ _ _ _ _ | exact Kd.N_nil _ _ _ _ _ | exact Kd.V_nil _ _ _ _ _ | exact Kd.Q_nil _ _ _ _ _ | exact Kd.S_nil _ _ _ _ _, by repeat (first | (with_reducible first | exact HB.out | apply below_alloc | apply pw_below_drewN | apply below_drew1 | refine below_set ?_ GE1119.out | refine below_set ?_ GE1120.out | refine below_set ?_ GE1121.out) | exact HB.out)⟩

end Go.Proofs.Ytnjmgmdpkogocaa.Q

/-
  JoinSets: what both return.
-/
namespace Go.Proofs.Ytnjmgmdpkogocaa
open Go Go.RowKit Go.Proofs Go.Proofs.YtnjmgmdpkogocaaW.PrintWords Go.Proofs.YtnjmgmdpkogocaaW.PrintMore Go.Proofs.Ytnjmgmdpkogocaa.Q
set_option linter.unusedVariables false
set_option linter.unusedSimpArgs false

def shT (C : Int) (t : T4) : T4 := ⟨C + t.a, C + t.b, C + t.c, C + t.d⟩
def joinR (C : Int) (ts : List T4) (D : Int) (us : List T4) : (Int × List T4) × Int := if isS C ts = true then if isS D us = true then toldR (C + D) (ts ++ us.map (shT C)) else ((0, []), 1) else ((0, []), 1)
theorem joinR_len (C : Int) (ts : List T4) (D : Int) (us : List T4) : (joinR C ts D us).1.2.length ≤ 1048576 := by
  unfold joinR toldR
  split
  · split
    · split
      · rename_i h
        rw [Bool.and_eq_true, decide_eq_true_eq, decide_eq_true_eq] at h
        exact Nat.le_trans h.2 (by omega)
      · simp
    · simp
  · simp
theorem shT_lt {C : Int} {t u : T4} (h : ltT t u = true) : ltT (shT C t) (shT C u) = true := by
  rw [ltT_iff] at h ⊢
  simp [T4.get, shT] at h ⊢
  omega
theorem join_asc {C : Int} {ts : List T4} {D : Int} {us : List T4} (h1 : isS C ts = true) (h2 : isS D us = true) : Asc (ts ++ us.map (shT C)) := by
  unfold Asc
  rw [List.pairwise_append, List.pairwise_map]
  refine ⟨isS_asc h1, (isS_asc h2).imp fun h => shT_lt h, fun t ht u hu => ?_⟩
  obtain ⟨v, hv, rfl⟩ := List.mem_map.1 hu
  have a1 := (isS_cols h1 t ht).1
  have a2 := (isS_cols h2 v hv).1
  rw [ltT_iff]
  left
  simp [T4.get, shT]
  omega
theorem join_lim {C : Int} {ts : List T4} {D : Int} {us : List T4} (h1 : isS C ts = true) (h2 : isS D us = true) : limR (C + D) (ts ++ us.map (shT C)) = toldR (C + D) (ts ++ us.map (shT C)) := by
  rw [limR_told, ← sortT_eq (join_asc h1 h2) fun t => Iff.rfl]
theorem wz0 : wrap64 (0 + 1) = 1 := by unfold wrap64; omega
theorem wz1 : wrap64 (1 + 1) = 2 := by unfold wrap64; omega
theorem wz2 : wrap64 (2 + 1) = 3 := by unfold wrap64; omega
theorem wz3 : wrap64 (3 + 1) = 4 := by unfold wrap64; omega
theorem wr {x C : Int} (h : 0 ≤ x ∧ x < 100) (hC : 0 ≤ C ∧ C < 100) : wrap64 (x + C) = C + x := by unfold wrap64; omega
theorem wr2 {x C : Int} (h : 0 ≤ x ∧ x < 100) (hC : 0 ≤ C ∧ C < 100) : wrap64 (C + x) = C + x := by unfold wrap64; omega
theorem joinTile (C : Int) (l : List STile) (x : STile) (hC : 0 ≤ C ∧ C < 100) (h : (0 ≤ x.f0 ∧ x.f0 < 100) ∧ (0 ≤ x.f1 ∧ x.f1 < 100) ∧ (0 ≤ x.f2 ∧ x.f2 < 100) ∧ (0 ≤ x.f3 ∧ x.f3 < 100)) :
    impl_Tile_coloured_at_impl_JoinSets_1.f x.f0 x.f1 x.f2 x.f3 C l = some ((toS (shT C (toT x))).f0, (toS (shT C (toT x))).f1, (toS (shT C (toT x))).f2, (toS (shT C (toT x))).f3) := by
  rw [impl_Tile_coloured_at_impl_JoinSets_1.f]
  simp only [impl_JoinSets_1.f, Option.bind_some, wr2 h.1 hC, wr2 h.2.1 hC, wr2 h.2.2.1 hC, wr2 h.2.2.2 hC]
  rfl
theorem implJoin_l0 (C : Int) (l : List STile) (D : Int) (u : List STile) (hu : u.length ≤ 16) (hC : 0 ≤ C ∧ C < 100) (hD : 0 ≤ D ∧ D < 100) (ht : ∀ x ∈ u, (0 ≤ x.f0 ∧ x.f0 < 100) ∧ (0 ≤ x.f1 ∧ x.f1 < 100) ∧ (0 ≤ x.f2 ∧ x.f2 < 100) ∧ (0 ≤ x.f3 ∧ x.f3 < 100)) : ∀ d m (acc : List STile), m + d = u.length → acc.length ≤ 16 + m →
    Ev (fun k => impl_JoinSets.l0 k acc u (u.length : Int) (m : Int) C l D u) (flat (limR (C + D) (acc.map toT ++ ((u.drop m).map toT).map (shT C)))) := by
  intro d
  induction d with
  | zero =>
    intro m acc hm ha
    have b1 : ¬ (m : Int) < (u.length : Int) := by omega
    refine Ev.step (fun k => ?_) (Ev.now _)
    rw [impl_JoinSets.l0, if_neg b1, wr2 hD hC, limited_f (C + D) acc (by omega), List.drop_of_length_le (by omega)]
    simp [flat]
  | succ d ih =>
    intro m acc hm ha
    have hlt : m < u.length := by omega
    have b1 : (m : Int) < (u.length : Int) := by omega
    have b2 : (0 : Int) ≤ (m : Int) := Int.natCast_nonneg m
    have b3 : acc.length < 4398046511104 := by omega
    have hm9 : m < 1000000000 := by omega
    have hd : u.drop m = u[m] :: u.drop (m + 1) := List.drop_eq_getElem_cons hlt
    have hi := ih (m + 1) (acc ++ [toS (shT C (toT u[m]))]) (by omega) (by rw [List.length_append, List.length_singleton]; omega)
    have e : acc.map toT ++ ((u.drop m).map toT).map (shT C) = (acc ++ [toS (shT C (toT u[m]))]).map toT ++ ((u.drop (m + 1)).map toT).map (shT C) := by
      rw [hd]; simp only [List.map_cons, List.map_append, List.map_nil, List.append_assoc, List.cons_append, List.nil_append, toT_toS]
    rw [e]
    refine Ev.step (fun k => ?_) hi
    rw [impl_JoinSets.l0, if_pos b1, if_pos b2, if_pos b1, rdT_get u m hlt, joinTile C l _ hC (ht _ (List.getElem_mem hlt)), wrap_succ m hm9, Option.bind_some, if_pos b3]
theorem small_tiles {C : Int} {l : List STile} (h : isS C (l.map toT) = true) : ∀ x ∈ l, (0 ≤ x.f0 ∧ x.f0 < 100) ∧ (0 ≤ x.f1 ∧ x.f1 < 100) ∧ (0 ≤ x.f2 ∧ x.f2 < 100) ∧ (0 ≤ x.f3 ∧ x.f3 < 100) := by
  intro x hx
  have h1 := isS_lens h
  have := isS_cols h (toT x) (List.mem_map_of_mem hx)
  simp only [toT] at this
  omega
theorem implJoin_ev (C : Int) (l : List STile) (D : Int) (u : List STile) (hl : l.length ≤ 35184372088832) (hu : u.length ≤ 35184372088832) : Ev (fun k => impl_JoinSets.f k C l D u) (flat (joinR C (l.map toT) D (u.map toT))) := by
  refine Ev.congr (f := fun k => (impl_areSets.f k [(⟨C, l⟩ : SSet), (⟨D, u⟩ : SSet)]).bind fun t => if t = true then (slices_Clone_impl_Tile_impl_Tile.f l).bind fun y => impl_JoinSets.l0 k y u (u.length : Int) 0 C l D u else some (0, [], 1)) (fun k => by rw [impl_JoinSets.f]) ?_
  refine Ev.bind (areSets_ev C l D u hl hu) ?_
  unfold joinR
  cases h1 : isS C (l.map toT)
  · exact Ev.now _
  · cases h2 : isS D (u.map toT)
    · exact Ev.now _
    · have a1 := isS_lens h1
      have a2 := isS_lens h2
      rw [List.length_map] at a1 a2
      have h6 : lim6 l.length = true := by simp [lim6]; omega
      have h := implJoin_l0 C l D u (by omega) (by omega) (by omega) (small_tiles h2) u.length 0 l (by omega) (by omega)
      rw [List.drop_zero, join_lim h1 h2] at h
      exact Ev.congr (fun k => by rw [if_pos (by rfl), slices_Clone_impl_Tile_impl_Tile.f, if_pos h6]; rfl) h
theorem specJoin_l0 (C : Int) (l : List STile) (D : Int) (u : List STile) (C1 : Int) (hu : u.length ≤ 16) (hC : 0 ≤ C ∧ C < 100) (ht : ∀ x ∈ u, (0 ≤ x.f0 ∧ x.f0 < 100) ∧ (0 ≤ x.f1 ∧ x.f1 < 100) ∧ (0 ≤ x.f2 ∧ x.f2 < 100) ∧ (0 ≤ x.f3 ∧ x.f3 < 100)) : ∀ d m (acc : List STile), m + d = u.length → acc.length ≤ 16 + m →
    Ev (fun k => spec_JoinSets.l0 k (m : Int) C l D u C1 acc) (flat (toldR C1 (acc.map toT ++ ((u.drop m).map toT).map (shT C)))) := by
  intro d
  induction d with
  | zero =>
    intro m acc hm ha
    have b1 : ¬ (m : Int) < (u.length : Int) := by omega
    refine Ev.step (fun k => ?_) (Ev.now _)
    rw [spec_JoinSets.l0, if_neg b1, told_f2, List.drop_of_length_le (by omega)]
    simp [flat]
  | succ d ih =>
    intro m acc hm ha
    have hlt : m < u.length := by omega
    have b1 : (m : Int) < (u.length : Int) := by omega
    have b2 : (0 : Int) ≤ (m : Int) := Int.natCast_nonneg m
    have b3 : acc.length < 4398046511104 := by omega
    have hm9 : m < 1000000000 := by omega
    have hd : u.drop m = u[m] :: u.drop (m + 1) := List.drop_eq_getElem_cons hlt
    have hi := ih (m + 1) (acc ++ [toS (shT C (toT u[m]))]) (by omega) (by rw [List.length_append, List.length_singleton]; omega)
    have e : acc.map toT ++ ((u.drop m).map toT).map (shT C) = (acc ++ [toS (shT C (toT u[m]))]).map toT ++ ((u.drop (m + 1)).map toT).map (shT C) := by
      rw [hd]; simp only [List.map_cons, List.map_append, List.map_nil, List.append_assoc, List.cons_append, List.nil_append, toT_toS]
    rw [e]
    have hx := ht _ (List.getElem_mem hlt)
    have s0 : ∀ k (a b c d : Int), spec_JoinSets.l1 (k + 1) (m : Int) 0 C l D u C1 acc a b c d = spec_JoinSets.l1 k (m : Int) 1 C l D u C1 acc (wrap64 (a + C)) b c d := fun k a b c d => by rw [spec_JoinSets.l1, if_pos (by decide), if_pos (by decide), wz0]
    have s1 : ∀ k (a b c d : Int), spec_JoinSets.l1 (k + 1) (m : Int) 1 C l D u C1 acc a b c d = spec_JoinSets.l1 k (m : Int) 2 C l D u C1 acc a (wrap64 (b + C)) c d := fun k a b c d => by rw [spec_JoinSets.l1, if_pos (by decide), if_neg (by decide), if_pos (by decide), wz1]
    have s2 : ∀ k (a b c d : Int), spec_JoinSets.l1 (k + 1) (m : Int) 2 C l D u C1 acc a b c d = spec_JoinSets.l1 k (m : Int) 3 C l D u C1 acc a b (wrap64 (c + C)) d := fun k a b c d => by rw [spec_JoinSets.l1, if_pos (by decide), if_neg (by decide), if_neg (by decide), if_pos (by decide), wz2]
    have s3 : ∀ k (a b c d : Int), spec_JoinSets.l1 (k + 1) (m : Int) 3 C l D u C1 acc a b c d = spec_JoinSets.l1 k (m : Int) 4 C l D u C1 acc a b c (wrap64 (d + C)) := fun k a b c d => by rw [spec_JoinSets.l1, if_pos (by decide), if_neg (by decide), if_neg (by decide), if_neg (by decide), if_pos (by decide), wz3]
    have s4 : ∀ k (a b c d : Int), spec_JoinSets.l1 (k + 1) (m : Int) 4 C l D u C1 acc a b c d = spec_JoinSets.l0 k ((m + 1 : Nat) : Int) C l D u C1 (acc ++ [⟨a, b, c, d⟩]) := fun k a b c d => by rw [spec_JoinSets.l1, if_neg (by decide), if_pos b3, wrap_succ m hm9]
    refine Ev.step (f := fun k => spec_JoinSets.l1 k (m : Int) 0 C l D u C1 acc u[m].f0 u[m].f1 u[m].f2 u[m].f3) (fun k => by rw [spec_JoinSets.l0, if_pos b1, if_pos b2, rdT_get u m hlt]) ?_
    refine Ev.step (fun k => s0 k _ _ _ _) (Ev.step (fun k => s1 k _ _ _ _) (Ev.step (fun k => s2 k _ _ _ _) (Ev.step (fun k => s3 k _ _ _ _) (Ev.step (fun k => s4 k _ _ _ _) ?_))))
    rw [wr hx.1 hC, wr hx.2.1 hC, wr hx.2.2.1 hC, wr hx.2.2.2 hC]
    exact hi
theorem specJoin_ev (C : Int) (l : List STile) (D : Int) (u : List STile) (hl : l.length ≤ 35184372088832) (hu : u.length ≤ 35184372088832) : Ev (fun k => spec_JoinSets.f k C l D u) (flat (joinR C (l.map toT) D (u.map toT))) := by
  have hin : inLim l.length = true := by simpa [inLim] using hl
  have hin2 : inLim u.length = true := by simpa [inLim] using hu
  have e1 : spec_l01Is.f C l = some (isS C (l.map toT)) := by rw [spec_l01Is.f, if_pos hin]
  have e2 : spec_l01Is.f D u = some (isS D (u.map toT)) := by rw [spec_l01Is.f, if_pos hin2]
  have hf : Ev (fun k => spec_JoinSets.j0 k true C l D u) (0, ([] : List STile), 1) := Ev.step (f := fun _ => some _) (fun k => by rw [spec_JoinSets.j0, if_pos rfl]) (Ev.now _)
  unfold joinR
  cases h1 : isS C (l.map toT)
  · exact Ev.congr (fun k => by rw [spec_JoinSets.f, e1, h1]; rfl) hf
  · cases h2 : isS D (u.map toT)
    · exact Ev.congr (fun k => by rw [spec_JoinSets.f, e1, h1, e2, h2]; rfl) hf
    · have a1 := isS_lens h1
      have a2 := isS_lens h2
      rw [List.length_map] at a1 a2
      have h := specJoin_l0 C l D u (C + D) (by omega) (by omega) (small_tiles h2) u.length 0 l (by omega) (by omega)
      rw [List.drop_zero] at h
      have b1 : ([] : List STile).length + l.length < 4398046511104 := by rw [List.length_nil]; omega
      have ew : wrap64 (C + D) = C + D := by unfold wrap64; omega
      refine Ev.congr (f := fun k => spec_JoinSets.j0 k false C l D u) (fun k => by rw [spec_JoinSets.f, e1, h1, e2, h2]; rfl) ?_
      refine Ev.step (fun k => ?_) h
      rw [spec_JoinSets.j0, if_neg (by simp), Option.bind_some, if_pos b1, List.nil_append, ew]; rfl
theorem specJoinSets_any (C : Int) (A : Option Addr) (ts : List T4) (n c : Nat) (D : Int) (A' : Option Addr) (us : List T4) (n' c' : Nat) (w : World) (hn : n = ts.length) (hA : RT w A ts) (hnc : n ≤ c) (hl : n ≤ 35184372088832) (hn' : n' = us.length) (hA' : RT w A' us) (hnc' : n' ≤ c') (hl' : n' ≤ 35184372088832) :
    Calls Try.prog 32 #[.agg #[.int .i64 C, .slice A n c], .agg #[.int .i64 D, .slice A' n' c']] w fun e w' => ∃ v xc xs code, joinR C ts D us = ((xc, xs), code) ∧ e = .returned (.tuple #[.agg #[.int .i64 xc, v], .int .i64 code]) ∧ OW w' w.heap.size w'.heap.size 45 4 v xs.length (tcells xs) ∧ Below w.heap.size w w' := by
  subst hn hn'
  obtain ⟨k, hk⟩ := (specJoin_ev C (ts.map toS) D (us.map toS) (by simpa using hl) (by simpa using hl')).rounds
  rw [map_toTS, map_toTS] at hk
  have h := spec_JoinSets.calls k C A c (ts.map toS) D A' c' (us.map toS) _ _ _ w (C_of_rt hA (by omega)) (by simpa using hnc) (C_of_rt hA' (by omega)) (by simpa using hnc') hk
  rw [List.length_map, List.length_map] at h
  exact h.mono fun e w' ⟨v, he, hR, hB⟩ => ⟨v, _, _, _, rfl, he, ow_of_RT hR, hB⟩
theorem implJoinSets_any (C : Int) (A : Option Addr) (ts : List T4) (n c : Nat) (D : Int) (A' : Option Addr) (us : List T4) (n' c' : Nat) (w : World) (hn : n = ts.length) (hA : RT w A ts) (hnc : n ≤ c) (hl : n ≤ 35184372088832) (hn' : n' = us.length) (hA' : RT w A' us) (hnc' : n' ≤ c') (hl' : n' ≤ 35184372088832) :
    Calls Try.prog 33 #[.agg #[.int .i64 C, .slice A n c], .agg #[.int .i64 D, .slice A' n' c']] w fun e w' => ∃ v xc xs code, joinR C ts D us = ((xc, xs), code) ∧ e = .returned (.tuple #[.agg #[.int .i64 xc, v], .int .i64 code]) ∧ OW w' w.heap.size w'.heap.size 45 4 v xs.length (tcells xs) ∧ Below w.heap.size w w' := by
  subst hn hn'
  obtain ⟨k, hk⟩ := (implJoin_ev C (ts.map toS) D (us.map toS) (by simpa using hl) (by simpa using hl')).rounds
  rw [map_toTS, map_toTS] at hk
  have h := impl_JoinSets.calls k C (fun _ => True) A c (ts.map toS) D (fun _ => True) A' c' (us.map toS) _ _ _ w (V_of_rt hA (by omega) hnc) (V_of_rt hA' (by omega) hnc') hk
  rw [List.length_map, List.length_map] at h
  exact h.mono fun e w' ⟨v, he, hR, hB⟩ => ⟨v, _, _, _, rfl, he, ow_of_RT hR, hB⟩
end Go.Proofs.Ytnjmgmdpkogocaa

/-
  The walk of the law FnExactJoinSets.
-/
namespace Go.Proofs.Ytnjmgmdpkogocaa
open Go Go.RowKit Go.Proofs
set_option linter.unusedVariables false
set_option linter.unusedSimpArgs false

set_option maxHeartbeats 16000000 in
set_option maxRecDepth 100000 in
theorem lawJoinSets_any (w : World) (C0 : Int) (A0 : Option Addr) (ts0 : List T4) (n0 c0 : Nat) (hn0 : n0 = ts0.length) (hA0 : RT w A0 ts0) (hnc0 : n0 ≤ c0) (hl0 : n0 ≤ 35184372088832) (hC0 : -9223372036854775808 ≤ C0 ∧ C0 ≤ 9223372036854775807) (C1 : Int) (A1 : Option Addr) (ts1 : List T4) (n1 c1 : Nat) (hn1 : n1 = ts1.length) (hA1 : RT w A1 ts1) (hnc1 : n1 ≤ c1) (hl1 : n1 ≤ 35184372088832) (hC1 : -9223372036854775808 ≤ C1 ∧ C1 ≤ 9223372036854775807) :
    Calls Try.prog 8 #[.agg #[.int .i64 C0, .slice A0 n0 c0], .agg #[.int .i64 C1, .slice A1 n1 c1]] w fun e w' => e = .returned (.bool true) ∧ Below w.heap.size w w' := by
  subst hn0
  have HA0 := Lib.hid hA0; clear hA0
  subst hn1
  have HA1 := Lib.hid hA1; clear hA1
  by_cases hbig0 : (1048576 : Int) < ((ts0.length : Nat) : Int)
  · go_enter Try.func8, Try.ntmps8
    go_wp2_with fail
    refine namec2 ?_
    intro w1 b0 b1 hz hB
    have tw1 : w.heap.size + 2 ≤ w1.heap.size := by omega
    clear hz
    have sw1 : w.heap.size ≤ w1.heap.size := hB.size
    have hE := Lib.hid (hB)
    clear hB
    refine (szSet_any C0 A0 ts0.length c0 (1048576) w1 (by omega) (by omega) (by omega)).mono ?_
    rintro e w2 ⟨rfl, hB⟩
    rw [if_pos (show (1048576 : Int) < (ts0.length : Nat) by omega)]
    replace b0 := b0.below hB b0.lt
    replace b1 := b1.below hB b1.lt
    have sw2 : w1.heap.size ≤ w2.heap.size := hB.size
    replace hE := Lib.hid (below_to hE.out hB)
    clear hB
    go_wp2_with fail
    go_ret
    exact ⟨rfl, hE.out⟩
  · replace hbig0 : ((ts0.length : Nat) : Int) ≤ 1048576 := by omega
    by_cases hbig1 : ((1048576 - ((ts0.length : Nat) : Int)) : Int) < ((ts1.length : Nat) : Int)
    · go_enter Try.func8, Try.ntmps8
      go_wp2_with fail
      refine namec2 ?_
      intro w1 b0 b1 hz hB
      have tw1 : w.heap.size + 2 ≤ w1.heap.size := by omega
      clear hz
      have sw1 : w.heap.size ≤ w1.heap.size := hB.size
      have hE := Lib.hid (hB)
      clear hB
      refine (szSet_any C0 A0 ts0.length c0 (1048576) w1 (by omega) (by omega) (by omega)).mono ?_
      rintro e w2 ⟨rfl, hB⟩
      rw [if_neg (show ¬ (1048576 : Int) < (ts0.length : Nat) by omega)]
      replace b0 := b0.below hB b0.lt
      replace b1 := b1.below hB b1.lt
      have sw2 : w1.heap.size ≤ w2.heap.size := hB.size
      replace hE := Lib.hid (below_to hE.out hB)
      clear hB
      have l0 := b0.lt
      have c0_0 : w2.cell? ⟨w.heap.size, 0, none⟩ = some (.int .i64 C0) := b0.cell rfl
      have c0_1 : w2.cell? ⟨w.heap.size, 1, none⟩ = some (.slice A0 ts0.length c0) := b0.cell rfl
      have l1 := b1.lt
      have c1_0 : w2.cell? ⟨w.heap.size + 1, 0, none⟩ = some (.int .i64 C1) := b1.cell rfl
      have c1_1 : w2.cell? ⟨w.heap.size + 1, 1, none⟩ = some (.slice A1 ts1.length c1) := b1.cell rfl
      go_wp2_with fail
      clear l0 c0_0 c0_1 l1 c1_0 c1_1
      refine (szSet_any C1 A1 ts1.length c1 ((1048576 - ((ts0.length : Nat) : Int))) w2 (by omega) (by omega) (by omega)).mono ?_
      rintro e w3 ⟨rfl, hB⟩
      rw [if_pos (show ((1048576 - ((ts0.length : Nat) : Int)) : Int) < (ts1.length : Nat) by omega)]
      replace b0 := b0.below hB b0.lt
      replace b1 := b1.below hB b1.lt
      have sw3 : w2.heap.size ≤ w3.heap.size := hB.size
      replace hE := Lib.hid (below_to hE.out hB)
      clear hB
      go_wp2_with fail
      go_ret
      exact ⟨rfl, hE.out⟩
    · replace hbig1 : ((ts1.length : Nat) : Int) ≤ (1048576 - ((ts0.length : Nat) : Int)) := by omega
      obtain ⟨r_, hr_⟩ : ∃ r, joinR C0 ts0 C1 ts1 = r := ⟨_, rfl⟩
      obtain ⟨⟨rc1, r1⟩, r2⟩ := r_
      have hb1 : r1.length ≤ 1048576 := by have h_ := joinR_len C0 ts0 C1 ts1; rw [hr_] at h_; exact h_
      have HR := Lib.hid hr_; clear hr_
      go_enter Try.func8, Try.ntmps8
      go_wp2_with fail
      refine namec2 ?_
      intro w1 b0 b1 hz hB
      have tw1 : w.heap.size + 2 ≤ w1.heap.size := by omega
      clear hz
      have sw1 : w.heap.size ≤ w1.heap.size := hB.size
      have hE := Lib.hid (hB)
      clear hB
      refine (szSet_any C0 A0 ts0.length c0 (1048576) w1 (by omega) (by omega) (by omega)).mono ?_
      rintro e w2 ⟨rfl, hB⟩
      rw [if_neg (show ¬ (1048576 : Int) < (ts0.length : Nat) by omega)]
      replace b0 := b0.below hB b0.lt
      replace b1 := b1.below hB b1.lt
      have sw2 : w1.heap.size ≤ w2.heap.size := hB.size
      replace hE := Lib.hid (below_to hE.out hB)
      clear hB
      have l0 := b0.lt
      have c0_0 : w2.cell? ⟨w.heap.size, 0, none⟩ = some (.int .i64 C0) := b0.cell rfl
      have c0_1 : w2.cell? ⟨w.heap.size, 1, none⟩ = some (.slice A0 ts0.length c0) := b0.cell rfl
      have l1 := b1.lt
      have c1_0 : w2.cell? ⟨w.heap.size + 1, 0, none⟩ = some (.int .i64 C1) := b1.cell rfl
      have c1_1 : w2.cell? ⟨w.heap.size + 1, 1, none⟩ = some (.slice A1 ts1.length c1) := b1.cell rfl
      go_wp2_with fail
      clear l0 c0_0 c0_1 l1 c1_0 c1_1
      refine (szSet_any C1 A1 ts1.length c1 ((1048576 - ((ts0.length : Nat) : Int))) w2 (by omega) (by omega) (by omega)).mono ?_
      rintro e w3 ⟨rfl, hB⟩
      rw [if_neg (show ¬ ((1048576 - ((ts0.length : Nat) : Int)) : Int) < (ts1.length : Nat) by omega)]
      replace b0 := b0.below hB b0.lt
      replace b1 := b1.below hB b1.lt
      have sw3 : w2.heap.size ≤ w3.heap.size := hB.size
      replace hE := Lib.hid (below_to hE.out hB)
      clear hB
      have l0 := b0.lt
      have c0_0 : w3.cell? ⟨w.heap.size, 0, none⟩ = some (.int .i64 C0) := b0.cell rfl
      have c0_1 : w3.cell? ⟨w.heap.size, 1, none⟩ = some (.slice A0 ts0.length c0) := b0.cell rfl
      have l1 := b1.lt
      have c1_0 : w3.cell? ⟨w.heap.size + 1, 0, none⟩ = some (.int .i64 C1) := b1.cell rfl
      have c1_1 : w3.cell? ⟨w.heap.size + 1, 1, none⟩ = some (.slice A1 ts1.length c1) := b1.cell rfl
      go_wp2_with fail
      clear l0 c0_0 c0_1 l1 c1_0 c1_1
      have hD : Below w3.heap.size w3 w3.drew := (Below.refl _ _).drew
      replace b0 := b0.below hD b0.lt
      replace b1 := b1.below hD b1.lt
      replace hE := Lib.hid (below_to hE.out hD)
      clear hD
      have d1_w3 : w3.heap.size ≤ w3.drew.heap.size := Nat.le_refl _
      have d2_w3 : w3.drew.heap.size ≤ w3.heap.size := Nat.le_refl _
      refine region_join (R := fun a0_ a_ w_ => ∃ gv2_ : Nat, ∃ A1_ : Option Addr, ∃ c1_ : Nat, ∃ loO1_ : Nat, ∃ hiO1_ : Nat, ∃ A2_ : Option Addr, ∃ c2_ : Nat, ∃ loO2_ : Nat, ∃ hiO2_ : Nat, ∃ A3_ : Option Addr, ∃ c3_ : Nat, ∃ loO3_ : Nat, ∃ hiO3_ : Nat, a_ = ((((((((((a0_.put (some 28) (.agg #[.int .i64 C0, .slice A0 ts0.length c0])).put (some 29) (.agg #[.int .i64 C0, .slice A1_ ts0.length c1_])).put (some 30) (.agg #[.int .i64 C1, .slice A1 ts1.length c1])).put (some 31) (.agg #[.int .i64 C1, .slice A2_ ts1.length c2_])).put (some 32) (.tuple #[.agg #[.int .i64 rc1, .slice A3_ r1.length c3_], .int .i64 r2])).put (some 27) (.tuple #[.agg #[.int .i64 rc1, .slice A3_ r1.length c3_], .int .i64 r2])).put (some 33) (.agg #[.int .i64 rc1, .slice A3_ r1.length c3_])).put (some 34) (.int .i64 r2)).put (some 6) (.pointer (some ⟨gv2_, 0, none⟩))).put (some 7) (.int .i64 r2)) ∧ Below w3.drew.heap.size w3.drew w_ ∧ OW w_ loO1_ hiO1_ 45 4 (.slice A1_ ts0.length c1_) ts0.length (tcells ts0) ∧ OW w_ loO2_ hiO2_ 45 4 (.slice A2_ ts1.length c2_) ts1.length (tcells ts1) ∧ OW w_ loO3_ hiO3_ 45 4 (.slice A3_ r1.length c3_) r1.length (tcells r1) ∧ BK w_ gv2_ #[.int .i64 rc1, .slice A3_ r1.length c3_] 26 ∧ w3.drew.heap.size ≤ loO1_ ∧ loO1_ ≤ hiO1_ ∧ (gv2_ < loO1_ ∨ hiO1_ ≤ gv2_) ∧ hiO1_ ≤ loO2_ ∧ loO2_ ≤ hiO2_ ∧ (gv2_ < loO2_ ∨ hiO2_ ≤ gv2_) ∧ hiO2_ ≤ loO3_ ∧ loO3_ ≤ hiO3_ ∧ (gv2_ < loO3_ ∨ hiO3_ ≤ gv2_) ∧ w3.drew.heap.size ≤ gv2_) ?_ ?_
      · have hS := Lib.hid (Below.refl w3.drew.heap.size w3.drew)
        have g0_ := b0.lt
        have g1_ := b1.lt
        go_region_held3 (fun w_ => w_.cell? ⟨w.heap.size, 0, none⟩ = some (.int .i64 C0) ∧ w_.cell? ⟨w.heap.size, 1, none⟩ = some (.slice A0 ts0.length c0) ∧ w_.cell? ⟨w.heap.size + 1, 0, none⟩ = some (.int .i64 C1) ∧ w_.cell? ⟨w.heap.size + 1, 1, none⟩ = some (.slice A1 ts1.length c1)) (first | exact ⟨b0.cell rfl, b0.cell rfl, b1.cell rfl, b1.cell rfl⟩ | exact ⟨(b0.alloc _).cell rfl, (b0.alloc _).cell rfl, (b1.alloc _).cell rfl, (b1.alloc _).cell rfl⟩ | exact ⟨(b0.far2 (by omega) _ _).cell rfl, (b0.far2 (by omega) _ _).cell rfl, (b1.far2 (by omega) _ _).cell rfl, (b1.far2 (by omega) _ _).cell rfl⟩ | fail)
          (first
            | (go_at_call 24; refine at_world w3.drew ?_; refine (toSet_any C0 A0 ts0 ts0.length c0 _ rfl (HA0.out.below hE.out) (by omega)).mono ?_; rintro e w4 ⟨v_, rfl, hO, hB⟩; obtain ⟨A1_, c1_, rfl, -, -⟩ := hO.reads; have O1 := Lib.hid (OW.of hO); clear hO; replace b0 := b0.below hB b0.lt; replace b1 := b1.below hB b1.lt; have sw4 : w3.drew.heap.size ≤ w4.heap.size := hB.size; replace hE := Lib.hid (below_to hE.out hB); replace hS := Lib.hid (below_to hS.out hB); (try (replace b6 := b6.below hB b6.lt; have z0_ := b6.cell (k := 0) (v := .int .i64 0) rfl; have z1_ := b6.cell (k := 1) (v := .slice none 0 0) rfl; have y0_ := b6.frozen 0; have y1_ := b6.frozen 1; have y2_ := b6.lt)); clear hB)
            | (go_at_call 24; refine at_alloc (w := w3.drew) ?_; intro wA hA hzA b6_; have b6 : BK wA w3.heap.size _ _ := b6_; clear b6_; replace b0 := b0.below hA b0.lt; replace b1 := b1.below hA b1.lt; replace hE := Lib.hid (below_to hE.out hA); replace hS := Lib.hid (below_to hS.out hA); clear hA; refine (toSet_any C0 A0 ts0 ts0.length c0 _ rfl (HA0.out.below hE.out) (by omega)).mono ?_; rintro e w4 ⟨v_, rfl, hO, hB⟩; obtain ⟨A1_, c1_, rfl, -, -⟩ := hO.reads; have O1 := Lib.hid (OW.of hO); clear hO; replace b0 := b0.below hB b0.lt; replace b1 := b1.below hB b1.lt; have sw4 : wA.heap.size ≤ w4.heap.size := hB.size; replace hE := Lib.hid (below_to hE.out hB); replace hS := Lib.hid (below_to hS.out hB); (try (replace b6 := b6.below hB b6.lt; have z0_ := b6.cell (k := 0) (v := .int .i64 0) rfl; have z1_ := b6.cell (k := 1) (v := .slice none 0 0) rfl; have y0_ := b6.frozen 0; have y1_ := b6.frozen 1; have y2_ := b6.lt)); clear hB)
            | (go_at_call 24; refine at_world w4 ?_; refine (toSet_any C1 A1 ts1 ts1.length c1 _ rfl (HA1.out.below hE.out) (by omega)).mono ?_; rintro e w5 ⟨v_, rfl, hO, hB⟩; obtain ⟨A2_, c2_, rfl, -, -⟩ := hO.reads; have O2 := Lib.hid (OW.of hO); clear hO; replace b0 := b0.below hB b0.lt; replace b1 := b1.below hB b1.lt; replace O1 := Lib.hid (O1.out.to hB); have sw5 : w4.heap.size ≤ w5.heap.size := hB.size; replace hE := Lib.hid (below_to hE.out hB); replace hS := Lib.hid (below_to hS.out hB); (try (replace b6 := b6.below hB b6.lt; have z0_ := b6.cell (k := 0) (v := .int .i64 0) rfl; have z1_ := b6.cell (k := 1) (v := .slice none 0 0) rfl; have y0_ := b6.frozen 0; have y1_ := b6.frozen 1; have y2_ := b6.lt)); clear hB)
            | (go_at_call 24; refine at_alloc (w := w4) ?_; intro wA hA hzA b6_; have b6 : BK wA w4.heap.size _ _ := b6_; clear b6_; replace b0 := b0.below hA b0.lt; replace b1 := b1.below hA b1.lt; replace O1 := Lib.hid (O1.out.to hA); replace hE := Lib.hid (below_to hE.out hA); replace hS := Lib.hid (below_to hS.out hA); clear hA; refine (toSet_any C1 A1 ts1 ts1.length c1 _ rfl (HA1.out.below hE.out) (by omega)).mono ?_; rintro e w5 ⟨v_, rfl, hO, hB⟩; obtain ⟨A2_, c2_, rfl, -, -⟩ := hO.reads; have O2 := Lib.hid (OW.of hO); clear hO; replace b0 := b0.below hB b0.lt; replace b1 := b1.below hB b1.lt; replace O1 := Lib.hid (O1.out.to hB); have sw5 : wA.heap.size ≤ w5.heap.size := hB.size; replace hE := Lib.hid (below_to hE.out hB); replace hS := Lib.hid (below_to hS.out hB); (try (replace b6 := b6.below hB b6.lt; have z0_ := b6.cell (k := 0) (v := .int .i64 0) rfl; have z1_ := b6.cell (k := 1) (v := .slice none 0 0) rfl; have y0_ := b6.frozen 0; have y1_ := b6.frozen 1; have y2_ := b6.lt)); clear hB)
            | (go_at_call 32; refine at_world w5 ?_; refine (specJoinSets_any C0 A1_ ts0 ts0.length c1_ C1 A2_ ts1 ts1.length c2_ _ rfl (rt_of O1.out rfl) (le_of O1.out) (by omega) rfl (rt_of O2.out rfl) (le_of O2.out) (by omega)).mono ?_; rintro e w6 ⟨v0_, xc0_, x0_, x1_, hR_, rfl, hO0, hB⟩; obtain ⟨rfl, rfl, rfl⟩ : rc1 = xc0_ ∧ r1 = x0_ ∧ r2 = x1_ := (by have h_ := HR.out.symm.trans hR_; simpa [and_assoc] using h_); clear hR_; obtain ⟨A3_, c3_, rfl, -⟩ := hO0.form; have O3 := Lib.hid hO0; clear hO0; replace b0 := b0.below hB b0.lt; replace b1 := b1.below hB b1.lt; replace O1 := Lib.hid (O1.out.to hB); replace O2 := Lib.hid (O2.out.to hB); have sw6 : w5.heap.size ≤ w6.heap.size := hB.size; replace hE := Lib.hid (below_to hE.out hB); replace hS := Lib.hid (below_to hS.out hB); (try (replace b6 := b6.below hB b6.lt; have z0_ := b6.cell (k := 0) (v := .int .i64 0) rfl; have z1_ := b6.cell (k := 1) (v := .slice none 0 0) rfl; have y0_ := b6.frozen 0; have y1_ := b6.frozen 1; have y2_ := b6.lt)); clear hB)
            | (go_at_call 32; refine at_alloc (w := w5) ?_; intro wA hA hzA b6_; have b6 : BK wA w5.heap.size _ _ := b6_; clear b6_; replace b0 := b0.below hA b0.lt; replace b1 := b1.below hA b1.lt; replace O1 := Lib.hid (O1.out.to hA); replace O2 := Lib.hid (O2.out.to hA); replace hE := Lib.hid (below_to hE.out hA); replace hS := Lib.hid (below_to hS.out hA); clear hA; refine (specJoinSets_any C0 A1_ ts0 ts0.length c1_ C1 A2_ ts1 ts1.length c2_ _ rfl (rt_of O1.out rfl) (le_of O1.out) (by omega) rfl (rt_of O2.out rfl) (le_of O2.out) (by omega)).mono ?_; rintro e w6 ⟨v0_, xc0_, x0_, x1_, hR_, rfl, hO0, hB⟩; obtain ⟨rfl, rfl, rfl⟩ : rc1 = xc0_ ∧ r1 = x0_ ∧ r2 = x1_ := (by have h_ := HR.out.symm.trans hR_; simpa [and_assoc] using h_); clear hR_; obtain ⟨A3_, c3_, rfl, -⟩ := hO0.form; have O3 := Lib.hid hO0; clear hO0; replace b0 := b0.below hB b0.lt; replace b1 := b1.below hB b1.lt; replace O1 := Lib.hid (O1.out.to hB); replace O2 := Lib.hid (O2.out.to hB); have sw6 : wA.heap.size ≤ w6.heap.size := hB.size; replace hE := Lib.hid (below_to hE.out hB); replace hS := Lib.hid (below_to hS.out hB); (try (replace b6 := b6.below hB b6.lt; have z0_ := b6.cell (k := 0) (v := .int .i64 0) rfl; have z1_ := b6.cell (k := 1) (v := .slice none 0 0) rfl; have y0_ := b6.frozen 0; have y1_ := b6.frozen 1; have y2_ := b6.lt)); clear hB))
        all_goals first
          | (refine ⟨_, A1_, c1_, _, _, A2_, c2_, _, _, A3_, c3_, _, _, ?_, leaf_store hS.out ?_ _ _, O1.out.store ?_ _ _, O2.out.store ?_ _ _, O3.out.store ?_ _ _, b6.store2 _ _, ?_, ?_, ?_, ?_, ?_, ?_, ?_, ?_, ?_, ?_⟩ <;> first | omega | (simp only [Act.put, List.setIfInBounds_toArray, List.set_cons_zero, List.set_cons_succ]))
          | (refine ⟨_, A1_, c1_, _, _, A2_, c2_, _, _, A3_, c3_, _, _, ?_, below_al hS.out _, O1.out.to (new_below _ _), O2.out.to (new_below _ _), O3.out.to (new_below _ _), BK.new _ _ _, ?_, ?_, ?_, ?_, ?_, ?_, ?_, ?_, ?_, ?_⟩ <;> first | omega | (simp only [Act.put, List.setIfInBounds_toArray, List.set_cons_zero, List.set_cons_succ]))
      · intro a_ w7 hR_
        obtain ⟨gv2_, A1_, c1_, loO1_, hiO1_, A2_, c2_, loO2_, hiO2_, A3_, c3_, loO3_, hiO3_, rfl, hB, hOO1, hOO2, hOO3, b2, qw7_0, qw7_1, qw7_2, qw7_3, qw7_4, qw7_5, qw7_6, qw7_7, qw7_8, qw7_9⟩ := hR_
        simp only [Act.put, List.setIfInBounds_toArray, List.set_cons_zero, List.set_cons_succ]
        have O1 := Lib.hid hOO1; have topO1 := hOO1.top; clear hOO1
        have O2 := Lib.hid hOO2; have topO2 := hOO2.top; clear hOO2
        have O3 := Lib.hid hOO3; have topO3 := hOO3.top; clear hOO3
        replace b0 := b0.below hB b0.lt
        replace b1 := b1.below hB b1.lt
        have sw7 : w3.drew.heap.size ≤ w7.heap.size := hB.size
        replace hE := Lib.hid (below_to hE.out hB)
        have kw7 := b2.lt
        clear hB
        have l0 := b0.lt
        have c0_0 : w7.cell? ⟨w.heap.size, 0, none⟩ = some (.int .i64 C0) := b0.cell rfl
        have c0_1 : w7.cell? ⟨w.heap.size, 1, none⟩ = some (.slice A0 ts0.length c0) := b0.cell rfl
        have l1 := b1.lt
        have c1_0 : w7.cell? ⟨w.heap.size + 1, 0, none⟩ = some (.int .i64 C1) := b1.cell rfl
        have c1_1 : w7.cell? ⟨w.heap.size + 1, 1, none⟩ = some (.slice A1 ts1.length c1) := b1.cell rfl
        have l2 := b2.lt
        have c2_0 : w7.cell? ⟨gv2_, 0, none⟩ = some (.int .i64 rc1) := b2.cell rfl
        have c2_1 : w7.cell? ⟨gv2_, 1, none⟩ = some (.slice A3_ r1.length c3_) := b2.cell rfl
        go_wp2_with fail
        clear l0 c0_0 c0_1 l1 c1_0 c1_1 l2 c2_0 c2_1
        refine (toSet_any C0 A0 ts0 ts0.length c0 w7 rfl (HA0.out.below hE.out) (by omega)).mono ?_
        rintro e w8 ⟨v_, rfl, hO, hB⟩
        obtain ⟨A4_, c4_, rfl, -, -⟩ := hO.reads
        have O4 := Lib.hid (OW.of hO)
        clear hO
        replace b0 := b0.below hB b0.lt
        replace b1 := b1.below hB b1.lt
        replace b2 := b2.below hB b2.lt
        replace O1 := Lib.hid (O1.out.to hB)
        replace O2 := Lib.hid (O2.out.to hB)
        replace O3 := Lib.hid (O3.out.to hB)
        have sw8 : w7.heap.size ≤ w8.heap.size := hB.size
        replace hE := Lib.hid (below_to hE.out hB)
        clear hB
        have l0 := b0.lt
        have c0_0 : w8.cell? ⟨w.heap.size, 0, none⟩ = some (.int .i64 C0) := b0.cell rfl
        have c0_1 : w8.cell? ⟨w.heap.size, 1, none⟩ = some (.slice A0 ts0.length c0) := b0.cell rfl
        have l1 := b1.lt
        have c1_0 : w8.cell? ⟨w.heap.size + 1, 0, none⟩ = some (.int .i64 C1) := b1.cell rfl
        have c1_1 : w8.cell? ⟨w.heap.size + 1, 1, none⟩ = some (.slice A1 ts1.length c1) := b1.cell rfl
        have l2 := b2.lt
        have c2_0 : w8.cell? ⟨gv2_, 0, none⟩ = some (.int .i64 rc1) := b2.cell rfl
        have c2_1 : w8.cell? ⟨gv2_, 1, none⟩ = some (.slice A3_ r1.length c3_) := b2.cell rfl
        go_wp2_with fail
        clear l0 c0_0 c0_1 l1 c1_0 c1_1 l2 c2_0 c2_1
        refine namec1 ?_
        intro w9 b3 hz hB
        have tw9 : w8.heap.size + 1 ≤ w9.heap.size := by omega
        clear hz
        replace b0 := b0.below hB b0.lt
        replace b1 := b1.below hB b1.lt
        replace b2 := b2.below hB b2.lt
        replace O1 := Lib.hid (O1.out.to hB)
        replace O2 := Lib.hid (O2.out.to hB)
        replace O3 := Lib.hid (O3.out.to hB)
        replace O4 := Lib.hid (O4.out.to hB)
        have sw9 : w8.heap.size ≤ w9.heap.size := hB.size
        replace hE := Lib.hid (below_to hE.out hB)
        clear hB
        refine (toSet_any C1 A1 ts1 ts1.length c1 w9 rfl (HA1.out.below hE.out) (by omega)).mono ?_
        rintro e w10 ⟨v_, rfl, hO, hB⟩
        obtain ⟨A5_, c5_, rfl, -, -⟩ := hO.reads
        have O5 := Lib.hid (OW.of hO)
        clear hO
        replace b0 := b0.below hB b0.lt
        replace b1 := b1.below hB b1.lt
        replace b2 := b2.below hB b2.lt
        replace b3 := b3.below hB b3.lt
        replace O1 := Lib.hid (O1.out.to hB)
        replace O2 := Lib.hid (O2.out.to hB)
        replace O3 := Lib.hid (O3.out.to hB)
        replace O4 := Lib.hid (O4.out.to hB)
        have sw10 : w9.heap.size ≤ w10.heap.size := hB.size
        replace hE := Lib.hid (below_to hE.out hB)
        clear hB
        have l0 := b0.lt
        have c0_0 : w10.cell? ⟨w.heap.size, 0, none⟩ = some (.int .i64 C0) := b0.cell rfl
        have c0_1 : w10.cell? ⟨w.heap.size, 1, none⟩ = some (.slice A0 ts0.length c0) := b0.cell rfl
        have l1 := b1.lt
        have c1_0 : w10.cell? ⟨w.heap.size + 1, 0, none⟩ = some (.int .i64 C1) := b1.cell rfl
        have c1_1 : w10.cell? ⟨w.heap.size + 1, 1, none⟩ = some (.slice A1 ts1.length c1) := b1.cell rfl
        have l2 := b2.lt
        have c2_0 : w10.cell? ⟨gv2_, 0, none⟩ = some (.int .i64 rc1) := b2.cell rfl
        have c2_1 : w10.cell? ⟨gv2_, 1, none⟩ = some (.slice A3_ r1.length c3_) := b2.cell rfl
        have l3 := b3.lt
        have c3_0 : w10.cell? ⟨w8.heap.size, 0, none⟩ = some (.int .i64 C0) := b3.cell rfl
        have c3_1 : w10.cell? ⟨w8.heap.size, 1, none⟩ = some (.slice A4_ ts0.length c4_) := b3.cell rfl
        go_wp2_with fail
        clear l0 c0_0 c0_1 l1 c1_0 c1_1 l2 c2_0 c2_1 l3 c3_0 c3_1
        refine namec1 ?_
        intro w11 b4 hz hB
        have tw11 : w10.heap.size + 1 ≤ w11.heap.size := by omega
        clear hz
        replace b0 := b0.below hB b0.lt
        replace b1 := b1.below hB b1.lt
        replace b2 := b2.below hB b2.lt
        replace b3 := b3.below hB b3.lt
        replace O1 := Lib.hid (O1.out.to hB)
        replace O2 := Lib.hid (O2.out.to hB)
        replace O3 := Lib.hid (O3.out.to hB)
        replace O4 := Lib.hid (O4.out.to hB)
        replace O5 := Lib.hid (O5.out.to hB)
        have sw11 : w10.heap.size ≤ w11.heap.size := hB.size
        replace hE := Lib.hid (below_to hE.out hB)
        clear hB
        refine (implJoinSets_any C0 A4_ ts0 ts0.length c4_ C1 A5_ ts1 ts1.length c5_ w11 rfl (rt_of O4.out rfl) (le_of O4.out) (by omega) rfl (rt_of O5.out rfl) (le_of O5.out) (by omega)).mono ?_
        rintro e w12 ⟨v0_, xc0_, x0_, x1_, hR_, rfl, hO0, hB⟩
        obtain ⟨rfl, rfl, rfl⟩ : rc1 = xc0_ ∧ r1 = x0_ ∧ r2 = x1_ := (by have h_ := HR.out.symm.trans hR_; simpa [and_assoc] using h_)
        clear hR_
        obtain ⟨A6_, c6_, rfl, -⟩ := hO0.form
        have O6 := Lib.hid hO0
        clear hO0
        replace b0 := b0.below hB b0.lt
        replace b1 := b1.below hB b1.lt
        replace b2 := b2.below hB b2.lt
        replace b3 := b3.below hB b3.lt
        replace b4 := b4.below hB b4.lt
        replace O1 := Lib.hid (O1.out.to hB)
        replace O2 := Lib.hid (O2.out.to hB)
        replace O3 := Lib.hid (O3.out.to hB)
        replace O4 := Lib.hid (O4.out.to hB)
        replace O5 := Lib.hid (O5.out.to hB)
        have sw12 : w11.heap.size ≤ w12.heap.size := hB.size
        replace hE := Lib.hid (below_to hE.out hB)
        clear hB
        have l0 := b0.lt
        have c0_0 : w12.cell? ⟨w.heap.size, 0, none⟩ = some (.int .i64 C0) := b0.cell rfl
        have c0_1 : w12.cell? ⟨w.heap.size, 1, none⟩ = some (.slice A0 ts0.length c0) := b0.cell rfl
        have l1 := b1.lt
        have c1_0 : w12.cell? ⟨w.heap.size + 1, 0, none⟩ = some (.int .i64 C1) := b1.cell rfl
        have c1_1 : w12.cell? ⟨w.heap.size + 1, 1, none⟩ = some (.slice A1 ts1.length c1) := b1.cell rfl
        have l2 := b2.lt
        have c2_0 : w12.cell? ⟨gv2_, 0, none⟩ = some (.int .i64 rc1) := b2.cell rfl
        have c2_1 : w12.cell? ⟨gv2_, 1, none⟩ = some (.slice A3_ r1.length c3_) := b2.cell rfl
        have l3 := b3.lt
        have c3_0 : w12.cell? ⟨w8.heap.size, 0, none⟩ = some (.int .i64 C0) := b3.cell rfl
        have c3_1 : w12.cell? ⟨w8.heap.size, 1, none⟩ = some (.slice A4_ ts0.length c4_) := b3.cell rfl
        have l4 := b4.lt
        have c4_0 : w12.cell? ⟨w10.heap.size, 0, none⟩ = some (.int .i64 C1) := b4.cell rfl
        have c4_1 : w12.cell? ⟨w10.heap.size, 1, none⟩ = some (.slice A5_ ts1.length c5_) := b4.cell rfl
        go_wp2_with fail
        clear l0 c0_0 c0_1 l1 c1_0 c1_1 l2 c2_0 c2_1 l3 c3_0 c3_1 l4 c4_0 c4_1
        refine namec1 ?_
        intro w13 b5 hz hB
        have tw13 : w12.heap.size + 1 ≤ w13.heap.size := by omega
        clear hz
        replace b0 := b0.below hB b0.lt
        replace b1 := b1.below hB b1.lt
        replace b2 := b2.below hB b2.lt
        replace b3 := b3.below hB b3.lt
        replace b4 := b4.below hB b4.lt
        replace O1 := Lib.hid (O1.out.to hB)
        replace O2 := Lib.hid (O2.out.to hB)
        replace O3 := Lib.hid (O3.out.to hB)
        replace O4 := Lib.hid (O4.out.to hB)
        replace O5 := Lib.hid (O5.out.to hB)
        replace O6 := Lib.hid (O6.out.to hB)
        have sw13 : w12.heap.size ≤ w13.heap.size := hB.size
        replace hE := Lib.hid (below_to hE.out hB)
        clear hB
        refine (eqSet_any rc1 rc1 A6_ A3_ r1 r1 r1.length r1.length c6_ c3_ w13 rfl rfl (rt_of O6.out rfl) (rt_of O3.out rfl) (by omega) (by omega)).mono ?_
        rintro e w14 ⟨rfl, hB⟩
        simp only [decide_true, Bool.and_self]
        replace b0 := b0.below hB b0.lt
        replace b1 := b1.below hB b1.lt
        replace b2 := b2.below hB b2.lt
        replace b3 := b3.below hB b3.lt
        replace b4 := b4.below hB b4.lt
        replace b5 := b5.below hB b5.lt
        replace O1 := Lib.hid (O1.out.to hB)
        replace O2 := Lib.hid (O2.out.to hB)
        replace O3 := Lib.hid (O3.out.to hB)
        replace O4 := Lib.hid (O4.out.to hB)
        replace O5 := Lib.hid (O5.out.to hB)
        replace O6 := Lib.hid (O6.out.to hB)
        have sw14 : w13.heap.size ≤ w14.heap.size := hB.size
        replace hE := Lib.hid (below_to hE.out hB)
        clear hB
        have l0 := b0.lt
        have c0_0 : w14.cell? ⟨w.heap.size, 0, none⟩ = some (.int .i64 C0) := b0.cell rfl
        have c0_1 : w14.cell? ⟨w.heap.size, 1, none⟩ = some (.slice A0 ts0.length c0) := b0.cell rfl
        have l1 := b1.lt
        have c1_0 : w14.cell? ⟨w.heap.size + 1, 0, none⟩ = some (.int .i64 C1) := b1.cell rfl
        have c1_1 : w14.cell? ⟨w.heap.size + 1, 1, none⟩ = some (.slice A1 ts1.length c1) := b1.cell rfl
        have l2 := b2.lt
        have c2_0 : w14.cell? ⟨gv2_, 0, none⟩ = some (.int .i64 rc1) := b2.cell rfl
        have c2_1 : w14.cell? ⟨gv2_, 1, none⟩ = some (.slice A3_ r1.length c3_) := b2.cell rfl
        have l3 := b3.lt
        have c3_0 : w14.cell? ⟨w8.heap.size, 0, none⟩ = some (.int .i64 C0) := b3.cell rfl
        have c3_1 : w14.cell? ⟨w8.heap.size, 1, none⟩ = some (.slice A4_ ts0.length c4_) := b3.cell rfl
        have l4 := b4.lt
        have c4_0 : w14.cell? ⟨w10.heap.size, 0, none⟩ = some (.int .i64 C1) := b4.cell rfl
        have c4_1 : w14.cell? ⟨w10.heap.size, 1, none⟩ = some (.slice A5_ ts1.length c5_) := b4.cell rfl
        have l5 := b5.lt
        have c5_0 : w14.cell? ⟨w12.heap.size, 0, none⟩ = some (.int .i64 rc1) := b5.cell rfl
        have c5_1 : w14.cell? ⟨w12.heap.size, 1, none⟩ = some (.slice A6_ r1.length c6_) := b5.cell rfl
        go_wp2_with fail
        clear l0 c0_0 c0_1 l1 c1_0 c1_1 l2 c2_0 c2_1 l3 c3_0 c3_1 l4 c4_0 c4_1 l5 c5_0 c5_1
        have hD : Below w14.heap.size w14 w14.drew := (Below.refl _ _).drew
        replace b0 := b0.below hD b0.lt
        replace b1 := b1.below hD b1.lt
        replace b2 := b2.below hD b2.lt
        replace b3 := b3.below hD b3.lt
        replace b4 := b4.below hD b4.lt
        replace b5 := b5.below hD b5.lt
        replace O1 := Lib.hid (O1.out.to hD)
        replace O2 := Lib.hid (O2.out.to hD)
        replace O3 := Lib.hid (O3.out.to hD)
        replace O4 := Lib.hid (O4.out.to hD)
        replace O5 := Lib.hid (O5.out.to hD)
        replace O6 := Lib.hid (O6.out.to hD)
        replace hE := Lib.hid (below_to hE.out hD)
        clear hD
        have d1_w14 : w14.heap.size ≤ w14.drew.heap.size := Nat.le_refl _
        have d2_w14 : w14.drew.heap.size ≤ w14.heap.size := Nat.le_refl _
        go_region_held3 (fun w_ => w_.cell? ⟨w.heap.size, 0, none⟩ = some (.int .i64 C0) ∧ w_.cell? ⟨w.heap.size, 1, none⟩ = some (.slice A0 ts0.length c0) ∧ w_.cell? ⟨w.heap.size + 1, 0, none⟩ = some (.int .i64 C1) ∧ w_.cell? ⟨w.heap.size + 1, 1, none⟩ = some (.slice A1 ts1.length c1) ∧ w_.cell? ⟨gv2_, 0, none⟩ = some (.int .i64 rc1) ∧ w_.cell? ⟨gv2_, 1, none⟩ = some (.slice A3_ r1.length c3_) ∧ w_.cell? ⟨w8.heap.size, 0, none⟩ = some (.int .i64 C0) ∧ w_.cell? ⟨w8.heap.size, 1, none⟩ = some (.slice A4_ ts0.length c4_) ∧ w_.cell? ⟨w10.heap.size, 0, none⟩ = some (.int .i64 C1) ∧ w_.cell? ⟨w10.heap.size, 1, none⟩ = some (.slice A5_ ts1.length c5_) ∧ w_.cell? ⟨w12.heap.size, 0, none⟩ = some (.int .i64 rc1) ∧ w_.cell? ⟨w12.heap.size, 1, none⟩ = some (.slice A6_ r1.length c6_)) (first | exact ⟨b0.cell rfl, b0.cell rfl, b1.cell rfl, b1.cell rfl, b2.cell rfl, b2.cell rfl, b3.cell rfl, b3.cell rfl, b4.cell rfl, b4.cell rfl, b5.cell rfl, b5.cell rfl⟩)
          (first
            | (go_at_call 24; refine (toSet_any C0 A0 ts0 ts0.length c0 w14.drew rfl (HA0.out.below hE.out) (by omega)).mono ?_; rintro e w15 ⟨v_, rfl, hO, hB⟩; obtain ⟨A7_, c7_, rfl, -, -⟩ := hO.reads; have O7 := Lib.hid (OW.of hO); clear hO; replace b0 := b0.below hB b0.lt; replace b1 := b1.below hB b1.lt; replace b2 := b2.below hB b2.lt; replace b3 := b3.below hB b3.lt; replace b4 := b4.below hB b4.lt; replace b5 := b5.below hB b5.lt; replace O1 := Lib.hid (O1.out.to hB); replace O2 := Lib.hid (O2.out.to hB); replace O3 := Lib.hid (O3.out.to hB); replace O4 := Lib.hid (O4.out.to hB); replace O5 := Lib.hid (O5.out.to hB); replace O6 := Lib.hid (O6.out.to hB); have sw15 : w14.drew.heap.size ≤ w15.heap.size := hB.size; replace hE := Lib.hid (below_to hE.out hB); clear hB)
            | (go_at_call 17; refine (eqSet_any C0 C0 A4_ A7_ ts0 ts0 ts0.length ts0.length c4_ c7_ w15 rfl rfl (rt_of O4.out rfl) (rt_of O7.out rfl) (by omega) (by omega)).mono ?_; rintro e w16 ⟨rfl, hB⟩; simp only [decide_true, Bool.and_self]; replace b0 := b0.below hB b0.lt; replace b1 := b1.below hB b1.lt; replace b2 := b2.below hB b2.lt; replace b3 := b3.below hB b3.lt; replace b4 := b4.below hB b4.lt; replace b5 := b5.below hB b5.lt; replace O1 := Lib.hid (O1.out.to hB); replace O2 := Lib.hid (O2.out.to hB); replace O3 := Lib.hid (O3.out.to hB); replace O4 := Lib.hid (O4.out.to hB); replace O5 := Lib.hid (O5.out.to hB); replace O6 := Lib.hid (O6.out.to hB); replace O7 := Lib.hid (O7.out.to hB); have sw16 : w15.heap.size ≤ w16.heap.size := hB.size; replace hE := Lib.hid (below_to hE.out hB); clear hB))
        have l0 := b0.lt
        have c0_0 : w16.cell? ⟨w.heap.size, 0, none⟩ = some (.int .i64 C0) := b0.cell rfl
        have c0_1 : w16.cell? ⟨w.heap.size, 1, none⟩ = some (.slice A0 ts0.length c0) := b0.cell rfl
        have l1 := b1.lt
        have c1_0 : w16.cell? ⟨w.heap.size + 1, 0, none⟩ = some (.int .i64 C1) := b1.cell rfl
        have c1_1 : w16.cell? ⟨w.heap.size + 1, 1, none⟩ = some (.slice A1 ts1.length c1) := b1.cell rfl
        have l2 := b2.lt
        have c2_0 : w16.cell? ⟨gv2_, 0, none⟩ = some (.int .i64 rc1) := b2.cell rfl
        have c2_1 : w16.cell? ⟨gv2_, 1, none⟩ = some (.slice A3_ r1.length c3_) := b2.cell rfl
        have l3 := b3.lt
        have c3_0 : w16.cell? ⟨w8.heap.size, 0, none⟩ = some (.int .i64 C0) := b3.cell rfl
        have c3_1 : w16.cell? ⟨w8.heap.size, 1, none⟩ = some (.slice A4_ ts0.length c4_) := b3.cell rfl
        have l4 := b4.lt
        have c4_0 : w16.cell? ⟨w10.heap.size, 0, none⟩ = some (.int .i64 C1) := b4.cell rfl
        have c4_1 : w16.cell? ⟨w10.heap.size, 1, none⟩ = some (.slice A5_ ts1.length c5_) := b4.cell rfl
        have l5 := b5.lt
        have c5_0 : w16.cell? ⟨w12.heap.size, 0, none⟩ = some (.int .i64 rc1) := b5.cell rfl
        have c5_1 : w16.cell? ⟨w12.heap.size, 1, none⟩ = some (.slice A6_ r1.length c6_) := b5.cell rfl
        go_wp2_with fail
        clear l0 c0_0 c0_1 l1 c1_0 c1_1 l2 c2_0 c2_1 l3 c3_0 c3_1 l4 c4_0 c4_1 l5 c5_0 c5_1
        have hD : Below w16.heap.size w16 w16.drew := (Below.refl _ _).drew
        replace b0 := b0.below hD b0.lt
        replace b1 := b1.below hD b1.lt
        replace b2 := b2.below hD b2.lt
        replace b3 := b3.below hD b3.lt
        replace b4 := b4.below hD b4.lt
        replace b5 := b5.below hD b5.lt
        replace O1 := Lib.hid (O1.out.to hD)
        replace O2 := Lib.hid (O2.out.to hD)
        replace O3 := Lib.hid (O3.out.to hD)
        replace O4 := Lib.hid (O4.out.to hD)
        replace O5 := Lib.hid (O5.out.to hD)
        replace O6 := Lib.hid (O6.out.to hD)
        replace O7 := Lib.hid (O7.out.to hD)
        replace hE := Lib.hid (below_to hE.out hD)
        clear hD
        have d1_w16 : w16.heap.size ≤ w16.drew.heap.size := Nat.le_refl _
        have d2_w16 : w16.drew.heap.size ≤ w16.heap.size := Nat.le_refl _
        go_region_held3 (fun w_ => w_.cell? ⟨w.heap.size, 0, none⟩ = some (.int .i64 C0) ∧ w_.cell? ⟨w.heap.size, 1, none⟩ = some (.slice A0 ts0.length c0) ∧ w_.cell? ⟨w.heap.size + 1, 0, none⟩ = some (.int .i64 C1) ∧ w_.cell? ⟨w.heap.size + 1, 1, none⟩ = some (.slice A1 ts1.length c1) ∧ w_.cell? ⟨gv2_, 0, none⟩ = some (.int .i64 rc1) ∧ w_.cell? ⟨gv2_, 1, none⟩ = some (.slice A3_ r1.length c3_) ∧ w_.cell? ⟨w8.heap.size, 0, none⟩ = some (.int .i64 C0) ∧ w_.cell? ⟨w8.heap.size, 1, none⟩ = some (.slice A4_ ts0.length c4_) ∧ w_.cell? ⟨w10.heap.size, 0, none⟩ = some (.int .i64 C1) ∧ w_.cell? ⟨w10.heap.size, 1, none⟩ = some (.slice A5_ ts1.length c5_) ∧ w_.cell? ⟨w12.heap.size, 0, none⟩ = some (.int .i64 rc1) ∧ w_.cell? ⟨w12.heap.size, 1, none⟩ = some (.slice A6_ r1.length c6_)) (first | exact ⟨b0.cell rfl, b0.cell rfl, b1.cell rfl, b1.cell rfl, b2.cell rfl, b2.cell rfl, b3.cell rfl, b3.cell rfl, b4.cell rfl, b4.cell rfl, b5.cell rfl, b5.cell rfl⟩)
          (first
            | (go_at_call 24; refine (toSet_any C1 A1 ts1 ts1.length c1 w16.drew rfl (HA1.out.below hE.out) (by omega)).mono ?_; rintro e w17 ⟨v_, rfl, hO, hB⟩; obtain ⟨A8_, c8_, rfl, -, -⟩ := hO.reads; have O8 := Lib.hid (OW.of hO); clear hO; replace b0 := b0.below hB b0.lt; replace b1 := b1.below hB b1.lt; replace b2 := b2.below hB b2.lt; replace b3 := b3.below hB b3.lt; replace b4 := b4.below hB b4.lt; replace b5 := b5.below hB b5.lt; replace O1 := Lib.hid (O1.out.to hB); replace O2 := Lib.hid (O2.out.to hB); replace O3 := Lib.hid (O3.out.to hB); replace O4 := Lib.hid (O4.out.to hB); replace O5 := Lib.hid (O5.out.to hB); replace O6 := Lib.hid (O6.out.to hB); replace O7 := Lib.hid (O7.out.to hB); have sw17 : w16.drew.heap.size ≤ w17.heap.size := hB.size; replace hE := Lib.hid (below_to hE.out hB); clear hB)
            | (go_at_call 17; refine (eqSet_any C1 C1 A5_ A8_ ts1 ts1 ts1.length ts1.length c5_ c8_ w17 rfl rfl (rt_of O5.out rfl) (rt_of O8.out rfl) (by omega) (by omega)).mono ?_; rintro e w18 ⟨rfl, hB⟩; simp only [decide_true, Bool.and_self]; replace b0 := b0.below hB b0.lt; replace b1 := b1.below hB b1.lt; replace b2 := b2.below hB b2.lt; replace b3 := b3.below hB b3.lt; replace b4 := b4.below hB b4.lt; replace b5 := b5.below hB b5.lt; replace O1 := Lib.hid (O1.out.to hB); replace O2 := Lib.hid (O2.out.to hB); replace O3 := Lib.hid (O3.out.to hB); replace O4 := Lib.hid (O4.out.to hB); replace O5 := Lib.hid (O5.out.to hB); replace O6 := Lib.hid (O6.out.to hB); replace O7 := Lib.hid (O7.out.to hB); replace O8 := Lib.hid (O8.out.to hB); have sw18 : w17.heap.size ≤ w18.heap.size := hB.size; replace hE := Lib.hid (below_to hE.out hB); clear hB))
        have l0 := b0.lt
        have c0_0 : w18.cell? ⟨w.heap.size, 0, none⟩ = some (.int .i64 C0) := b0.cell rfl
        have c0_1 : w18.cell? ⟨w.heap.size, 1, none⟩ = some (.slice A0 ts0.length c0) := b0.cell rfl
        have l1 := b1.lt
        have c1_0 : w18.cell? ⟨w.heap.size + 1, 0, none⟩ = some (.int .i64 C1) := b1.cell rfl
        have c1_1 : w18.cell? ⟨w.heap.size + 1, 1, none⟩ = some (.slice A1 ts1.length c1) := b1.cell rfl
        have l2 := b2.lt
        have c2_0 : w18.cell? ⟨gv2_, 0, none⟩ = some (.int .i64 rc1) := b2.cell rfl
        have c2_1 : w18.cell? ⟨gv2_, 1, none⟩ = some (.slice A3_ r1.length c3_) := b2.cell rfl
        have l3 := b3.lt
        have c3_0 : w18.cell? ⟨w8.heap.size, 0, none⟩ = some (.int .i64 C0) := b3.cell rfl
        have c3_1 : w18.cell? ⟨w8.heap.size, 1, none⟩ = some (.slice A4_ ts0.length c4_) := b3.cell rfl
        have l4 := b4.lt
        have c4_0 : w18.cell? ⟨w10.heap.size, 0, none⟩ = some (.int .i64 C1) := b4.cell rfl
        have c4_1 : w18.cell? ⟨w10.heap.size, 1, none⟩ = some (.slice A5_ ts1.length c5_) := b4.cell rfl
        have l5 := b5.lt
        have c5_0 : w18.cell? ⟨w12.heap.size, 0, none⟩ = some (.int .i64 rc1) := b5.cell rfl
        have c5_1 : w18.cell? ⟨w12.heap.size, 1, none⟩ = some (.slice A6_ r1.length c6_) := b5.cell rfl
        go_wp2_with fail
        clear l0 c0_0 c0_1 l1 c1_0 c1_1 l2 c2_0 c2_1 l3 c3_0 c3_1 l4 c4_0 c4_1 l5 c5_0 c5_1
        obtain ⟨m_O4, hm_O4⟩ : ∃ m, m = ts0.length * 4 := ⟨_, rfl⟩
        have bm_O4 : m_O4 ≤ 40000000 := by omega
        have Hm_O4 := Lib.hid hm_O4; clear hm_O4
        refine (markSet_m w7.heap.size w8.heap.size C0 (.slice A4_ ts0.length c4_) ts0.length m_O4 (tcells ts0) (1) w18 Hm_O4.out O4.out (by omega) (by omega) (by omega)).mono ?_
        rintro e w19 ⟨rfl, hO, hK⟩
        clear O4
        have O4 := Lib.hid hO
        clear hO
        replace b0 := b0.only hK (by omega)
        replace b1 := b1.only hK (by omega)
        replace b2 := b2.only hK (by omega)
        replace b3 := b3.only hK (by omega)
        replace b4 := b4.only hK (by omega)
        replace b5 := b5.only hK (by omega)
        replace O1 := Lib.hid (O1.out.only hK (by omega))
        replace O2 := Lib.hid (O2.out.only hK (by omega))
        replace O3 := Lib.hid (O3.out.only hK (by omega))
        replace O5 := Lib.hid (O5.out.only hK (by omega))
        replace O6 := Lib.hid (O6.out.only hK (by omega))
        replace O7 := Lib.hid (O7.out.only hK (by omega))
        replace O8 := Lib.hid (O8.out.only hK (by omega))
        have sw19 : w18.heap.size ≤ w19.heap.size := hK.size
        replace hE := Lib.hid (below_only hE.out hK (by omega))
        clear hK
        have l0 := b0.lt
        have c0_0 : w19.cell? ⟨w.heap.size, 0, none⟩ = some (.int .i64 C0) := b0.cell rfl
        have c0_1 : w19.cell? ⟨w.heap.size, 1, none⟩ = some (.slice A0 ts0.length c0) := b0.cell rfl
        have l1 := b1.lt
        have c1_0 : w19.cell? ⟨w.heap.size + 1, 0, none⟩ = some (.int .i64 C1) := b1.cell rfl
        have c1_1 : w19.cell? ⟨w.heap.size + 1, 1, none⟩ = some (.slice A1 ts1.length c1) := b1.cell rfl
        have l2 := b2.lt
        have c2_0 : w19.cell? ⟨gv2_, 0, none⟩ = some (.int .i64 rc1) := b2.cell rfl
        have c2_1 : w19.cell? ⟨gv2_, 1, none⟩ = some (.slice A3_ r1.length c3_) := b2.cell rfl
        have l3 := b3.lt
        have c3_0 : w19.cell? ⟨w8.heap.size, 0, none⟩ = some (.int .i64 C0) := b3.cell rfl
        have c3_1 : w19.cell? ⟨w8.heap.size, 1, none⟩ = some (.slice A4_ ts0.length c4_) := b3.cell rfl
        have l4 := b4.lt
        have c4_0 : w19.cell? ⟨w10.heap.size, 0, none⟩ = some (.int .i64 C1) := b4.cell rfl
        have c4_1 : w19.cell? ⟨w10.heap.size, 1, none⟩ = some (.slice A5_ ts1.length c5_) := b4.cell rfl
        have l5 := b5.lt
        have c5_0 : w19.cell? ⟨w12.heap.size, 0, none⟩ = some (.int .i64 rc1) := b5.cell rfl
        have c5_1 : w19.cell? ⟨w12.heap.size, 1, none⟩ = some (.slice A6_ r1.length c6_) := b5.cell rfl
        go_wp2_with fail
        clear l0 c0_0 c0_1 l1 c1_0 c1_1 l2 c2_0 c2_1 l3 c3_0 c3_1 l4 c4_0 c4_1 l5 c5_0 c5_1
        obtain ⟨m_O5, hm_O5⟩ : ∃ m, m = ts1.length * 4 := ⟨_, rfl⟩
        have bm_O5 : m_O5 ≤ 40000000 := by omega
        have Hm_O5 := Lib.hid hm_O5; clear hm_O5
        refine (markSet_m w9.heap.size w10.heap.size C1 (.slice A5_ ts1.length c5_) ts1.length m_O5 (tcells ts1) ((1 + (m_O4 : Int))) w19 Hm_O5.out O5.out (by omega) (by omega) (by omega)).mono ?_
        rintro e w20 ⟨rfl, hO, hK⟩
        clear O5
        have O5 := Lib.hid hO
        clear hO
        replace b0 := b0.only hK (by omega)
        replace b1 := b1.only hK (by omega)
        replace b2 := b2.only hK (by omega)
        replace b3 := b3.only hK (by omega)
        replace b4 := b4.only hK (by omega)
        replace b5 := b5.only hK (by omega)
        replace O1 := Lib.hid (O1.out.only hK (by omega))
        replace O2 := Lib.hid (O2.out.only hK (by omega))
        replace O3 := Lib.hid (O3.out.only hK (by omega))
        replace O4 := Lib.hid (O4.out.only hK (by omega))
        replace O6 := Lib.hid (O6.out.only hK (by omega))
        replace O7 := Lib.hid (O7.out.only hK (by omega))
        replace O8 := Lib.hid (O8.out.only hK (by omega))
        have sw20 : w19.heap.size ≤ w20.heap.size := hK.size
        replace hE := Lib.hid (below_only hE.out hK (by omega))
        clear hK
        have l0 := b0.lt
        have c0_0 : w20.cell? ⟨w.heap.size, 0, none⟩ = some (.int .i64 C0) := b0.cell rfl
        have c0_1 : w20.cell? ⟨w.heap.size, 1, none⟩ = some (.slice A0 ts0.length c0) := b0.cell rfl
        have l1 := b1.lt
        have c1_0 : w20.cell? ⟨w.heap.size + 1, 0, none⟩ = some (.int .i64 C1) := b1.cell rfl
        have c1_1 : w20.cell? ⟨w.heap.size + 1, 1, none⟩ = some (.slice A1 ts1.length c1) := b1.cell rfl
        have l2 := b2.lt
        have c2_0 : w20.cell? ⟨gv2_, 0, none⟩ = some (.int .i64 rc1) := b2.cell rfl
        have c2_1 : w20.cell? ⟨gv2_, 1, none⟩ = some (.slice A3_ r1.length c3_) := b2.cell rfl
        have l3 := b3.lt
        have c3_0 : w20.cell? ⟨w8.heap.size, 0, none⟩ = some (.int .i64 C0) := b3.cell rfl
        have c3_1 : w20.cell? ⟨w8.heap.size, 1, none⟩ = some (.slice A4_ ts0.length c4_) := b3.cell rfl
        have l4 := b4.lt
        have c4_0 : w20.cell? ⟨w10.heap.size, 0, none⟩ = some (.int .i64 C1) := b4.cell rfl
        have c4_1 : w20.cell? ⟨w10.heap.size, 1, none⟩ = some (.slice A5_ ts1.length c5_) := b4.cell rfl
        have l5 := b5.lt
        have c5_0 : w20.cell? ⟨w12.heap.size, 0, none⟩ = some (.int .i64 rc1) := b5.cell rfl
        have c5_1 : w20.cell? ⟨w12.heap.size, 1, none⟩ = some (.slice A6_ r1.length c6_) := b5.cell rfl
        go_wp2_with fail
        clear l0 c0_0 c0_1 l1 c1_0 c1_1 l2 c2_0 c2_1 l3 c3_0 c3_1 l4 c4_0 c4_1 l5 c5_0 c5_1
        refine (eqSet_any rc1 rc1 A6_ A3_ r1 r1 r1.length r1.length c6_ c3_ w20 rfl rfl (rt_of O6.out rfl) (rt_of O3.out rfl) (by omega) (by omega)).mono ?_
        rintro e w21 ⟨rfl, hB⟩
        simp only [decide_true, Bool.and_self]
        replace b0 := b0.below hB b0.lt
        replace b1 := b1.below hB b1.lt
        replace b2 := b2.below hB b2.lt
        replace b3 := b3.below hB b3.lt
        replace b4 := b4.below hB b4.lt
        replace b5 := b5.below hB b5.lt
        replace O1 := Lib.hid (O1.out.to hB)
        replace O2 := Lib.hid (O2.out.to hB)
        replace O3 := Lib.hid (O3.out.to hB)
        replace O4 := Lib.hid (O4.out.to hB)
        replace O5 := Lib.hid (O5.out.to hB)
        replace O6 := Lib.hid (O6.out.to hB)
        replace O7 := Lib.hid (O7.out.to hB)
        replace O8 := Lib.hid (O8.out.to hB)
        have sw21 : w20.heap.size ≤ w21.heap.size := hB.size
        replace hE := Lib.hid (below_to hE.out hB)
        clear hB
        have l0 := b0.lt
        have c0_0 : w21.cell? ⟨w.heap.size, 0, none⟩ = some (.int .i64 C0) := b0.cell rfl
        have c0_1 : w21.cell? ⟨w.heap.size, 1, none⟩ = some (.slice A0 ts0.length c0) := b0.cell rfl
        have l1 := b1.lt
        have c1_0 : w21.cell? ⟨w.heap.size + 1, 0, none⟩ = some (.int .i64 C1) := b1.cell rfl
        have c1_1 : w21.cell? ⟨w.heap.size + 1, 1, none⟩ = some (.slice A1 ts1.length c1) := b1.cell rfl
        have l2 := b2.lt
        have c2_0 : w21.cell? ⟨gv2_, 0, none⟩ = some (.int .i64 rc1) := b2.cell rfl
        have c2_1 : w21.cell? ⟨gv2_, 1, none⟩ = some (.slice A3_ r1.length c3_) := b2.cell rfl
        have l3 := b3.lt
        have c3_0 : w21.cell? ⟨w8.heap.size, 0, none⟩ = some (.int .i64 C0) := b3.cell rfl
        have c3_1 : w21.cell? ⟨w8.heap.size, 1, none⟩ = some (.slice A4_ ts0.length c4_) := b3.cell rfl
        have l4 := b4.lt
        have c4_0 : w21.cell? ⟨w10.heap.size, 0, none⟩ = some (.int .i64 C1) := b4.cell rfl
        have c4_1 : w21.cell? ⟨w10.heap.size, 1, none⟩ = some (.slice A5_ ts1.length c5_) := b4.cell rfl
        have l5 := b5.lt
        have c5_0 : w21.cell? ⟨w12.heap.size, 0, none⟩ = some (.int .i64 rc1) := b5.cell rfl
        have c5_1 : w21.cell? ⟨w12.heap.size, 1, none⟩ = some (.slice A6_ r1.length c6_) := b5.cell rfl
        go_wp2_with fail
        clear l0 c0_0 c0_1 l1 c1_0 c1_1 l2 c2_0 c2_1 l3 c3_0 c3_1 l4 c4_0 c4_1 l5 c5_0 c5_1
        obtain ⟨m_O6, hm_O6⟩ : ∃ m, m = r1.length * 4 := ⟨_, rfl⟩
        have bm_O6 : m_O6 ≤ 40000000 := by omega
        have Hm_O6 := Lib.hid hm_O6; clear hm_O6
        refine (markSet_m w11.heap.size w12.heap.size rc1 (.slice A6_ r1.length c6_) r1.length m_O6 (tcells r1) (1) w21 Hm_O6.out O6.out (by omega) (by omega) (by omega)).mono ?_
        rintro e w22 ⟨rfl, hO, hK⟩
        clear O6
        have O6 := Lib.hid hO
        clear hO
        replace b0 := b0.only hK (by omega)
        replace b1 := b1.only hK (by omega)
        replace b2 := b2.only hK (by omega)
        replace b3 := b3.only hK (by omega)
        replace b4 := b4.only hK (by omega)
        replace b5 := b5.only hK (by omega)
        replace O1 := Lib.hid (O1.out.only hK (by omega))
        replace O2 := Lib.hid (O2.out.only hK (by omega))
        replace O3 := Lib.hid (O3.out.only hK (by omega))
        replace O4 := Lib.hid (O4.out.only hK (by omega))
        replace O5 := Lib.hid (O5.out.only hK (by omega))
        replace O7 := Lib.hid (O7.out.only hK (by omega))
        replace O8 := Lib.hid (O8.out.only hK (by omega))
        have sw22 : w21.heap.size ≤ w22.heap.size := hK.size
        replace hE := Lib.hid (below_only hE.out hK (by omega))
        clear hK
        have l0 := b0.lt
        have c0_0 : w22.cell? ⟨w.heap.size, 0, none⟩ = some (.int .i64 C0) := b0.cell rfl
        have c0_1 : w22.cell? ⟨w.heap.size, 1, none⟩ = some (.slice A0 ts0.length c0) := b0.cell rfl
        have l1 := b1.lt
        have c1_0 : w22.cell? ⟨w.heap.size + 1, 0, none⟩ = some (.int .i64 C1) := b1.cell rfl
        have c1_1 : w22.cell? ⟨w.heap.size + 1, 1, none⟩ = some (.slice A1 ts1.length c1) := b1.cell rfl
        have l2 := b2.lt
        have c2_0 : w22.cell? ⟨gv2_, 0, none⟩ = some (.int .i64 rc1) := b2.cell rfl
        have c2_1 : w22.cell? ⟨gv2_, 1, none⟩ = some (.slice A3_ r1.length c3_) := b2.cell rfl
        have l3 := b3.lt
        have c3_0 : w22.cell? ⟨w8.heap.size, 0, none⟩ = some (.int .i64 C0) := b3.cell rfl
        have c3_1 : w22.cell? ⟨w8.heap.size, 1, none⟩ = some (.slice A4_ ts0.length c4_) := b3.cell rfl
        have l4 := b4.lt
        have c4_0 : w22.cell? ⟨w10.heap.size, 0, none⟩ = some (.int .i64 C1) := b4.cell rfl
        have c4_1 : w22.cell? ⟨w10.heap.size, 1, none⟩ = some (.slice A5_ ts1.length c5_) := b4.cell rfl
        have l5 := b5.lt
        have c5_0 : w22.cell? ⟨w12.heap.size, 0, none⟩ = some (.int .i64 rc1) := b5.cell rfl
        have c5_1 : w22.cell? ⟨w12.heap.size, 1, none⟩ = some (.slice A6_ r1.length c6_) := b5.cell rfl
        go_wp2_with fail
        clear l0 c0_0 c0_1 l1 c1_0 c1_1 l2 c2_0 c2_1 l3 c3_0 c3_1 l4 c4_0 c4_1 l5 c5_0 c5_1
        refine (heldSet_m w11.heap.size w12.heap.size rc1 (.slice A6_ r1.length c6_) r1.length m_O6 (1) w22 Hm_O6.out O6.out (by omega) (by omega) (by omega)).mono ?_
        rintro e w23 ⟨rfl, hB⟩
        replace b0 := b0.below hB b0.lt
        replace b1 := b1.below hB b1.lt
        replace b2 := b2.below hB b2.lt
        replace b3 := b3.below hB b3.lt
        replace b4 := b4.below hB b4.lt
        replace b5 := b5.below hB b5.lt
        replace O1 := Lib.hid (O1.out.to hB)
        replace O2 := Lib.hid (O2.out.to hB)
        replace O3 := Lib.hid (O3.out.to hB)
        replace O4 := Lib.hid (O4.out.to hB)
        replace O5 := Lib.hid (O5.out.to hB)
        replace O6 := Lib.hid (O6.out.to hB)
        replace O7 := Lib.hid (O7.out.to hB)
        replace O8 := Lib.hid (O8.out.to hB)
        have sw23 : w22.heap.size ≤ w23.heap.size := hB.size
        replace hE := Lib.hid (below_to hE.out hB)
        clear hB
        have l0 := b0.lt
        have c0_0 : w23.cell? ⟨w.heap.size, 0, none⟩ = some (.int .i64 C0) := b0.cell rfl
        have c0_1 : w23.cell? ⟨w.heap.size, 1, none⟩ = some (.slice A0 ts0.length c0) := b0.cell rfl
        have l1 := b1.lt
        have c1_0 : w23.cell? ⟨w.heap.size + 1, 0, none⟩ = some (.int .i64 C1) := b1.cell rfl
        have c1_1 : w23.cell? ⟨w.heap.size + 1, 1, none⟩ = some (.slice A1 ts1.length c1) := b1.cell rfl
        have l2 := b2.lt
        have c2_0 : w23.cell? ⟨gv2_, 0, none⟩ = some (.int .i64 rc1) := b2.cell rfl
        have c2_1 : w23.cell? ⟨gv2_, 1, none⟩ = some (.slice A3_ r1.length c3_) := b2.cell rfl
        have l3 := b3.lt
        have c3_0 : w23.cell? ⟨w8.heap.size, 0, none⟩ = some (.int .i64 C0) := b3.cell rfl
        have c3_1 : w23.cell? ⟨w8.heap.size, 1, none⟩ = some (.slice A4_ ts0.length c4_) := b3.cell rfl
        have l4 := b4.lt
        have c4_0 : w23.cell? ⟨w10.heap.size, 0, none⟩ = some (.int .i64 C1) := b4.cell rfl
        have c4_1 : w23.cell? ⟨w10.heap.size, 1, none⟩ = some (.slice A5_ ts1.length c5_) := b4.cell rfl
        have l5 := b5.lt
        have c5_0 : w23.cell? ⟨w12.heap.size, 0, none⟩ = some (.int .i64 rc1) := b5.cell rfl
        have c5_1 : w23.cell? ⟨w12.heap.size, 1, none⟩ = some (.slice A6_ r1.length c6_) := b5.cell rfl
        go_wp2_with fail
        clear l0 c0_0 c0_1 l1 c1_0 c1_1 l2 c2_0 c2_1 l3 c3_0 c3_1 l4 c4_0 c4_1 l5 c5_0 c5_1
        have hD : Below w23.heap.size w23 w23.drew := (Below.refl _ _).drew
        replace b0 := b0.below hD b0.lt
        replace b1 := b1.below hD b1.lt
        replace b2 := b2.below hD b2.lt
        replace b3 := b3.below hD b3.lt
        replace b4 := b4.below hD b4.lt
        replace b5 := b5.below hD b5.lt
        replace O1 := Lib.hid (O1.out.to hD)
        replace O2 := Lib.hid (O2.out.to hD)
        replace O3 := Lib.hid (O3.out.to hD)
        replace O4 := Lib.hid (O4.out.to hD)
        replace O5 := Lib.hid (O5.out.to hD)
        replace O6 := Lib.hid (O6.out.to hD)
        replace O7 := Lib.hid (O7.out.to hD)
        replace O8 := Lib.hid (O8.out.to hD)
        replace hE := Lib.hid (below_to hE.out hD)
        clear hD
        have d1_w23 : w23.heap.size ≤ w23.drew.heap.size := Nat.le_refl _
        have d2_w23 : w23.drew.heap.size ≤ w23.heap.size := Nat.le_refl _
        refine region_join (R := fun a0_ a_ w_ => ∃ gv6_ : Nat, ∃ A9_ : Option Addr, ∃ c9_ : Nat, ∃ loO9_ : Nat, ∃ hiO9_ : Nat, ∃ A10_ : Option Addr, ∃ c10_ : Nat, ∃ loO10_ : Nat, ∃ hiO10_ : Nat, ∃ A11_ : Option Addr, ∃ c11_ : Nat, ∃ loO11_ : Nat, ∃ hiO11_ : Nat, a_ = ((((((((((a0_.put (some 95) (.agg #[.int .i64 C0, .slice A0 ts0.length c0])).put (some 96) (.agg #[.int .i64 C0, .slice A9_ ts0.length c9_])).put (some 97) (.agg #[.int .i64 C1, .slice A1 ts1.length c1])).put (some 98) (.agg #[.int .i64 C1, .slice A10_ ts1.length c10_])).put (some 99) (.tuple #[.agg #[.int .i64 rc1, .slice A11_ r1.length c11_], .int .i64 r2])).put (some 94) (.tuple #[.agg #[.int .i64 rc1, .slice A11_ r1.length c11_], .int .i64 r2])).put (some 100) (.agg #[.int .i64 rc1, .slice A11_ r1.length c11_])).put (some 101) (.int .i64 r2)).put (some 15) (.pointer (some ⟨gv6_, 0, none⟩))).put (some 16) (.int .i64 r2)) ∧ Below w23.drew.heap.size w23.drew w_ ∧ OW w_ loO9_ hiO9_ 45 4 (.slice A9_ ts0.length c9_) ts0.length (tcells ts0) ∧ OW w_ loO10_ hiO10_ 45 4 (.slice A10_ ts1.length c10_) ts1.length (tcells ts1) ∧ OW w_ loO11_ hiO11_ 45 4 (.slice A11_ r1.length c11_) r1.length (tcells r1) ∧ BK w_ gv6_ #[.int .i64 rc1, .slice A11_ r1.length c11_] 26 ∧ w23.drew.heap.size ≤ loO9_ ∧ loO9_ ≤ hiO9_ ∧ (gv6_ < loO9_ ∨ hiO9_ ≤ gv6_) ∧ hiO9_ ≤ loO10_ ∧ loO10_ ≤ hiO10_ ∧ (gv6_ < loO10_ ∨ hiO10_ ≤ gv6_) ∧ hiO10_ ≤ loO11_ ∧ loO11_ ≤ hiO11_ ∧ (gv6_ < loO11_ ∨ hiO11_ ≤ gv6_) ∧ w23.drew.heap.size ≤ gv6_) ?_ ?_
        · have hS := Lib.hid (Below.refl w23.drew.heap.size w23.drew)
          have g0_ := b0.lt
          have g1_ := b1.lt
          have g2_ := b2.lt
          have g3_ := b3.lt
          have g4_ := b4.lt
          have g5_ := b5.lt
          go_region_held3 (fun w_ => w_.cell? ⟨w.heap.size, 0, none⟩ = some (.int .i64 C0) ∧ w_.cell? ⟨w.heap.size, 1, none⟩ = some (.slice A0 ts0.length c0) ∧ w_.cell? ⟨w.heap.size + 1, 0, none⟩ = some (.int .i64 C1) ∧ w_.cell? ⟨w.heap.size + 1, 1, none⟩ = some (.slice A1 ts1.length c1) ∧ w_.cell? ⟨gv2_, 0, none⟩ = some (.int .i64 rc1) ∧ w_.cell? ⟨gv2_, 1, none⟩ = some (.slice A3_ r1.length c3_) ∧ w_.cell? ⟨w8.heap.size, 0, none⟩ = some (.int .i64 C0) ∧ w_.cell? ⟨w8.heap.size, 1, none⟩ = some (.slice A4_ ts0.length c4_) ∧ w_.cell? ⟨w10.heap.size, 0, none⟩ = some (.int .i64 C1) ∧ w_.cell? ⟨w10.heap.size, 1, none⟩ = some (.slice A5_ ts1.length c5_) ∧ w_.cell? ⟨w12.heap.size, 0, none⟩ = some (.int .i64 rc1) ∧ w_.cell? ⟨w12.heap.size, 1, none⟩ = some (.slice A6_ r1.length c6_)) (first | exact ⟨b0.cell rfl, b0.cell rfl, b1.cell rfl, b1.cell rfl, b2.cell rfl, b2.cell rfl, b3.cell rfl, b3.cell rfl, b4.cell rfl, b4.cell rfl, b5.cell rfl, b5.cell rfl⟩ | exact ⟨(b0.alloc _).cell rfl, (b0.alloc _).cell rfl, (b1.alloc _).cell rfl, (b1.alloc _).cell rfl, (b2.alloc _).cell rfl, (b2.alloc _).cell rfl, (b3.alloc _).cell rfl, (b3.alloc _).cell rfl, (b4.alloc _).cell rfl, (b4.alloc _).cell rfl, (b5.alloc _).cell rfl, (b5.alloc _).cell rfl⟩ | exact ⟨(b0.far2 (by omega) _ _).cell rfl, (b0.far2 (by omega) _ _).cell rfl, (b1.far2 (by omega) _ _).cell rfl, (b1.far2 (by omega) _ _).cell rfl, (b2.far2 (by omega) _ _).cell rfl, (b2.far2 (by omega) _ _).cell rfl, (b3.far2 (by omega) _ _).cell rfl, (b3.far2 (by omega) _ _).cell rfl, (b4.far2 (by omega) _ _).cell rfl, (b4.far2 (by omega) _ _).cell rfl, (b5.far2 (by omega) _ _).cell rfl, (b5.far2 (by omega) _ _).cell rfl⟩ | fail)
            (first
              | (go_at_call 24; refine at_world w23.drew ?_; refine (toSet_any C0 A0 ts0 ts0.length c0 _ rfl (HA0.out.below hE.out) (by omega)).mono ?_; rintro e w24 ⟨v_, rfl, hO, hB⟩; obtain ⟨A9_, c9_, rfl, -, -⟩ := hO.reads; have O9 := Lib.hid (OW.of hO); clear hO; replace b0 := b0.below hB b0.lt; replace b1 := b1.below hB b1.lt; replace b2 := b2.below hB b2.lt; replace b3 := b3.below hB b3.lt; replace b4 := b4.below hB b4.lt; replace b5 := b5.below hB b5.lt; replace O1 := Lib.hid (O1.out.to hB); replace O2 := Lib.hid (O2.out.to hB); replace O3 := Lib.hid (O3.out.to hB); replace O4 := Lib.hid (O4.out.to hB); replace O5 := Lib.hid (O5.out.to hB); replace O6 := Lib.hid (O6.out.to hB); replace O7 := Lib.hid (O7.out.to hB); replace O8 := Lib.hid (O8.out.to hB); have sw24 : w23.drew.heap.size ≤ w24.heap.size := hB.size; replace hE := Lib.hid (below_to hE.out hB); replace hS := Lib.hid (below_to hS.out hB); (try (replace b6 := b6.below hB b6.lt; have z0_ := b6.cell (k := 0) (v := .int .i64 0) rfl; have z1_ := b6.cell (k := 1) (v := .slice none 0 0) rfl; have y0_ := b6.frozen 0; have y1_ := b6.frozen 1; have y2_ := b6.lt)); clear hB)
              | (go_at_call 24; refine at_alloc (w := w23.drew) ?_; intro wA hA hzA b6_; have b6 : BK wA w23.heap.size _ _ := b6_; clear b6_; replace b0 := b0.below hA b0.lt; replace b1 := b1.below hA b1.lt; replace b2 := b2.below hA b2.lt; replace b3 := b3.below hA b3.lt; replace b4 := b4.below hA b4.lt; replace b5 := b5.below hA b5.lt; replace O1 := Lib.hid (O1.out.to hA); replace O2 := Lib.hid (O2.out.to hA); replace O3 := Lib.hid (O3.out.to hA); replace O4 := Lib.hid (O4.out.to hA); replace O5 := Lib.hid (O5.out.to hA); replace O6 := Lib.hid (O6.out.to hA); replace O7 := Lib.hid (O7.out.to hA); replace O8 := Lib.hid (O8.out.to hA); replace hE := Lib.hid (below_to hE.out hA); replace hS := Lib.hid (below_to hS.out hA); clear hA; refine (toSet_any C0 A0 ts0 ts0.length c0 _ rfl (HA0.out.below hE.out) (by omega)).mono ?_; rintro e w24 ⟨v_, rfl, hO, hB⟩; obtain ⟨A9_, c9_, rfl, -, -⟩ := hO.reads; have O9 := Lib.hid (OW.of hO); clear hO; replace b0 := b0.below hB b0.lt; replace b1 := b1.below hB b1.lt; replace b2 := b2.below hB b2.lt; replace b3 := b3.below hB b3.lt; replace b4 := b4.below hB b4.lt; replace b5 := b5.below hB b5.lt; replace O1 := Lib.hid (O1.out.to hB); replace O2 := Lib.hid (O2.out.to hB); replace O3 := Lib.hid (O3.out.to hB); replace O4 := Lib.hid (O4.out.to hB); replace O5 := Lib.hid (O5.out.to hB); replace O6 := Lib.hid (O6.out.to hB); replace O7 := Lib.hid (O7.out.to hB); replace O8 := Lib.hid (O8.out.to hB); have sw24 : wA.heap.size ≤ w24.heap.size := hB.size; replace hE := Lib.hid (below_to hE.out hB); replace hS := Lib.hid (below_to hS.out hB); (try (replace b6 := b6.below hB b6.lt; have z0_ := b6.cell (k := 0) (v := .int .i64 0) rfl; have z1_ := b6.cell (k := 1) (v := .slice none 0 0) rfl; have y0_ := b6.frozen 0; have y1_ := b6.frozen 1; have y2_ := b6.lt)); clear hB)
              | (go_at_call 24; refine at_world w24 ?_; refine (toSet_any C1 A1 ts1 ts1.length c1 _ rfl (HA1.out.below hE.out) (by omega)).mono ?_; rintro e w25 ⟨v_, rfl, hO, hB⟩; obtain ⟨A10_, c10_, rfl, -, -⟩ := hO.reads; have O10 := Lib.hid (OW.of hO); clear hO; replace b0 := b0.below hB b0.lt; replace b1 := b1.below hB b1.lt; replace b2 := b2.below hB b2.lt; replace b3 := b3.below hB b3.lt; replace b4 := b4.below hB b4.lt; replace b5 := b5.below hB b5.lt; replace O1 := Lib.hid (O1.out.to hB); replace O2 := Lib.hid (O2.out.to hB); replace O3 := Lib.hid (O3.out.to hB); replace O4 := Lib.hid (O4.out.to hB); replace O5 := Lib.hid (O5.out.to hB); replace O6 := Lib.hid (O6.out.to hB); replace O7 := Lib.hid (O7.out.to hB); replace O8 := Lib.hid (O8.out.to hB); replace O9 := Lib.hid (O9.out.to hB); have sw25 : w24.heap.size ≤ w25.heap.size := hB.size; replace hE := Lib.hid (below_to hE.out hB); replace hS := Lib.hid (below_to hS.out hB); (try (replace b6 := b6.below hB b6.lt; have z0_ := b6.cell (k := 0) (v := .int .i64 0) rfl; have z1_ := b6.cell (k := 1) (v := .slice none 0 0) rfl; have y0_ := b6.frozen 0; have y1_ := b6.frozen 1; have y2_ := b6.lt)); clear hB)
              | (go_at_call 24; refine at_alloc (w := w24) ?_; intro wA hA hzA b6_; have b6 : BK wA w24.heap.size _ _ := b6_; clear b6_; replace b0 := b0.below hA b0.lt; replace b1 := b1.below hA b1.lt; replace b2 := b2.below hA b2.lt; replace b3 := b3.below hA b3.lt; replace b4 := b4.below hA b4.lt; replace b5 := b5.below hA b5.lt; replace O1 := Lib.hid (O1.out.to hA); replace O2 := Lib.hid (O2.out.to hA); replace O3 := Lib.hid (O3.out.to hA); replace O4 := Lib.hid (O4.out.to hA); replace O5 := Lib.hid (O5.out.to hA); replace O6 := Lib.hid (O6.out.to hA); replace O7 := Lib.hid (O7.out.to hA); replace O8 := Lib.hid (O8.out.to hA); replace O9 := Lib.hid (O9.out.to hA); replace hE := Lib.hid (below_to hE.out hA); replace hS := Lib.hid (below_to hS.out hA); clear hA; refine (toSet_any C1 A1 ts1 ts1.length c1 _ rfl (HA1.out.below hE.out) (by omega)).mono ?_; rintro e w25 ⟨v_, rfl, hO, hB⟩; obtain ⟨A10_, c10_, rfl, -, -⟩ := hO.reads; have O10 := Lib.hid (OW.of hO); clear hO; replace b0 := b0.below hB b0.lt; replace b1 := b1.below hB b1.lt; replace b2 := b2.below hB b2.lt; replace b3 := b3.below hB b3.lt; replace b4 := b4.below hB b4.lt; replace b5 := b5.below hB b5.lt; replace O1 := Lib.hid (O1.out.to hB); replace O2 := Lib.hid (O2.out.to hB); replace O3 := Lib.hid (O3.out.to hB); replace O4 := Lib.hid (O4.out.to hB); replace O5 := Lib.hid (O5.out.to hB); replace O6 := Lib.hid (O6.out.to hB); replace O7 := Lib.hid (O7.out.to hB); replace O8 := Lib.hid (O8.out.to hB); replace O9 := Lib.hid (O9.out.to hB); have sw25 : wA.heap.size ≤ w25.heap.size := hB.size; replace hE := Lib.hid (below_to hE.out hB); replace hS := Lib.hid (below_to hS.out hB); (try (replace b6 := b6.below hB b6.lt; have z0_ := b6.cell (k := 0) (v := .int .i64 0) rfl; have z1_ := b6.cell (k := 1) (v := .slice none 0 0) rfl; have y0_ := b6.frozen 0; have y1_ := b6.frozen 1; have y2_ := b6.lt)); clear hB)
              | (go_at_call 33; refine at_world w25 ?_; refine (implJoinSets_any C0 A9_ ts0 ts0.length c9_ C1 A10_ ts1 ts1.length c10_ _ rfl (rt_of O9.out rfl) (le_of O9.out) (by omega) rfl (rt_of O10.out rfl) (le_of O10.out) (by omega)).mono ?_; rintro e w26 ⟨v0_, xc0_, x0_, x1_, hR_, rfl, hO0, hB⟩; obtain ⟨rfl, rfl, rfl⟩ : rc1 = xc0_ ∧ r1 = x0_ ∧ r2 = x1_ := (by have h_ := HR.out.symm.trans hR_; simpa [and_assoc] using h_); clear hR_; obtain ⟨A11_, c11_, rfl, -⟩ := hO0.form; have O11 := Lib.hid hO0; clear hO0; replace b0 := b0.below hB b0.lt; replace b1 := b1.below hB b1.lt; replace b2 := b2.below hB b2.lt; replace b3 := b3.below hB b3.lt; replace b4 := b4.below hB b4.lt; replace b5 := b5.below hB b5.lt; replace O1 := Lib.hid (O1.out.to hB); replace O2 := Lib.hid (O2.out.to hB); replace O3 := Lib.hid (O3.out.to hB); replace O4 := Lib.hid (O4.out.to hB); replace O5 := Lib.hid (O5.out.to hB); replace O6 := Lib.hid (O6.out.to hB); replace O7 := Lib.hid (O7.out.to hB); replace O8 := Lib.hid (O8.out.to hB); replace O9 := Lib.hid (O9.out.to hB); replace O10 := Lib.hid (O10.out.to hB); have sw26 : w25.heap.size ≤ w26.heap.size := hB.size; replace hE := Lib.hid (below_to hE.out hB); replace hS := Lib.hid (below_to hS.out hB); (try (replace b6 := b6.below hB b6.lt; have z0_ := b6.cell (k := 0) (v := .int .i64 0) rfl; have z1_ := b6.cell (k := 1) (v := .slice none 0 0) rfl; have y0_ := b6.frozen 0; have y1_ := b6.frozen 1; have y2_ := b6.lt)); clear hB)
              | (go_at_call 33; refine at_alloc (w := w25) ?_; intro wA hA hzA b6_; have b6 : BK wA w25.heap.size _ _ := b6_; clear b6_; replace b0 := b0.below hA b0.lt; replace b1 := b1.below hA b1.lt; replace b2 := b2.below hA b2.lt; replace b3 := b3.below hA b3.lt; replace b4 := b4.below hA b4.lt; replace b5 := b5.below hA b5.lt; replace O1 := Lib.hid (O1.out.to hA); replace O2 := Lib.hid (O2.out.to hA); replace O3 := Lib.hid (O3.out.to hA); replace O4 := Lib.hid (O4.out.to hA); replace O5 := Lib.hid (O5.out.to hA); replace O6 := Lib.hid (O6.out.to hA); replace O7 := Lib.hid (O7.out.to hA); replace O8 := Lib.hid (O8.out.to hA); replace O9 := Lib.hid (O9.out.to hA); replace O10 := Lib.hid (O10.out.to hA); replace hE := Lib.hid (below_to hE.out hA); replace hS := Lib.hid (below_to hS.out hA); clear hA; refine (implJoinSets_any C0 A9_ ts0 ts0.length c9_ C1 A10_ ts1 ts1.length c10_ _ rfl (rt_of O9.out rfl) (le_of O9.out) (by omega) rfl (rt_of O10.out rfl) (le_of O10.out) (by omega)).mono ?_; rintro e w26 ⟨v0_, xc0_, x0_, x1_, hR_, rfl, hO0, hB⟩; obtain ⟨rfl, rfl, rfl⟩ : rc1 = xc0_ ∧ r1 = x0_ ∧ r2 = x1_ := (by have h_ := HR.out.symm.trans hR_; simpa [and_assoc] using h_); clear hR_; obtain ⟨A11_, c11_, rfl, -⟩ := hO0.form; have O11 := Lib.hid hO0; clear hO0; replace b0 := b0.below hB b0.lt; replace b1 := b1.below hB b1.lt; replace b2 := b2.below hB b2.lt; replace b3 := b3.below hB b3.lt; replace b4 := b4.below hB b4.lt; replace b5 := b5.below hB b5.lt; replace O1 := Lib.hid (O1.out.to hB); replace O2 := Lib.hid (O2.out.to hB); replace O3 := Lib.hid (O3.out.to hB); replace O4 := Lib.hid (O4.out.to hB); replace O5 := Lib.hid (O5.out.to hB); replace O6 := Lib.hid (O6.out.to hB); replace O7 := Lib.hid (O7.out.to hB); replace O8 := Lib.hid (O8.out.to hB); replace O9 := Lib.hid (O9.out.to hB); replace O10 := Lib.hid (O10.out.to hB); have sw26 : wA.heap.size ≤ w26.heap.size := hB.size; replace hE := Lib.hid (below_to hE.out hB); replace hS := Lib.hid (below_to hS.out hB); (try (replace b6 := b6.below hB b6.lt; have z0_ := b6.cell (k := 0) (v := .int .i64 0) rfl; have z1_ := b6.cell (k := 1) (v := .slice none 0 0) rfl; have y0_ := b6.frozen 0; have y1_ := b6.frozen 1; have y2_ := b6.lt)); clear hB))
          all_goals first
            | (refine ⟨_, A9_, c9_, _, _, A10_, c10_, _, _, A11_, c11_, _, _, ?_, leaf_store hS.out ?_ _ _, O9.out.store ?_ _ _, O10.out.store ?_ _ _, O11.out.store ?_ _ _, b6.store2 _ _, ?_, ?_, ?_, ?_, ?_, ?_, ?_, ?_, ?_, ?_⟩ <;> first | omega | (simp only [Act.put, List.setIfInBounds_toArray, List.set_cons_zero, List.set_cons_succ]))
            | (refine ⟨_, A9_, c9_, _, _, A10_, c10_, _, _, A11_, c11_, _, _, ?_, below_al hS.out _, O9.out.to (new_below _ _), O10.out.to (new_below _ _), O11.out.to (new_below _ _), BK.new _ _ _, ?_, ?_, ?_, ?_, ?_, ?_, ?_, ?_, ?_, ?_⟩ <;> first | omega | (simp only [Act.put, List.setIfInBounds_toArray, List.set_cons_zero, List.set_cons_succ]))
        · intro a_ w27 hR_
          obtain ⟨gv6_, A9_, c9_, loO9_, hiO9_, A10_, c10_, loO10_, hiO10_, A11_, c11_, loO11_, hiO11_, rfl, hB, hOO9, hOO10, hOO11, b6, qw27_0, qw27_1, qw27_2, qw27_3, qw27_4, qw27_5, qw27_6, qw27_7, qw27_8, qw27_9⟩ := hR_
          simp only [Act.put, List.setIfInBounds_toArray, List.set_cons_zero, List.set_cons_succ]
          have O9 := Lib.hid hOO9; have topO9 := hOO9.top; clear hOO9
          have O10 := Lib.hid hOO10; have topO10 := hOO10.top; clear hOO10
          have O11 := Lib.hid hOO11; have topO11 := hOO11.top; clear hOO11
          replace b0 := b0.below hB b0.lt
          replace b1 := b1.below hB b1.lt
          replace b2 := b2.below hB b2.lt
          replace b3 := b3.below hB b3.lt
          replace b4 := b4.below hB b4.lt
          replace b5 := b5.below hB b5.lt
          replace O1 := Lib.hid (O1.out.to hB)
          replace O2 := Lib.hid (O2.out.to hB)
          replace O3 := Lib.hid (O3.out.to hB)
          replace O4 := Lib.hid (O4.out.to hB)
          replace O5 := Lib.hid (O5.out.to hB)
          replace O6 := Lib.hid (O6.out.to hB)
          replace O7 := Lib.hid (O7.out.to hB)
          replace O8 := Lib.hid (O8.out.to hB)
          have sw27 : w23.drew.heap.size ≤ w27.heap.size := hB.size
          replace hE := Lib.hid (below_to hE.out hB)
          have kw27 := b6.lt
          clear hB
          have l0 := b0.lt
          have c0_0 : w27.cell? ⟨w.heap.size, 0, none⟩ = some (.int .i64 C0) := b0.cell rfl
          have c0_1 : w27.cell? ⟨w.heap.size, 1, none⟩ = some (.slice A0 ts0.length c0) := b0.cell rfl
          have l1 := b1.lt
          have c1_0 : w27.cell? ⟨w.heap.size + 1, 0, none⟩ = some (.int .i64 C1) := b1.cell rfl
          have c1_1 : w27.cell? ⟨w.heap.size + 1, 1, none⟩ = some (.slice A1 ts1.length c1) := b1.cell rfl
          have l2 := b2.lt
          have c2_0 : w27.cell? ⟨gv2_, 0, none⟩ = some (.int .i64 rc1) := b2.cell rfl
          have c2_1 : w27.cell? ⟨gv2_, 1, none⟩ = some (.slice A3_ r1.length c3_) := b2.cell rfl
          have l3 := b3.lt
          have c3_0 : w27.cell? ⟨w8.heap.size, 0, none⟩ = some (.int .i64 C0) := b3.cell rfl
          have c3_1 : w27.cell? ⟨w8.heap.size, 1, none⟩ = some (.slice A4_ ts0.length c4_) := b3.cell rfl
          have l4 := b4.lt
          have c4_0 : w27.cell? ⟨w10.heap.size, 0, none⟩ = some (.int .i64 C1) := b4.cell rfl
          have c4_1 : w27.cell? ⟨w10.heap.size, 1, none⟩ = some (.slice A5_ ts1.length c5_) := b4.cell rfl
          have l5 := b5.lt
          have c5_0 : w27.cell? ⟨w12.heap.size, 0, none⟩ = some (.int .i64 rc1) := b5.cell rfl
          have c5_1 : w27.cell? ⟨w12.heap.size, 1, none⟩ = some (.slice A6_ r1.length c6_) := b5.cell rfl
          have l6 := b6.lt
          have c6_0 : w27.cell? ⟨gv6_, 0, none⟩ = some (.int .i64 rc1) := b6.cell rfl
          have c6_1 : w27.cell? ⟨gv6_, 1, none⟩ = some (.slice A11_ r1.length c11_) := b6.cell rfl
          go_wp2_with fail
          clear l0 c0_0 c0_1 l1 c1_0 c1_1 l2 c2_0 c2_1 l3 c3_0 c3_1 l4 c4_0 c4_1 l5 c5_0 c5_1 l6 c6_0 c6_1
          refine (eqSet_any rc1 rc1 A11_ A3_ r1 r1 r1.length r1.length c11_ c3_ w27 rfl rfl (rt_of O11.out rfl) (rt_of O3.out rfl) (by omega) (by omega)).mono ?_
          rintro e w28 ⟨rfl, hB⟩
          simp only [decide_true, Bool.and_self]
          replace b0 := b0.below hB b0.lt
          replace b1 := b1.below hB b1.lt
          replace b2 := b2.below hB b2.lt
          replace b3 := b3.below hB b3.lt
          replace b4 := b4.below hB b4.lt
          replace b5 := b5.below hB b5.lt
          replace b6 := b6.below hB b6.lt
          replace O1 := Lib.hid (O1.out.to hB)
          replace O2 := Lib.hid (O2.out.to hB)
          replace O3 := Lib.hid (O3.out.to hB)
          replace O4 := Lib.hid (O4.out.to hB)
          replace O5 := Lib.hid (O5.out.to hB)
          replace O6 := Lib.hid (O6.out.to hB)
          replace O7 := Lib.hid (O7.out.to hB)
          replace O8 := Lib.hid (O8.out.to hB)
          replace O9 := Lib.hid (O9.out.to hB)
          replace O10 := Lib.hid (O10.out.to hB)
          replace O11 := Lib.hid (O11.out.to hB)
          have sw28 : w27.heap.size ≤ w28.heap.size := hB.size
          replace hE := Lib.hid (below_to hE.out hB)
          clear hB
          have l0 := b0.lt
          have c0_0 : w28.cell? ⟨w.heap.size, 0, none⟩ = some (.int .i64 C0) := b0.cell rfl
          have c0_1 : w28.cell? ⟨w.heap.size, 1, none⟩ = some (.slice A0 ts0.length c0) := b0.cell rfl
          have l1 := b1.lt
          have c1_0 : w28.cell? ⟨w.heap.size + 1, 0, none⟩ = some (.int .i64 C1) := b1.cell rfl
          have c1_1 : w28.cell? ⟨w.heap.size + 1, 1, none⟩ = some (.slice A1 ts1.length c1) := b1.cell rfl
          have l2 := b2.lt
          have c2_0 : w28.cell? ⟨gv2_, 0, none⟩ = some (.int .i64 rc1) := b2.cell rfl
          have c2_1 : w28.cell? ⟨gv2_, 1, none⟩ = some (.slice A3_ r1.length c3_) := b2.cell rfl
          have l3 := b3.lt
          have c3_0 : w28.cell? ⟨w8.heap.size, 0, none⟩ = some (.int .i64 C0) := b3.cell rfl
          have c3_1 : w28.cell? ⟨w8.heap.size, 1, none⟩ = some (.slice A4_ ts0.length c4_) := b3.cell rfl
          have l4 := b4.lt
          have c4_0 : w28.cell? ⟨w10.heap.size, 0, none⟩ = some (.int .i64 C1) := b4.cell rfl
          have c4_1 : w28.cell? ⟨w10.heap.size, 1, none⟩ = some (.slice A5_ ts1.length c5_) := b4.cell rfl
          have l5 := b5.lt
          have c5_0 : w28.cell? ⟨w12.heap.size, 0, none⟩ = some (.int .i64 rc1) := b5.cell rfl
          have c5_1 : w28.cell? ⟨w12.heap.size, 1, none⟩ = some (.slice A6_ r1.length c6_) := b5.cell rfl
          have l6 := b6.lt
          have c6_0 : w28.cell? ⟨gv6_, 0, none⟩ = some (.int .i64 rc1) := b6.cell rfl
          have c6_1 : w28.cell? ⟨gv6_, 1, none⟩ = some (.slice A11_ r1.length c11_) := b6.cell rfl
          go_wp2_with fail
          clear l0 c0_0 c0_1 l1 c1_0 c1_1 l2 c2_0 c2_1 l3 c3_0 c3_1 l4 c4_0 c4_1 l5 c5_0 c5_1 l6 c6_0 c6_1
          refine (heldSet_m w11.heap.size w12.heap.size rc1 (.slice A6_ r1.length c6_) r1.length m_O6 (1) w28 Hm_O6.out O6.out (by omega) (by omega) (by omega)).mono ?_
          rintro e w29 ⟨rfl, hB⟩
          replace b0 := b0.below hB b0.lt
          replace b1 := b1.below hB b1.lt
          replace b2 := b2.below hB b2.lt
          replace b3 := b3.below hB b3.lt
          replace b4 := b4.below hB b4.lt
          replace b5 := b5.below hB b5.lt
          replace b6 := b6.below hB b6.lt
          replace O1 := Lib.hid (O1.out.to hB)
          replace O2 := Lib.hid (O2.out.to hB)
          replace O3 := Lib.hid (O3.out.to hB)
          replace O4 := Lib.hid (O4.out.to hB)
          replace O5 := Lib.hid (O5.out.to hB)
          replace O6 := Lib.hid (O6.out.to hB)
          replace O7 := Lib.hid (O7.out.to hB)
          replace O8 := Lib.hid (O8.out.to hB)
          replace O9 := Lib.hid (O9.out.to hB)
          replace O10 := Lib.hid (O10.out.to hB)
          replace O11 := Lib.hid (O11.out.to hB)
          have sw29 : w28.heap.size ≤ w29.heap.size := hB.size
          replace hE := Lib.hid (below_to hE.out hB)
          clear hB
          go_wp2_with fail
          go_ret
          exact ⟨rfl, hE.out⟩
end Go.Proofs.Ytnjmgmdpkogocaa

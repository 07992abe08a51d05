/-
  Parts of the proof, in their order: ExtS, P4, PTold, QSpecL01Renamed, QSpecRenameColours, QImplChangedAtImplRenameColours2, QImplRenameColours, PRename, LawRename.
-/
import Derived.Test.YtnjmgmdpkogocaaPk18
import Derived.Test.YtnjmgmdpkogocaaPk16
import Derived.Test.YtnjmgmdpkogocaaPk8
import Derived.Test.YtnjmgmdpkogocaaPk6
import Derived.Test.YtnjmgmdpkogocaaPk11
import Derived.Test.YtnjmgmdpkogocaaWMore
import Derived.Test.YtnjmgmdpkogocaaPk17
import Derived.Deep.RegionHeld3
/-
  Contracts of functions that make sets, in the form of the printed ones.
-/
namespace Go.Proofs.Ytnjmgmdpkogocaa
open Go Go.RowKit Go.Proofs Go.Proofs.YtnjmgmdpkogocaaW.PrintWords Go.Proofs.Ytnjmgmdpkogocaa.Q
set_option linter.unusedVariables false
set_option linter.unusedSimpArgs false
theorem R_of_OT {w : World} {base : Nat} {e : TypeId} {v : Value} {ts : List T4} (h : OT w base e v ts) : Kd.R k45 e w base (fun _ => True) v (ts.map toS) := by
  refine ⟨fun _ _ => trivial, tcells ts, ?_, ?_, fun j p hp => ?_⟩
  · rw [List.length_map]; exact h
  · rw [tcells_length, List.length_map]; rfl
  · have hj := (List.getElem?_eq_some_iff.1 hp).1
    rw [List.length_map] at hj
    have hp' : p = toS (tk ts j) := by
      rw [List.getElem?_map, List.getElem?_eq_getElem hj] at hp
      simp only [Option.map_some, Option.some.injEq] at hp
      rw [← hp]; simp [tk, List.getD, List.getElem?_eq_getElem hj]
    subst hp'
    have e4 : k45.sz = 4 := rfl
    have hc : ((tcells ts).drop (j * 4)).take 4 = [.int .i64 (toS (tk ts j)).f0, .int .i64 (toS (tk ts j)).f1, .int .i64 (toS (tk ts j)).f2, .int .i64 (toS (tk ts j)).f3] := by
      apply List.ext_getElem?
      intro i
      rw [List.getElem?_take, List.getElem?_drop]
      match i with
      | 0 => rw [if_pos (by omega), tcells_get hj (by omega)]; rfl
      | 1 => rw [if_pos (by omega), tcells_get hj (by omega)]; rfl
      | 2 => rw [if_pos (by omega), tcells_get hj (by omega)]; rfl
      | 3 => rw [if_pos (by omega), tcells_get hj (by omega)]; rfl
      | i + 4 => rw [if_neg (by omega)]; simp
    rw [e4, hc]
    exact k45_mk w (toS (tk ts j))
theorem R_of_OW {w : World} {base hi : Nat} {e : TypeId} {v : Value} {ts : List T4} {n : Nat} (h : OW w base hi e 4 v n (tcells ts)) (hn : n = ts.length) : Kd.R k45 e w base (fun _ => True) v (ts.map toS) := by
  subst hn
  exact R_of_OT h.own
theorem ow_of_RT {w : World} {base : Nat} {e : TypeId} {v : Value} {ts : List T4} {ok : Nat → Prop} (h : Kd.R k45 e w base ok v (ts.map toS)) : OW w base w.heap.size e 4 v ts.length (tcells ts) := by
  obtain ⟨-, inner, ho, hr⟩ := h
  have e4 : k45.sz = 4 := rfl
  rw [List.length_map, e4] at ho
  have hl : inner.length = ts.length * 4 := by have := hr.1; rw [List.length_map, e4] at this; exact this
  have : inner = tcells ts := by
    apply List.ext_getElem?
    intro j
    by_cases hj : j < ts.length * 4
    · obtain ⟨q, r, rfl, hr4⟩ : ∃ q r, j = q * 4 + r ∧ r < 4 := ⟨j / 4, j % 4, by omega, by omega⟩
      have hq : q < ts.length := by omega
      have h2 := hr.2 q (toS (tk ts q)) (by rw [List.getElem?_map, List.getElem?_eq_getElem hq]; simp [tk, List.getD, List.getElem?_eq_getElem hq])
      have h3 := k45_open (k45.K_of_M h2)
      rw [e4] at h3
      have h4 : inner[q * 4 + r]? = ((inner.drop (q * 4)).take 4)[r]? := by rw [List.getElem?_take, if_pos hr4, List.getElem?_drop]
      rw [h4, h3, tcells_get hq hr4]
      have : r = 0 ∨ r = 1 ∨ r = 2 ∨ r = 3 := by omega
      rcases this with rfl | rfl | rfl | rfl <;> rfl
    · rw [List.getElem?_eq_none (by omega), List.getElem?_eq_none (by rw [tcells_length]; omega)]
  subst this
  exact OW.of ho
end Go.Proofs.Ytnjmgmdpkogocaa
namespace Go.Proofs.Ytnjmgmdpkogocaa.Q
open Go Go.RowKit Go.Proofs Go.Proofs.YtnjmgmdpkogocaaW.PrintWords Go.Proofs.Ytnjmgmdpkogocaa
set_option linter.unusedVariables false
set_option linter.unusedSimpArgs false

def lim6 (n : Nat) : Bool := decide (n ≤ 1000000)
def spec_l01Made.f (a0 : Int) (l1 : List STile) : Option (Int × List STile) := if lim6 l1.length = true then some (a0, (sortT (l1.map toT)).map toS) else none
theorem spec_l01Made.calls (a0 : Int) (A1 : Option Addr) (c1 : Nat) (l1 : List STile) (r1 : Int) (r2 : List STile) (w : World) (hr1 : Kd.C k45 w A1 l1.length l1) (hc1 : l1.length ≤ c1) (h : spec_l01Made.f a0 l1 = some (r1, r2)) :
    Calls Try.prog 52 #[.int .i64 a0, .slice A1 l1.length c1] w fun e w' => ∃ v1_ : Value, e = .returned (.agg #[.int .i64 r1, v1_]) ∧ Kd.R k45 45 w' w.heap.size (fun _ => True) v1_ r2 ∧ Below w.heap.size w w' := by
  unfold spec_l01Made.f at h
  split at h
  · rename_i hl
    obtain ⟨rfl, rfl⟩ := Prod.mk.inj (Option.some.inj h)
    refine (l01Made_any a0 A1 (l1.map toT) _ c1 w (by simp) (rt_of_C hr1) (by simpa [lim6] using hl)).mono ?_
    rintro e w' ⟨g, ln, c', rfl, hln, hO, hB⟩
    have e1 : sortK (l1.map toT) l1.length = sortT (l1.map toT) := by unfold sortT; rw [List.length_map]
    rw [e1] at hln hO
    exact ⟨_, rfl, R_of_OW hO hln, hB⟩
  · cases h
def spec_l01Flipped.f (a0_0 : Int) (l0_1 : List STile) : Option (Int × List STile) := if lim6 l0_1.length = true then some (a0_0, (sortT ((l0_1.map toT).map (sidesT 0 3 2 1))).map toS) else none
theorem spec_l01Flipped.calls (a0_0 : Int) (A0_1 : Option Addr) (c0_1 : Nat) (l0_1 : List STile) (r1 : Int) (r2 : List STile) (w : World) (hr0_1 : Kd.C k45 w A0_1 l0_1.length l0_1) (hc0_1 : l0_1.length ≤ c0_1) (h : spec_l01Flipped.f a0_0 l0_1 = some (r1, r2)) :
    Calls Try.prog 64 #[.agg #[.int .i64 a0_0, .slice A0_1 l0_1.length c0_1]] w fun e w' => ∃ v1_ : Value, e = .returned (.agg #[.int .i64 r1, v1_]) ∧ Kd.R k45 45 w' w.heap.size (fun _ => True) v1_ r2 ∧ Below w.heap.size w w' := by
  unfold spec_l01Flipped.f at h
  split at h
  · rename_i hl
    obtain ⟨rfl, rfl⟩ := Prod.mk.inj (Option.some.inj h)
    refine (l01Flipped_any a0_0 A0_1 (l0_1.map toT) _ c0_1 w (by simp) (rt_of_C hr0_1) (by simpa [lim6] using hl)).mono ?_
    rintro e w' ⟨g, ln, c', rfl, hln, hO, hB⟩
    exact ⟨_, rfl, R_of_OW hO hln, hB⟩
  · cases h
def spec_l01Mirrored.f (a0_0 : Int) (l0_1 : List STile) : Option (Int × List STile) := if lim6 l0_1.length = true then some (a0_0, (sortT ((l0_1.map toT).map (sidesT 2 1 0 3))).map toS) else none
theorem spec_l01Mirrored.calls (a0_0 : Int) (A0_1 : Option Addr) (c0_1 : Nat) (l0_1 : List STile) (r1 : Int) (r2 : List STile) (w : World) (hr0_1 : Kd.C k45 w A0_1 l0_1.length l0_1) (hc0_1 : l0_1.length ≤ c0_1) (h : spec_l01Mirrored.f a0_0 l0_1 = some (r1, r2)) :
    Calls Try.prog 67 #[.agg #[.int .i64 a0_0, .slice A0_1 l0_1.length c0_1]] w fun e w' => ∃ v1_ : Value, e = .returned (.agg #[.int .i64 r1, v1_]) ∧ Kd.R k45 45 w' w.heap.size (fun _ => True) v1_ r2 ∧ Below w.heap.size w w' := by
  unfold spec_l01Mirrored.f at h
  split at h
  · rename_i hl
    obtain ⟨rfl, rfl⟩ := Prod.mk.inj (Option.some.inj h)
    refine (l01Mirrored_any a0_0 A0_1 (l0_1.map toT) _ c0_1 w (by simp) (rt_of_C hr0_1) (by simpa [lim6] using hl)).mono ?_
    rintro e w' ⟨g, ln, c', rfl, hln, hO, hB⟩
    exact ⟨_, rfl, R_of_OW hO hln, hB⟩
  · cases h
def spec_l01Turned.f (a0_0 : Int) (l0_1 : List STile) : Option (Int × List STile) := if lim6 l0_1.length = true then some (a0_0, (sortT ((l0_1.map toT).map (sidesT 3 0 1 2))).map toS) else none
theorem spec_l01Turned.calls (a0_0 : Int) (A0_1 : Option Addr) (c0_1 : Nat) (l0_1 : List STile) (r1 : Int) (r2 : List STile) (w : World) (hr0_1 : Kd.C k45 w A0_1 l0_1.length l0_1) (hc0_1 : l0_1.length ≤ c0_1) (h : spec_l01Turned.f a0_0 l0_1 = some (r1, r2)) :
    Calls Try.prog 61 #[.agg #[.int .i64 a0_0, .slice A0_1 l0_1.length c0_1]] w fun e w' => ∃ v1_ : Value, e = .returned (.agg #[.int .i64 r1, v1_]) ∧ Kd.R k45 45 w' w.heap.size (fun _ => True) v1_ r2 ∧ Below w.heap.size w w' := by
  unfold spec_l01Turned.f at h
  split at h
  · rename_i hl
    obtain ⟨rfl, rfl⟩ := Prod.mk.inj (Option.some.inj h)
    refine (l01Turned_any a0_0 A0_1 (l0_1.map toT) _ c0_1 w (by simp) (rt_of_C hr0_1) (by simpa [lim6] using hl)).mono ?_
    rintro e w' ⟨g, ln, c', rfl, hln, hO, hB⟩
    exact ⟨_, rfl, R_of_OW hO hln, hB⟩
  · cases h
def spec_l01Transposed.f (a0_0 : Int) (l0_1 : List STile) : Option (Int × List STile) := if lim6 l0_1.length = true then some (a0_0, (sortT ((l0_1.map toT).map (sidesT 1 0 3 2))).map toS) else none
theorem spec_l01Transposed.calls (a0_0 : Int) (A0_1 : Option Addr) (c0_1 : Nat) (l0_1 : List STile) (r1 : Int) (r2 : List STile) (w : World) (hr0_1 : Kd.C k45 w A0_1 l0_1.length l0_1) (hc0_1 : l0_1.length ≤ c0_1) (h : spec_l01Transposed.f a0_0 l0_1 = some (r1, r2)) :
    Calls Try.prog 69 #[.agg #[.int .i64 a0_0, .slice A0_1 l0_1.length c0_1]] w fun e w' => ∃ v1_ : Value, e = .returned (.agg #[.int .i64 r1, v1_]) ∧ Kd.R k45 45 w' w.heap.size (fun _ => True) v1_ r2 ∧ Below w.heap.size w w' := by
  unfold spec_l01Transposed.f at h
  split at h
  · rename_i hl
    obtain ⟨rfl, rfl⟩ := Prod.mk.inj (Option.some.inj h)
    refine (l01Transposed_any a0_0 A0_1 (l0_1.map toT) _ c0_1 w (by simp) (rt_of_C hr0_1) (by simpa [lim6] using hl)).mono ?_
    rintro e w' ⟨g, ln, c', rfl, hln, hO, hB⟩
    exact ⟨_, rfl, R_of_OW hO hln, hB⟩
  · cases h
def impl_Tile_sides.f (a0_0 a0_1 a0_2 a0_3 a1 a2 a3 a4 : Int) : Option (Int × Int × Int × Int) :=
  if a1 = 0 ∧ a2 = 3 ∧ a3 = 2 ∧ a4 = 1 then some (a0_0, a0_3, a0_2, a0_1) else if a1 = 2 ∧ a2 = 1 ∧ a3 = 0 ∧ a4 = 3 then some (a0_2, a0_1, a0_0, a0_3) else
  if a1 = 3 ∧ a2 = 0 ∧ a3 = 1 ∧ a4 = 2 then some (a0_3, a0_0, a0_1, a0_2) else if a1 = 1 ∧ a2 = 0 ∧ a3 = 3 ∧ a4 = 2 then some (a0_1, a0_0, a0_3, a0_2) else none
theorem impl_Tile_sides.calls (a0_0 a0_1 a0_2 a0_3 a1 a2 a3 a4 : Int) (r1 r2 r3 r4 : Int) (w : World) (h : impl_Tile_sides.f a0_0 a0_1 a0_2 a0_3 a1 a2 a3 a4 = some (r1, r2, r3, r4)) :
    Calls Try.prog 66 #[.agg #[.int .i64 a0_0, .int .i64 a0_1, .int .i64 a0_2, .int .i64 a0_3], .int .i64 a1, .int .i64 a2, .int .i64 a3, .int .i64 a4] w fun e w' => e = .returned (.agg #[.int .i64 r1, .int .i64 r2, .int .i64 r3, .int .i64 r4]) ∧ Below w.heap.size w w' := by
  unfold impl_Tile_sides.f at h
  split at h
  · rename_i hq
    obtain ⟨rfl, rfl, rfl, rfl⟩ := hq
    simp only [Option.some.injEq, Prod.mk.injEq] at h
    obtain ⟨rfl, rfl, rfl, rfl⟩ := h
    exact sides_any a0_0 a0_1 a0_2 a0_3 _ _ _ _ 0 3 2 1 w (by decide) (by decide) (by decide) (by decide) rfl rfl rfl rfl
  · skip
    split at h
    · rename_i hq
      obtain ⟨rfl, rfl, rfl, rfl⟩ := hq
      simp only [Option.some.injEq, Prod.mk.injEq] at h
      obtain ⟨rfl, rfl, rfl, rfl⟩ := h
      exact sides_any a0_0 a0_1 a0_2 a0_3 _ _ _ _ 2 1 0 3 w (by decide) (by decide) (by decide) (by decide) rfl rfl rfl rfl
    · skip
      split at h
      · rename_i hq
        obtain ⟨rfl, rfl, rfl, rfl⟩ := hq
        simp only [Option.some.injEq, Prod.mk.injEq] at h
        obtain ⟨rfl, rfl, rfl, rfl⟩ := h
        exact sides_any a0_0 a0_1 a0_2 a0_3 _ _ _ _ 3 0 1 2 w (by decide) (by decide) (by decide) (by decide) rfl rfl rfl rfl
      · skip
        split at h
        · rename_i hq
          obtain ⟨rfl, rfl, rfl, rfl⟩ := hq
          simp only [Option.some.injEq, Prod.mk.injEq] at h
          obtain ⟨rfl, rfl, rfl, rfl⟩ := h
          exact sides_any a0_0 a0_1 a0_2 a0_3 _ _ _ _ 1 0 3 2 w (by decide) (by decide) (by decide) (by decide) rfl rfl rfl rfl
        · cases h
def impl_limited.f (a0 : Int) (l1 : List STile) : Option (Int × List STile × Int) := if lim6 l1.length = true then some ((limR a0 (l1.map toT)).1.1, (limR a0 (l1.map toT)).1.2.map toS, (limR a0 (l1.map toT)).2) else none
theorem impl_limited.calls (a0 : Int) (A1 : Option Addr) (c1 : Nat) (l1 : List STile) (r1 : Int) (r2 : List STile) (r3 : Int) (w : World) (hr1 : Kd.C k45 w A1 l1.length l1) (hc1 : l1.length ≤ c1) (h : impl_limited.f a0 l1 = some (r1, r2, r3)) :
    Calls Try.prog 57 #[.int .i64 a0, .slice A1 l1.length c1] w fun e w' => ∃ v1_ : Value, e = .returned (.tuple #[.agg #[.int .i64 r1, v1_], .int .i64 r3]) ∧ Kd.R k45 45 w' w.heap.size (fun _ => True) v1_ r2 ∧ Below w.heap.size w w' := by
  unfold impl_limited.f at h
  split at h
  · rename_i hl
    simp only [Option.some.injEq, Prod.mk.injEq] at h
    obtain ⟨rfl, rfl, rfl⟩ := h
    refine (limited_any a0 A1 (l1.map toT) _ c1 w (by simp) (rt_of_C hr1) (by simpa [lim6] using hl)).mono ?_
    rintro e w' ⟨v, xc, xs, code, hR, rfl, hO, hB⟩
    rw [hR]
    exact ⟨_, rfl, R_of_OW hO rfl, hB⟩
  · cases h
def spec_l01Has.f (a0_0 : Int) (l0_1 : List STile) (a1_0 a1_1 a1_2 a1_3 : Int) : Option Bool := if inLim l0_1.length = true then some (hasT (l0_1.map toT) ⟨a1_0, a1_1, a1_2, a1_3⟩) else none
theorem spec_l01Has.calls (a0_0 : Int) (A0_1 : Option Addr) (c0_1 : Nat) (l0_1 : List STile) (a1_0 a1_1 a1_2 a1_3 : Int) (r : Bool) (w : World) (hr0_1 : Kd.C k45 w A0_1 l0_1.length l0_1) (hc0_1 : l0_1.length ≤ c0_1) (h : spec_l01Has.f a0_0 l0_1 a1_0 a1_1 a1_2 a1_3 = some r) :
    Calls Try.prog 76 #[.agg #[.int .i64 a0_0, .slice A0_1 l0_1.length c0_1], .agg #[.int .i64 a1_0, .int .i64 a1_1, .int .i64 a1_2, .int .i64 a1_3]] w fun e w' => e = .returned (.bool r) ∧ Below w.heap.size w w' := by
  unfold spec_l01Has.f at h
  split at h
  · rename_i hl
    obtain rfl := Option.some.inj h
    exact l01Has_any a0_0 A0_1 (l0_1.map toT) _ c0_1 ⟨a1_0, a1_1, a1_2, a1_3⟩ w (by simp) (rt_of_C hr0_1) (by simpa [inLim] using hl)
  · cases h
def slices_Contains_impl_Tile_impl_Tile.f (l0 : List STile) (a1_0 a1_1 a1_2 a1_3 : Int) : Option Bool := if inLim l0.length = true then some (hasT (l0.map toT) ⟨a1_0, a1_1, a1_2, a1_3⟩) else none
theorem slices_Contains_impl_Tile_impl_Tile.calls (A0 : Option Addr) (c0 : Nat) (l0 : List STile) (a1_0 a1_1 a1_2 a1_3 : Int) (r : Bool) (w : World) (hr0 : Kd.C k45 w A0 l0.length l0) (hc0 : l0.length ≤ c0) (h : slices_Contains_impl_Tile_impl_Tile.f l0 a1_0 a1_1 a1_2 a1_3 = some r) :
    Calls Try.prog 79 #[.slice A0 l0.length c0, .agg #[.int .i64 a1_0, .int .i64 a1_1, .int .i64 a1_2, .int .i64 a1_3]] w fun e w' => e = .returned (.bool r) ∧ Below w.heap.size w w' := by
  unfold slices_Contains_impl_Tile_impl_Tile.f at h
  split at h
  · rename_i hl
    obtain rfl := Option.some.inj h
    exact ContainsT_any A0 (l0.map toT) _ c0 ⟨a1_0, a1_1, a1_2, a1_3⟩ w (by simp) (rt_of_C hr0) (by simpa [inLim] using hl)
  · cases h
theorem CloneNil_any (c : Nat) (w : World) : Calls Try.prog 72 #[.slice none 0 c] w fun e w' => e = .returned (.slice none 0 0) ∧ Below w.heap.size w w' := by
  have hEQ := fun w => Lib.run_eql_slice_nil (P := Try.prog) w 24 45 none 0 c 0 0 Try.underlying24
  simp only [Option.isNone_none] at hEQ
  go_enter Try.func72, Try.ntmps72
  go_wp2_with fail
  go_ret
  exact ⟨rfl, Below.refl _ _⟩
def slices_Clone_impl_Tile_impl_Tile.f (l0 : List STile) : Option (List STile) := if lim6 l0.length = true then some l0 else none
theorem slices_Clone_impl_Tile_impl_Tile.calls (A0 : Option Addr) (c0 : Nat) (l0 : List STile) (r : List STile) (w : World) (hr0 : Kd.C k45 w A0 l0.length l0) (hc0 : l0.length ≤ c0) (h : slices_Clone_impl_Tile_impl_Tile.f l0 = some r) :
    Calls Try.prog 72 #[.slice A0 l0.length c0] w fun e w' => ∃ v, e = .returned v ∧ Kd.R k45 45 w' w.heap.size (fun _ => True) v r ∧ Below w.heap.size w w' := by
  unfold slices_Clone_impl_Tile_impl_Tile.f at h
  split at h
  · rename_i hl
    obtain rfl := Option.some.inj h
    cases A0 with
    | none =>
      have hn : l0.length = 0 := by
        rcases Nat.eq_zero_or_pos l0.length with h0 | h0
        · exact h0
        · obtain ⟨ad, e, -⟩ := hr0.2.2 h0
          cases e
      obtain rfl := List.eq_nil_of_length_eq_zero hn
      refine (CloneNil_any c0 w).mono ?_
      rintro e w' ⟨rfl, hB⟩
      exact ⟨_, rfl, Kd.R_nil _ _ _ _ _, hB⟩
    | some ad =>
      refine (CloneT_any ad (l0.map toT) _ c0 w (by simp) (rt_of_C hr0) (by simpa [lim6] using hl)).mono ?_
      rintro e w' ⟨g, c', rfl, hO, hB⟩
      have := R_of_OT hO
      rw [map_toST] at this
      exact ⟨_, rfl, this, hB⟩
  · cases h
end Go.Proofs.Ytnjmgmdpkogocaa.Q

/-
  Plain: sets whose tiles are laid in another way.
-/
namespace Go.Proofs.Ytnjmgmdpkogocaa
open Go Go.RowKit Go.Proofs Go.Proofs.YtnjmgmdpkogocaaW.PrintWords Go.Proofs.YtnjmgmdpkogocaaW.PrintMore Go.Proofs.Ytnjmgmdpkogocaa.Q
set_option linter.unusedVariables false
set_option linter.unusedSimpArgs false

theorem wrap_succ (m : Nat) (h : m < 1000000000) : wrap64 ((m : Int) + 1) = ((m + 1 : Nat) : Int) := by unfold wrap64; omega
theorem rdT_get (l : List STile) (i : Nat) (h : i < l.length) : rd_T45 l (i : Int) = l[i] := by simp [rd_T45, List.getD, List.getElem?_eq_getElem h]
theorem sortT_len (ts : List T4) : (sortT ts).length ≤ ts.length := sortK_len ts ts.length
theorem isS_lens {C : Int} {ts : List T4} (h : isS C ts = true) : 1 ≤ C ∧ C ≤ 6 ∧ ts.length ≤ 16 := by
  simp only [isS, Bool.and_eq_true, inB, decide_eq_true_eq] at h
  omega
/-- a set's tiles laid in another way -/
def wayR (p : T4 → T4) (C : Int) (ts : List T4) : (Int × List T4) × Int := if isS C ts = true then ((C, sortT (ts.map p)), 0) else ((0, []), 1)
/-- a result in the form of the printed ones -/
def flat (r : (Int × List T4) × Int) : Int × List STile × Int := (r.1.1, r.1.2.map toS, r.2)
theorem limR_in {C : Int} {ts : List T4} (hC : C ≤ 6) (h : ts.length ≤ 16) : limR C ts = ((C, sortT ts), 0) := by
  have := sortT_len ts
  unfold limR
  rw [if_pos (by simp; omega)]
theorem limited_f (C : Int) (l : List STile) (h : l.length ≤ 1000000) : impl_limited.f C l = some (flat (limR C (l.map toT))) := by
  unfold impl_limited.f flat
  rw [if_pos (by simpa [lim6] using h)]
theorem wayR_len (p : T4 → T4) (C : Int) (ts : List T4) : (wayR p C ts).1.2.length ≤ 1048576 := by
  unfold wayR
  split
  · rename_i h
    have h1 := isS_lens h
    have h2 := sortT_len (ts.map p)
    rw [List.length_map] at h2
    show (sortT (ts.map p)).length ≤ _
    omega
  · simp
end Go.Proofs.Ytnjmgmdpkogocaa

/-
  Plain: sets made by the reference, within the limits or not.
-/
namespace Go.Proofs.Ytnjmgmdpkogocaa
open Go Go.RowKit Go.Proofs Go.Proofs.YtnjmgmdpkogocaaW.PrintWords Go.Proofs.YtnjmgmdpkogocaaW.PrintMore Go.Proofs.Ytnjmgmdpkogocaa.Q
set_option linter.unusedVariables false
set_option linter.unusedSimpArgs false

theorem told_f (C : Int) (us : List T4) : spec_l01Told.f C (us.map toS) = some (flat (if (decide (C ≤ 6) && decide (us.length ≤ 16)) = true then ((C, us), 0) else ((0, []), 3))) := by
  unfold spec_l01Told.f flat
  rw [List.length_map]
  by_cases h1 : C ≤ 6
  · rw [if_neg (show ¬ C > 6 by omega)]
    by_cases h2 : us.length ≤ 16
    · rw [if_neg (show ¬ (us.length : Int) > 16 by omega), if_pos (by simp [h1, h2])]
    · rw [if_pos (show (us.length : Int) > 16 by omega), if_neg (by simp [h2])]; rfl
  · rw [if_pos (show C > 6 by omega), if_neg (by simp [h1])]; rfl
theorem specMade_f (C : Int) (l : List STile) (h : l.length ≤ 1000000) : spec_l01Made.f C l = some (C, (sortT (l.map toT)).map toS) := by
  unfold spec_l01Made.f
  rw [if_pos (by simpa [lim6] using h)]
end Go.Proofs.Ytnjmgmdpkogocaa

-- Printed by a program of this session (the kit's print, turned: printpatch.py) out of Lean's print of the translation. Lean checks it.
namespace Go.Proofs.Ytnjmgmdpkogocaa.Q
open Go.RowKit Go.Proofs.YtnjmgmdpkogocaaW.PrintWords Go.Proofs.YtnjmgmdpkogocaaW.PrintLast Go.Proofs.YtnjmgmdpkogocaaW.PrintMore
attribute [local go_sem] max2_int min2_int max_two min_two max_three min_three max_four min_four   -- for this text's walks alone
set_option linter.unusedVariables false
set_option linter.unusedSimpArgs false

/-! ### spec_l01Renamed: function 81 -/
def spec_l01Renamed.l0 : Nat → List Int → List (S45) → Int → Int → List (S45) → Option (Int × (List (S45)))
 | 0, _, _, _, _, _ => none
 | k + 1, x1, x5, x6, x464000, x464001 => if x6 < (x464001.length : Int) then (if 0 ≤ x6 then (if 0 ≤ ((rd_T45 x464001 x6).f0) then (if ((rd_T45 x464001 x6).f0) < (x1.length : Int) then (if 0 ≤ ((rd_T45 x464001 x6).f1) then (if ((rd_T45 x464001 x6).f1) < (x1.length : Int) then (if 0 ≤ ((rd_T45 x464001 x6).f2) then (if ((rd_T45 x464001 x6).f2) < (x1.length : Int) then (if 0 ≤ ((rd_T45 x464001 x6).f3) then (if ((rd_T45 x464001 x6).f3) < (x1.length : Int) then (if x5.length < 4398046511104 then (spec_l01Renamed.l0 k x1 (x5 ++ [(⟨rd x1 ((rd_T45 x464001 x6).f0), rd x1 ((rd_T45 x464001 x6).f1), rd x1 ((rd_T45 x464001 x6).f2), rd x1 ((rd_T45 x464001 x6).f3)⟩ : S45)]) (wrap64 (x6 + 1)) x464000 x464001) else (none)) else (none)) else (none)) else (none)) else (none)) else (none)) else (none)) else (none)) else (none)) else (none)) else ((spec_l01Made.f x464000 x5).bind fun bt477 => (some (bt477.1, bt477.2)))
def spec_l01Renamed.f (k : Nat) (a0_0 : Int) (l0_1 : List (S45)) (l1 : List Int) : Option (Int × (List (S45))) := spec_l01Renamed.l0 k l1 (([] : List (S45))) 0 a0_0 l0_1
theorem spec_l01Renamed.mono_l : ∀ k, (∀ y0 y1 y2 y3 y4, LeO (spec_l01Renamed.l0 k y0 y1 y2 y3 y4) (spec_l01Renamed.l0 (k + 1) y0 y1 y2 y3 y4))
 | 0 => fun _ _ _ _ _ r h => by simp [spec_l01Renamed.l0] at h
 | k + 1 => by
  have ih0 := spec_l01Renamed.mono_l k
  ·intro y0 y1 y2 y3 y4
   unfold spec_l01Renamed.l0
   repeat' first
   | (with_reducible exact ih0 _ _ _ _ _)
   | (with_reducible exact LeO.refl _)
   | (with_reducible exact LeO.none _)
   | (with_reducible refine LeO.ite ?_ ?_)
   | (with_reducible refine LeO.bind ?_ (fun _ => ?_))
   | exact ih0 _ _ _ _ _
   | exact LeO.none _
   | refine LeO.ite ?_ ?_
   | refine LeO.bind ?_ (fun _ => ?_)
theorem spec_l01Renamed.mono : ∀ a0 a1 a2 k, LeO (spec_l01Renamed.f k a0 a1 a2) (spec_l01Renamed.f (k + 1) a0 a1 a2) := by
 intro a0 a1 a2 k
 have ih0 := spec_l01Renamed.mono_l k
 unfold spec_l01Renamed.f
 repeat' first
   | (with_reducible exact ih0 _ _ _ _ _)
   | (with_reducible exact LeO.refl _)
   | (with_reducible exact LeO.none _)
   | (with_reducible refine LeO.ite ?_ ?_)
   | (with_reducible refine LeO.bind ?_ (fun _ => ?_))
   | exact ih0 _ _ _ _ _
   | exact LeO.none _
   | refine LeO.ite ?_ ?_
   | refine LeO.bind ?_ (fun _ => ?_)
def spec_l01Renamed.T6 : Bool × List (List Nat × List Nat) := (true, [([], []), ([], []), ([], []), ([2], [2]), ([1, 3], [1, 3]), ([4], [4]), ([], []), ([], []), ([7], [7]), ([6, 8], [6, 8]), ([9], [9]), ([], []), ([], []), ([12], [12]), ([11, 13], [11, 13]), ([14], [14]), ([], []), ([], []), ([17], [17]), ([16, 18], [16, 18]), ([19], [19]), ([5, 10, 15, 20], [5, 10, 15, 20]), ([21], [21]), ([0, 22], [0, 22]), ([23, 23, 0, 1, 2, 3, 4, 5, 6, 7, 8, 9, 10, 11, 12, 13, 14, 15, 16, 17, 18, 19, 20, 21, 22, 23], [0, 23])])
def spec_l01Renamed.B6 : List Nat := [0, 0, 0, 4, 14, 30, 0, 0, 128, 448, 960, 0, 0, 4096, 14336, 30720, 0, 0, 131072, 458752, 983040, 2097150, 4194302, 8388607, 16777215]
theorem spec_l01Renamed.tab6 : rtab .any (opsOf Try.f81 6) = spec_l01Renamed.T6 := by kernel_rfl
theorem spec_l01Renamed.bits6 : waitsOk spec_l01Renamed.T6.2 spec_l01Renamed.B6 = true := by kernel_rfl
set_option maxHeartbeats 8000000 in
set_option maxRecDepth 100000 in
theorem spec_l01Renamed.calls (k : Nat) (a0_0 : Int) (A0_1 : Option Addr) (c0_1 : Nat) (l0_1 : List (S45)) (A1 : Option Addr) (c1 : Nat) (l1 : List Int) (r1 : Int) (r2 : List (S45)) (w : World) (hr0_1 : Kd.C k45 w A0_1 l0_1.length l0_1) (hc0_1 : l0_1.length ≤ c0_1) (hr1 : Kd.C (Kd.int .i64) w A1 l1.length l1) (hc1 : l1.length ≤ c1) (h : spec_l01Renamed.f k a0_0 l0_1 l1 = some (r1, r2)) :
  Calls Try.prog 81 #[.agg #[.int .i64 a0_0, .slice A0_1 l0_1.length c0_1], .slice A1 l1.length c1] w fun e w' => ∃ v1_ : Value, e = .returned (.agg #[.int .i64 r1, v1_]) ∧ Kd.R k45 45 w' w.heap.size (fun _ => True) v1_ r2 ∧ Below w.heap.size w w' := by
 have hu26 := Try.underlying26
 have hu45 := Try.underlying45
 have HR0_1 := Aside0.mk hr0_1
 have HC0_1 := Aside0.mk hc0_1
 clear hr0_1 hc0_1
 have HR1 := Aside0.mk hr1
 have HC1 := Aside0.mk hc1
 clear hr1 hc1
 have HB := Aside0.mk (Below.refl w.heap.size w)
 have H : (spec_l01Renamed.l0 k l1 (([] : List (S45))) 0 a0_0 l0_1) = some (r1, r2) := h
 clear h
 obtain ⟨y465, hy465⟩ : ∃ y_ : List (S45), y_ = (([] : List (S45))) := ⟨_, rfl⟩
 replace H : (spec_l01Renamed.l0 k l1 y465 0 a0_0 l0_1) = some (r1, r2) := by first | (rw [hy465]; with_reducible exact H) | (have H2_ := (Option.bind_some _ _).symm.trans H; rw [hy465]; with_reducible exact H2_) | (have H2_ := (Option.bind_some _ _).symm.trans H; with_reducible exact H2_) | with_reducible exact H | (rw [hy465]; exact H) | exact H
 have Ny465 := Aside0.mk hy465
 clear hy465
 have H' := Aside0.mk H
 clear H
 go_enter Try.func81, Try.ntmps81
 go_wp2_with (first | ((with_reducible refine gate_dst (N := 2) rfl ?_); refine box_event ?hg (N := 2) ?hd (cs := #[.int .i64 a0_0, .slice A0_1 l0_1.length c0_1]) (t := 26) ?hr ?_; (case hd => rfl); (case hg => rfl); (case hr => first | (go_simp; done) | (go_simp; rfl)); intro gb463 hg w3 hbox hb; have n0_ := Aside0.mk (below_step (by repeat (first | (with_reducible first | exact HB.out | apply below_alloc | apply pw_below_drewN | apply below_drew1) | exact HB.out)) hb); have n1_ := Aside0.mk (hbox); have n2_ := Aside0.mk ((by rw [hg]; exact (below_size (by repeat (first | (with_reducible first | exact HB.out | apply below_alloc | apply pw_below_drewN | apply below_drew1) | exact HB.out))) : w.heap.size ≤ gb463)); have n3_ := Aside0.mk ((by rw [hg]; exact (below_size (by repeat (first | (with_reducible first | exact HB.out | apply below_alloc | apply pw_below_drewN | apply below_drew1) | exact HB.out))) : w.heap.size ≤ gb463)); clear HB; have HB := n0_; have BK463 := n1_; have GW463 := n2_; have GE463 := n3_; clear n0_ n1_ n2_ n3_; clear hb hbox hg) | ((with_reducible refine gate_dst (N := 4) rfl ?_); refine box_event ?hg (N := 4) ?hd (cs := #[.int .i64 0, .slice none 0 0]) (t := 26) ?hr ?_; (case hd => rfl); (case hg => rfl); (case hr => first | (go_simp; done) | (go_simp; rfl)); intro gb464 hg w4 hbox hb; have n0_ := Aside0.mk (blk_below (g := gb463) (o := .cells #[.int .i64 a0_0, .slice A0_1 l0_1.length c0_1] 26 (0, 0)) (by (with_reducible repeat (first | refine blk_drewN ?_ _ | refine blk_drew ?_ | refine blk_alloc ?_ _)); exact BK463.out) hb); have n1_ := Aside0.mk (below_step (by repeat (first | (with_reducible first | exact HB.out | apply below_alloc | apply pw_below_drewN | apply below_drew1 | refine below_set ?_ GE463.out) | exact HB.out)) hb); have n2_ := Aside0.mk (hbox); have n3_ := Aside0.mk ((by rw [hg]; exact (below_size (by repeat (first | (with_reducible first | exact HB.out | apply below_alloc | apply pw_below_drewN | apply below_drew1 | refine below_set ?_ GE463.out) | exact HB.out))) : w.heap.size ≤ gb464)); have n4_ := Aside0.mk ((by rw [hg]; exact (below_size (by repeat (first | (with_reducible first | exact HB.out | apply below_alloc | apply pw_below_drewN | apply below_drew1 | refine below_set ?_ GE463.out) | exact HB.out))) : w.heap.size ≤ gb464)); have n5_ := Aside0.mk ((by rw [hg]; exact Nat.ne_of_lt (blk_lt (g := gb463) (o := .cells #[.int .i64 a0_0, .slice A0_1 l0_1.length c0_1] 26 (0, 0)) (by (with_reducible repeat (first | refine blk_drewN ?_ _ | refine blk_drew ?_ | refine blk_alloc ?_ _)); exact BK463.out)) : gb463 ≠ gb464)); have n6_ := Aside0.mk ((by rw [hg]; exact Nat.ne_of_gt (blk_lt (g := gb463) (o := .cells #[.int .i64 a0_0, .slice A0_1 l0_1.length c0_1] 26 (0, 0)) (by (with_reducible repeat (first | refine blk_drewN ?_ _ | refine blk_drew ?_ | refine blk_alloc ?_ _)); exact BK463.out)) : gb464 ≠ gb463)); clear BK463; clear HB; have BK463 := n0_; have HB := n1_; have BK464 := n2_; have GW464 := n3_; have GE464 := n4_; have NB463_464 := n5_; have NB464_463 := n6_; clear n0_ n1_ n2_ n3_ n4_ n5_ n6_; clear hb hbox hg) | ((with_reducible refine gate_dst (N := 8) rfl ?_); refine Kd.R_lit k45 _ 45 ?hg (N := 8) ?hd (xs := ([] : List (S45))) (inner := []) (ok := fun _ => True) (okp := fun _ => True) ?hr ?hp (fun _ hk => hk) trivial (Below.refl _ _) (Nat.le_refl _) (by simp) ?_; (case hd => rfl); (case hg => rfl); (case hr => first | (go_simp; done) | (go_simp; rfl)); (case hp => exact (Reps.none _ _)); intro v466 w5 ho6 hb hg_ hnew_; clear hg_ hnew_; (first | rw [← Ny465.out] at ho6 | (simp only [Int.reduceToNat] at ho6; rw [← Ny465.out] at ho6)); have n0_ := Aside0.mk (Kd.R_lower ho6 (below_size (by repeat (first | (with_reducible first | exact HB.out | apply below_alloc | apply pw_below_drewN | apply below_drew1 | refine below_set ?_ GE463.out | refine below_set ?_ GE464.out) | exact HB.out)))); have n1_ := Aside0.mk (blk_below (g := gb463) (o := .cells #[.int .i64 a0_0, .slice A0_1 l0_1.length c0_1] 26 (0, 0)) (by (with_reducible repeat (first | refine blk_drewN ?_ _ | refine blk_drew ?_ | refine blk_alloc ?_ _)); exact BK463.out) hb); have n2_ := Aside0.mk (blk_below (g := gb464) (o := .cells #[.int .i64 0, .slice none 0 0] 26 (0, 0)) (by (with_reducible repeat (first | refine blk_drewN ?_ _ | refine blk_drew ?_ | refine blk_alloc ?_ _)); exact BK464.out) hb); have n3_ := Aside0.mk (below_step (by repeat (first | (with_reducible first | exact HB.out | apply below_alloc | apply pw_below_drewN | apply below_drew1 | refine below_set ?_ GE463.out | refine below_set ?_ GE464.out) | exact HB.out)) hb); clear BK463; clear BK464; clear HB; have HO467 := n0_; have BK463 := n1_; have BK464 := n2_; have HB := n3_; clear n0_ n1_ n2_ n3_; clear hb ho6))
 go_loopg [5, 6] k (fun kq v5 v6 w' => ∃ (x5_1 : List (S45)) (x6_1 : Int), v6 = .int .i64 x6_1 ∧ Aside0 (spec_l01Renamed.l0 kq l1 x5_1 x6_1 a0_0 l0_1 = some (r1, r2)) ∧ Aside0 (kq ≤ k) ∧ Aside0 (Kd.R k45 45 w' w.heap.size (fun _ => True) v5 x5_1) ∧ Aside0 (w'.heap[gb463]? = some (.cells #[.int .i64 a0_0, (.slice A0_1 l0_1.length c0_1)] 26 (0, 0))) ∧ Aside0 (w'.heap[gb464]? = some (.cells #[.int .i64 0, (.slice none 0 0)] 26 (0, 0))) ∧ Aside0 (Below w.heap.size w w'))
 case atStart => exact ⟨(y465), (0), (by first | rfl | (simp; done) | (simp [*]; done)), H', ⟨Nat.le_refl _⟩, ⟨by (with_reducible repeat (first | apply Kd.R_alloc | apply Kd.R_drewN | apply Kd.R_drew)); exact HO467.out⟩, ⟨by (with_reducible repeat (first | refine blk_drewN ?_ _ | refine blk_drew ?_ | refine blk_alloc ?_ _)); exact BK463.out⟩, ⟨by (with_reducible repeat (first | refine blk_drewN ?_ _ | refine blk_drew ?_ | refine blk_alloc ?_ _)); exact BK464.out⟩, ⟨by repeat (first | (with_reducible first | exact HB.out | apply below_alloc | apply pw_below_drewN | apply below_drew1 | refine below_set ?_ GE463.out | refine below_set ?_ GE464.out) | exact HB.out)⟩⟩
 case round =>
  clear H'
  try clear c1
  try clear p2
  obtain ⟨x5_1, x6_1, rfl, HA, HK1, HO_5, BK463, BK464, HB⟩ := hrel
  cases gk with
  | zero => exact absurd HA.out (by simp [spec_l01Renamed.l0])
  | succ k1 =>
   have H := HA.out
   clear HA
   simp only [spec_l01Renamed.l0] at H
   by_cases c7 : x6_1 < (l0_1.length : Int)
   ·rw [if_pos c7] at H
    have c7b0 : decide (x6_1 < (l0_1.length : Int)) = true := decide_eq_true c7
    clear c7
    by_cases c8 : 0 ≤ x6_1
    ·rw [if_pos c8] at H
     have c8b0 : decide (0 ≤ x6_1) = true := decide_eq_true c8
     clear c8
     by_cases c9 : 0 ≤ ((rd_T45 l0_1 x6_1).f0)
     ·rw [if_pos c9] at H
      have c9b0 : decide (0 ≤ ((rd_T45 l0_1 x6_1).f0)) = true := decide_eq_true c9
      clear c9
      by_cases c10 : ((rd_T45 l0_1 x6_1).f0) < (l1.length : Int)
      ·rw [if_pos c10] at H
       have c10b0 : decide (((rd_T45 l0_1 x6_1).f0) < (l1.length : Int)) = true := decide_eq_true c10
       clear c10
       by_cases c11 : 0 ≤ ((rd_T45 l0_1 x6_1).f1)
       ·rw [if_pos c11] at H
        have c11b0 : decide (0 ≤ ((rd_T45 l0_1 x6_1).f1)) = true := decide_eq_true c11
        clear c11
        by_cases c12 : ((rd_T45 l0_1 x6_1).f1) < (l1.length : Int)
        ·rw [if_pos c12] at H
         have c12b0 : decide (((rd_T45 l0_1 x6_1).f1) < (l1.length : Int)) = true := decide_eq_true c12
         clear c12
         by_cases c13 : 0 ≤ ((rd_T45 l0_1 x6_1).f2)
         ·rw [if_pos c13] at H
          have c13b0 : decide (0 ≤ ((rd_T45 l0_1 x6_1).f2)) = true := decide_eq_true c13
          clear c13
          by_cases c14 : ((rd_T45 l0_1 x6_1).f2) < (l1.length : Int)
          ·rw [if_pos c14] at H
           have c14b0 : decide (((rd_T45 l0_1 x6_1).f2) < (l1.length : Int)) = true := decide_eq_true c14
           clear c14
           by_cases c15 : 0 ≤ ((rd_T45 l0_1 x6_1).f3)
           ·rw [if_pos c15] at H
            have c15b0 : decide (0 ≤ ((rd_T45 l0_1 x6_1).f3)) = true := decide_eq_true c15
            clear c15
            by_cases c16 : ((rd_T45 l0_1 x6_1).f3) < (l1.length : Int)
            ·rw [if_pos c16] at H
             have c16b0 : decide (((rd_T45 l0_1 x6_1).f3) < (l1.length : Int)) = true := decide_eq_true c16
             clear c16
             by_cases c17 : x5_1.length < 4398046511104
             ·rw [if_pos c17] at H
              have LMc17 := Aside0.mk c17
              clear c17
              obtain ⟨y474, hy474⟩ : ∃ y_ : List (S45), y_ = (x5_1 ++ [(⟨rd l1 ((rd_T45 l0_1 x6_1).f0), rd l1 ((rd_T45 l0_1 x6_1).f1), rd l1 ((rd_T45 l0_1 x6_1).f2), rd l1 ((rd_T45 l0_1 x6_1).f3)⟩ : S45)]) := ⟨_, rfl⟩
              replace H : (spec_l01Renamed.l0 k1 l1 y474 (wrap64 (x6_1 + 1)) a0_0 l0_1) = some (r1, r2) := by first | (rw [hy474]; with_reducible exact H) | (have H2_ := (Option.bind_some _ _).symm.trans H; rw [hy474]; with_reducible exact H2_) | (have H2_ := (Option.bind_some _ _).symm.trans H; with_reducible exact H2_) | with_reducible exact H | (rw [hy474]; exact H) | exact H
              have Ny474 := Aside0.mk hy474
              clear hy474
              have H' := Aside0.mk H
              clear H
              have hnb18 := NB463_464.out
              have hnc18 := NB464_463.out
              have hcz19_0 : wr.cell? ⟨gb463, 0, none⟩ = some (.int .i64 a0_0) := (blk_cell BK463.out 0).trans rfl
              have hcz19_1 : wr.cell? ⟨gb463, 1, none⟩ = some (.slice A0_1 l0_1.length c0_1) := (blk_cell BK463.out 1).trans rfl
              have hfz19_0 := blk_frozen BK463.out 0
              have hfz19_1 := blk_frozen BK463.out 1
              have p468 : 0 ≤ (x6_1 : Int) := of_decide_eq_true (by first | (with_reducible assumption) | assumption)
              have q468 : x6_1 < (l0_1.length : Int) := of_decide_eq_true (by first | (with_reducible assumption) | assumption)
              obtain ⟨ad468, e468, hx468_0, hx468_1, hx468_2, hx468_3⟩ := at_T45 HR0_1.out x6_1 p468 q468
              cases e468
              replace hx468_0 := (HB.out.cell (World.block_lt_of_cell? w _ hx468_0)).trans hx468_0
              replace hx468_1 := (HB.out.cell (World.block_lt_of_cell? w _ hx468_1)).trans hx468_1
              replace hx468_2 := (HB.out.cell (World.block_lt_of_cell? w _ hx468_2)).trans hx468_2
              replace hx468_3 := (HB.out.cell (World.block_lt_of_cell? w _ hx468_3)).trans hx468_3
              replace p468 := eq_true p468
              replace q468 := eq_true q468
              try go_wp2_with (first | ((with_reducible refine gate_dst (N := 7) rfl ?_); refine box_event ?hg (N := 7) ?hd (cs := #[.int .i64 0, .int .i64 0, .int .i64 0, .int .i64 0]) (t := 45) ?hr ?_; (case hd => rfl); (case hg => rfl); (case hr => first | (go_simp; done) | (go_simp; rfl)); intro gb469 hg w20 hbox hb; have n0_ := Aside0.mk (Kd.R_below (Kd.R_elderB (by (with_reducible repeat (first | apply Kd.R_alloc | apply Kd.R_drewN | apply Kd.R_drew)); exact HO_5.out) gb469 (Nat.le_of_eq hg.symm)) hb); have n1_ := Aside0.mk (blk_below (g := gb463) (o := .cells #[.int .i64 a0_0, .slice (some ad468) l0_1.length c0_1] 26 (0, 0)) (by (with_reducible repeat (first | refine blk_drewN ?_ _ | refine blk_drew ?_ | refine blk_alloc ?_ _)); exact BK463.out) hb); have n2_ := Aside0.mk (blk_below (g := gb464) (o := .cells #[.int .i64 0, .slice none 0 0] 26 (0, 0)) (by (with_reducible repeat (first | refine blk_drewN ?_ _ | refine blk_drew ?_ | refine blk_alloc ?_ _)); exact BK464.out) hb); have n3_ := Aside0.mk (below_step (by repeat (first | (with_reducible first | exact HB.out | apply below_alloc | apply pw_below_drewN | apply below_drew1 | refine below_set ?_ GE463.out | refine below_set ?_ GE464.out) | exact HB.out)) hb); have n4_ := Aside0.mk (hbox); have n5_ := Aside0.mk ((by rw [hg]; exact (below_size (by repeat (first | (with_reducible first | exact HB.out | apply below_alloc | apply pw_below_drewN | apply below_drew1 | refine below_set ?_ GE463.out | refine below_set ?_ GE464.out) | exact HB.out))) : w.heap.size ≤ gb469)); have n6_ := Aside0.mk ((by rw [hg]; exact (below_size (by repeat (first | (with_reducible first | exact HB.out | apply below_alloc | apply pw_below_drewN | apply below_drew1 | refine below_set ?_ GE463.out | refine below_set ?_ GE464.out) | exact HB.out))) : w.heap.size ≤ gb469)); have n7_ := Aside0.mk ((by rw [hg]; exact Nat.ne_of_lt (blk_lt (g := gb463) (o := .cells #[.int .i64 a0_0, .slice (some ad468) l0_1.length c0_1] 26 (0, 0)) (by (with_reducible repeat (first | refine blk_drewN ?_ _ | refine blk_drew ?_ | refine blk_alloc ?_ _)); exact BK463.out)) : gb463 ≠ gb469)); have n8_ := Aside0.mk ((by rw [hg]; exact Nat.ne_of_gt (blk_lt (g := gb463) (o := .cells #[.int .i64 a0_0, .slice (some ad468) l0_1.length c0_1] 26 (0, 0)) (by (with_reducible repeat (first | refine blk_drewN ?_ _ | refine blk_drew ?_ | refine blk_alloc ?_ _)); exact BK463.out)) : gb469 ≠ gb463)); have n9_ := Aside0.mk ((by rw [hg]; exact Nat.ne_of_lt (blk_lt (g := gb464) (o := .cells #[.int .i64 0, .slice none 0 0] 26 (0, 0)) (by (with_reducible repeat (first | refine blk_drewN ?_ _ | refine blk_drew ?_ | refine blk_alloc ?_ _)); exact BK464.out)) : gb464 ≠ gb469)); have n10_ := Aside0.mk ((by rw [hg]; exact Nat.ne_of_gt (blk_lt (g := gb464) (o := .cells #[.int .i64 0, .slice none 0 0] 26 (0, 0)) (by (with_reducible repeat (first | refine blk_drewN ?_ _ | refine blk_drew ?_ | refine blk_alloc ?_ _)); exact BK464.out)) : gb469 ≠ gb464)); clear HO_5; clear BK463; clear BK464; clear HB; have HO_5 := n0_; have BK463 := n1_; have BK464 := n2_; have HB := n3_; have BK469 := n4_; have GW469 := n5_; have GE469 := n6_; have NB463_469 := n7_; have NB469_463 := n8_; have NB464_469 := n9_; have NB469_464 := n10_; clear n0_ n1_ n2_ n3_ n4_ n5_ n6_ n7_ n8_ n9_ n10_; clear hb hbox hg; have hnb21 := NB469_463.out; have hnc21 := NB463_469.out; have hnb22 := NB469_464.out; have hnc22 := NB464_469.out; have hcz23_0 : w20.cell? ⟨gb469, 0, none⟩ = some (.int .i64 0) := (blk_cell BK469.out 0).trans rfl; have hcz23_1 : w20.cell? ⟨gb469, 1, none⟩ = some (.int .i64 0) := (blk_cell BK469.out 1).trans rfl; have hcz23_2 : w20.cell? ⟨gb469, 2, none⟩ = some (.int .i64 0) := (blk_cell BK469.out 2).trans rfl; have hcz23_3 : w20.cell? ⟨gb469, 3, none⟩ = some (.int .i64 0) := (blk_cell BK469.out 3).trans rfl; have hfz23_0 := blk_frozen BK469.out 0; have hfz23_1 := blk_frozen BK469.out 1; have hfz23_2 := blk_frozen BK469.out 2; have hfz23_3 := blk_frozen BK469.out 3))
              have n0_ : Aside0 (Kd.R k45 45 ((((w20.setCell ⟨gb469, 0, none⟩ (.int .i64 ((rd_T45 l0_1 x6_1).f0))).setCell ⟨gb469, 1, none⟩ (.int .i64 ((rd_T45 l0_1 x6_1).f1))).setCell ⟨gb469, 2, none⟩ (.int .i64 ((rd_T45 l0_1 x6_1).f2))).setCell ⟨gb469, 3, none⟩ (.int .i64 ((rd_T45 l0_1 x6_1).f3))) w.heap.size (fun k_ => k_ ≠ gb469) u5 x5_1) := ⟨by (with_reducible repeat (first | apply Kd.R_alloc | apply Kd.R_drewN | apply Kd.R_drew)); exact Kd.R_mono (Kd.R_far (p := ⟨gb469, 3, none⟩) (Kd.R_far (p := ⟨gb469, 2, none⟩) (Kd.R_far (p := ⟨gb469, 1, none⟩) (Kd.R_far (p := ⟨gb469, 0, none⟩) (Kd.R_mono HO_5.out (fun k_ hk => (⟨hk, hk.2⟩ : _ ∧ k_ ≠ gb469))) (fun _ hk => hk.2) (.int .i64 ((rd_T45 l0_1 x6_1).f0))) (fun _ hk => hk.2) (.int .i64 ((rd_T45 l0_1 x6_1).f1))) (fun _ hk => hk.2) (.int .i64 ((rd_T45 l0_1 x6_1).f2))) (fun _ hk => hk.2) (.int .i64 ((rd_T45 l0_1 x6_1).f3))) (fun _ hk => hk.1.2)⟩
              have n1_ : Aside0 (((((w20.setCell ⟨gb469, 0, none⟩ (.int .i64 ((rd_T45 l0_1 x6_1).f0))).setCell ⟨gb469, 1, none⟩ (.int .i64 ((rd_T45 l0_1 x6_1).f1))).setCell ⟨gb469, 2, none⟩ (.int .i64 ((rd_T45 l0_1 x6_1).f2))).setCell ⟨gb469, 3, none⟩ (.int .i64 ((rd_T45 l0_1 x6_1).f3))).heap[gb463]? = some (.cells #[.int .i64 a0_0, .slice (some ad468) l0_1.length c0_1] 26 (0, 0))) := ⟨by (with_reducible repeat (first | refine blk_drewN ?_ _ | refine blk_drew ?_ | refine blk_alloc ?_ _)); refine blk_far ?_ NB463_469.out _; (with_reducible repeat (first | refine blk_drewN ?_ _ | refine blk_drew ?_ | refine blk_alloc ?_ _)); refine blk_far ?_ NB463_469.out _; (with_reducible repeat (first | refine blk_drewN ?_ _ | refine blk_drew ?_ | refine blk_alloc ?_ _)); refine blk_far ?_ NB463_469.out _; (with_reducible repeat (first | refine blk_drewN ?_ _ | refine blk_drew ?_ | refine blk_alloc ?_ _)); refine blk_far ?_ NB463_469.out _; (with_reducible repeat (first | refine blk_drewN ?_ _ | refine blk_drew ?_ | refine blk_alloc ?_ _)); exact BK463.out⟩
              have n2_ : Aside0 (((((w20.setCell ⟨gb469, 0, none⟩ (.int .i64 ((rd_T45 l0_1 x6_1).f0))).setCell ⟨gb469, 1, none⟩ (.int .i64 ((rd_T45 l0_1 x6_1).f1))).setCell ⟨gb469, 2, none⟩ (.int .i64 ((rd_T45 l0_1 x6_1).f2))).setCell ⟨gb469, 3, none⟩ (.int .i64 ((rd_T45 l0_1 x6_1).f3))).heap[gb464]? = some (.cells #[.int .i64 0, .slice none 0 0] 26 (0, 0))) := ⟨by (with_reducible repeat (first | refine blk_drewN ?_ _ | refine blk_drew ?_ | refine blk_alloc ?_ _)); refine blk_far ?_ NB464_469.out _; (with_reducible repeat (first | refine blk_drewN ?_ _ | refine blk_drew ?_ | refine blk_alloc ?_ _)); refine blk_far ?_ NB464_469.out _; (with_reducible repeat (first | refine blk_drewN ?_ _ | refine blk_drew ?_ | refine blk_alloc ?_ _)); refine blk_far ?_ NB464_469.out _; (with_reducible repeat (first | refine blk_drewN ?_ _ | refine blk_drew ?_ | refine blk_alloc ?_ _)); refine blk_far ?_ NB464_469.out _; (with_reducible repeat (first | refine blk_drewN ?_ _ | refine blk_drew ?_ | refine blk_alloc ?_ _)); exact BK464.out⟩
              have n3_ : Aside0 (((((w20.setCell ⟨gb469, 0, none⟩ (.int .i64 ((rd_T45 l0_1 x6_1).f0))).setCell ⟨gb469, 1, none⟩ (.int .i64 ((rd_T45 l0_1 x6_1).f1))).setCell ⟨gb469, 2, none⟩ (.int .i64 ((rd_T45 l0_1 x6_1).f2))).setCell ⟨gb469, 3, none⟩ (.int .i64 ((rd_T45 l0_1 x6_1).f3))).heap[gb469]? = some (.cells #[.int .i64 ((rd_T45 l0_1 x6_1).f0), .int .i64 ((rd_T45 l0_1 x6_1).f1), .int .i64 ((rd_T45 l0_1 x6_1).f2), .int .i64 ((rd_T45 l0_1 x6_1).f3)] 45 (0, 0))) := ⟨by (with_reducible repeat (first | refine blk_drewN ?_ _ | refine blk_drew ?_ | refine blk_alloc ?_ _)); refine blk_put (cs := #[.int .i64 ((rd_T45 l0_1 x6_1).f0), .int .i64 ((rd_T45 l0_1 x6_1).f1), .int .i64 ((rd_T45 l0_1 x6_1).f2), .int .i64 0]) ?_ 3 _ rfl; (with_reducible repeat (first | refine blk_drewN ?_ _ | refine blk_drew ?_ | refine blk_alloc ?_ _)); refine blk_put (cs := #[.int .i64 ((rd_T45 l0_1 x6_1).f0), .int .i64 ((rd_T45 l0_1 x6_1).f1), .int .i64 0, .int .i64 0]) ?_ 2 _ rfl; (with_reducible repeat (first | refine blk_drewN ?_ _ | refine blk_drew ?_ | refine blk_alloc ?_ _)); refine blk_put (cs := #[.int .i64 ((rd_T45 l0_1 x6_1).f0), .int .i64 0, .int .i64 0, .int .i64 0]) ?_ 1 _ rfl; (with_reducible repeat (first | refine blk_drewN ?_ _ | refine blk_drew ?_ | refine blk_alloc ?_ _)); refine blk_put (cs := #[.int .i64 0, .int .i64 0, .int .i64 0, .int .i64 0]) ?_ 0 _ rfl; (with_reducible repeat (first | refine blk_drewN ?_ _ | refine blk_drew ?_ | refine blk_alloc ?_ _)); exact BK469.out⟩
              have n4_ : Aside0 (Below w.heap.size w ((((w20.setCell ⟨gb469, 0, none⟩ (.int .i64 ((rd_T45 l0_1 x6_1).f0))).setCell ⟨gb469, 1, none⟩ (.int .i64 ((rd_T45 l0_1 x6_1).f1))).setCell ⟨gb469, 2, none⟩ (.int .i64 ((rd_T45 l0_1 x6_1).f2))).setCell ⟨gb469, 3, none⟩ (.int .i64 ((rd_T45 l0_1 x6_1).f3)))) := ⟨by repeat (first | (with_reducible first | exact HB.out | apply below_alloc | apply pw_below_drewN | apply below_drew1 | refine below_set ?_ GE463.out | refine below_set ?_ GE464.out | refine below_set ?_ GE469.out) | exact HB.out)⟩
              (try clear HO_5)
              (try clear BK463)
              (try clear BK464)
              (try clear BK469)
              (try clear HB)
              generalize ((((w20.setCell ⟨gb469, 0, none⟩ (.int .i64 ((rd_T45 l0_1 x6_1).f0))).setCell ⟨gb469, 1, none⟩ (.int .i64 ((rd_T45 l0_1 x6_1).f1))).setCell ⟨gb469, 2, none⟩ (.int .i64 ((rd_T45 l0_1 x6_1).f2))).setCell ⟨gb469, 3, none⟩ (.int .i64 ((rd_T45 l0_1 x6_1).f3))) = w24 at n0_ n1_ n2_ n3_ n4_ ⊢
              have HO_5 := n0_
              have BK463 := n1_
              have BK464 := n2_
              have BK469 := n3_
              have HB := n4_
              clear n0_ n1_ n2_ n3_ n4_
              have n0_ := Aside0.mk (Kd.R_drew HO_5.out)
              have n1_ := Aside0.mk (blk_drew BK463.out)
              have n2_ := Aside0.mk (blk_drew BK464.out)
              have n3_ := Aside0.mk (blk_drew BK469.out)
              have n4_ := Aside0.mk (below_drew1 HB.out)
              clear HO_5
              clear BK463
              clear BK464
              clear BK469
              clear HB
              have HO_5 := n0_
              have BK463 := n1_
              have BK464 := n2_
              have BK469 := n3_
              have HB := n4_
              clear n0_ n1_ n2_ n3_ n4_
              have p470 : 0 ≤ (((rd_T45 l0_1 x6_1).f0) : Int) := of_decide_eq_true (by first | (with_reducible assumption) | assumption)
              have q470 : ((rd_T45 l0_1 x6_1).f0) < (l1.length : Int) := of_decide_eq_true (by first | (with_reducible assumption) | assumption)
              obtain ⟨ad470, e470, hx470_0⟩ := Kd.at_int HR1.out ((rd_T45 l0_1 x6_1).f0) p470 q470
              have hw470_0 := hx470_0
              cases e470
              replace hx470_0 := (HB.out.cell (World.block_lt_of_cell? w _ hx470_0)).trans hx470_0
              replace p470 := eq_true p470
              replace q470 := eq_true q470
              have p471 : 0 ≤ (((rd_T45 l0_1 x6_1).f1) : Int) := of_decide_eq_true (by first | (with_reducible assumption) | assumption)
              have q471 : ((rd_T45 l0_1 x6_1).f1) < (l1.length : Int) := of_decide_eq_true (by first | (with_reducible assumption) | assumption)
              obtain ⟨ad471, e471, hx471_0⟩ := Kd.at_int HR1.out ((rd_T45 l0_1 x6_1).f1) p471 q471
              have hw471_0 := hx471_0
              obtain rfl : ad470 = ad471 := (by injection e471)
              replace hx471_0 := (HB.out.cell (World.block_lt_of_cell? w _ hx471_0)).trans hx471_0
              replace p471 := eq_true p471
              replace q471 := eq_true q471
              have p472 : 0 ≤ (((rd_T45 l0_1 x6_1).f2) : Int) := of_decide_eq_true (by first | (with_reducible assumption) | assumption)
              have q472 : ((rd_T45 l0_1 x6_1).f2) < (l1.length : Int) := of_decide_eq_true (by first | (with_reducible assumption) | assumption)
              obtain ⟨ad472, e472, hx472_0⟩ := Kd.at_int HR1.out ((rd_T45 l0_1 x6_1).f2) p472 q472
              have hw472_0 := hx472_0
              obtain rfl : ad470 = ad472 := (by injection e472)
              replace hx472_0 := (HB.out.cell (World.block_lt_of_cell? w _ hx472_0)).trans hx472_0
              replace p472 := eq_true p472
              replace q472 := eq_true q472
              have p473 : 0 ≤ (((rd_T45 l0_1 x6_1).f3) : Int) := of_decide_eq_true (by first | (with_reducible assumption) | assumption)
              have q473 : ((rd_T45 l0_1 x6_1).f3) < (l1.length : Int) := of_decide_eq_true (by first | (with_reducible assumption) | assumption)
              obtain ⟨ad473, e473, hx473_0⟩ := Kd.at_int HR1.out ((rd_T45 l0_1 x6_1).f3) p473 q473
              have hw473_0 := hx473_0
              obtain rfl : ad470 = ad473 := (by injection e473)
              replace hx473_0 := (HB.out.cell (World.block_lt_of_cell? w _ hx473_0)).trans hx473_0
              replace p473 := eq_true p473
              replace q473 := eq_true q473
              refine start_ (n := 25) (S := fun w' => w'.cell? ⟨gb469, 0, none⟩ = some (.int .i64 ((rd_T45 l0_1 x6_1).f0)) ∧ w'.cell? ⟨gb469, 1, none⟩ = some (.int .i64 ((rd_T45 l0_1 x6_1).f1)) ∧ w'.cell? ⟨gb469, 2, none⟩ = some (.int .i64 ((rd_T45 l0_1 x6_1).f2)) ∧ w'.cell? ⟨gb469, 3, none⟩ = some (.int .i64 ((rd_T45 l0_1 x6_1).f3)) ∧ w'.cell? (ad470.add (((rd_T45 l0_1 x6_1).f0)).toNat) = some (.int .i64 (rd l1 ((rd_T45 l0_1 x6_1).f0))) ∧ w'.cell? (ad470.add (((rd_T45 l0_1 x6_1).f1)).toNat) = some (.int .i64 (rd l1 ((rd_T45 l0_1 x6_1).f1))) ∧ w'.cell? (ad470.add (((rd_T45 l0_1 x6_1).f2)).toNat) = some (.int .i64 (rd l1 ((rd_T45 l0_1 x6_1).f2))) ∧ w'.cell? (ad470.add (((rd_T45 l0_1 x6_1).f3)).toNat) = some (.int .i64 (rd l1 ((rd_T45 l0_1 x6_1).f3)))) (ds := []) #[false, false, false, false, false, false, false, false, false, false, false, false, false, false, false, false, false, false, false, false, false, false, false, false, false] (by kernel_rfl) rfl rfl ⟨(blk_cell BK469.out 0).trans rfl, (blk_cell BK469.out 1).trans rfl, (blk_cell BK469.out 2).trans rfl, (blk_cell BK469.out 3).trans rfl, ((HB.out.cell (World.block_lt_of_cell? w _ hw470_0)).trans hw470_0), ((HB.out.cell (World.block_lt_of_cell? w _ hw471_0)).trans hw471_0), ((HB.out.cell (World.block_lt_of_cell? w _ hw472_0)).trans hw472_0), ((HB.out.cell (World.block_lt_of_cell? w _ hw473_0)).trans hw473_0)⟩ (fun hHeld => ?_); refine with_tabW spec_l01Renamed.tab6 spec_l01Renamed.bits6 (fun HT_ HW_ => ?_)
              generalize w24.drew = w25 at HO_5 BK463 BK464 BK469 HB hx470_0 hx471_0 hx472_0 hx473_0 hHeld ⊢
              refine pure_ (i := 0) (N := some 21) (v := ?_) (a' := ?_) #[true, false, false, false, false, false, false, false, false, false, false, false, false, false, false, false, false, false, false, false, false, false, false, false, false] rfl rfl (any_of HT_.out (by kernel_rfl)) (fun _ _ _ h => h) (Or.inl ⟨by rfl, ?_⟩) ?_ ?_
              rotate_left
              ·intro w'
               go_simp
               with_reducible rfl
              rotate_left
              ·simp only [Act.put, List.setIfInBounds_toArray, List.set_cons_zero, List.set_cons_succ, i64_w, i32_w]
               rfl
              refine pure_ (i := 1) (N := some 22) (v := ?_) (a' := ?_) #[true, true, false, false, false, false, false, false, false, false, false, false, false, false, false, false, false, false, false, false, false, false, false, false, false] rfl rfl (any_of HT_.out (by kernel_rfl)) (fun _ _ _ h => h) (Or.inl ⟨by rfl, ?_⟩) ?_ ?_
              rotate_left
              ·intro w'
               go_simp
               with_reducible rfl
              rotate_left
              ·simp only [Act.put, List.setIfInBounds_toArray, List.set_cons_zero, List.set_cons_succ, i64_w, i32_w]
               rfl
              refine pure_ (i := 2) (N := some 23) (v := ?_) (a' := ?_) #[true, true, true, false, false, false, false, false, false, false, false, false, false, false, false, false, false, false, false, false, false, false, false, false, false] rfl rfl (any_of HT_.out (by kernel_rfl)) (fun _ _ _ h => h) (Or.inl ⟨by rfl, ?_⟩) ?_ ?_
              rotate_left
              ·intro w'
               go_simp
               with_reducible rfl
              rotate_left
              ·simp only [Act.put, List.setIfInBounds_toArray, List.set_cons_zero, List.set_cons_succ, i64_w, i32_w]
               rfl
              refine pure_ (i := 6) (N := some 27) (v := ?_) (a' := ?_) #[true, true, true, false, false, false, true, false, false, false, false, false, false, false, false, false, false, false, false, false, false, false, false, false, false] rfl rfl (any_of HT_.out (by kernel_rfl)) (fun _ _ _ h => h) (Or.inl ⟨by rfl, ?_⟩) ?_ ?_
              rotate_left
              ·intro w'
               go_simp
               with_reducible rfl
              rotate_left
              ·simp only [Act.put, List.setIfInBounds_toArray, List.set_cons_zero, List.set_cons_succ, i64_w, i32_w]
               rfl
              refine pure_ (i := 7) (N := some 28) (v := ?_) (a' := ?_) #[true, true, true, false, false, false, true, true, false, false, false, false, false, false, false, false, false, false, false, false, false, false, false, false, false] rfl rfl (any_of HT_.out (by kernel_rfl)) (fun _ _ _ h => h) (Or.inl ⟨by rfl, ?_⟩) ?_ ?_
              rotate_left
              ·intro w'
               go_simp
               with_reducible rfl
              rotate_left
              ·simp only [Act.put, List.setIfInBounds_toArray, List.set_cons_zero, List.set_cons_succ, i64_w, i32_w]
               rfl
              refine pure_ (i := 11) (N := some 32) (v := ?_) (a' := ?_) #[true, true, true, false, false, false, true, true, false, false, false, true, false, false, false, false, false, false, false, false, false, false, false, false, false] rfl rfl (any_of HT_.out (by kernel_rfl)) (fun _ _ _ h => h) (Or.inl ⟨by rfl, ?_⟩) ?_ ?_
              rotate_left
              ·intro w'
               go_simp
               with_reducible rfl
              rotate_left
              ·simp only [Act.put, List.setIfInBounds_toArray, List.set_cons_zero, List.set_cons_succ, i64_w, i32_w]
               rfl
              refine pure_ (i := 12) (N := some 33) (v := ?_) (a' := ?_) #[true, true, true, false, false, false, true, true, false, false, false, true, true, false, false, false, false, false, false, false, false, false, false, false, false] rfl rfl (any_of HT_.out (by kernel_rfl)) (fun _ _ _ h => h) (Or.inl ⟨by rfl, ?_⟩) ?_ ?_
              rotate_left
              ·intro w'
               go_simp
               with_reducible rfl
              rotate_left
              ·simp only [Act.put, List.setIfInBounds_toArray, List.set_cons_zero, List.set_cons_succ, i64_w, i32_w]
               rfl
              refine pure_ (i := 16) (N := some 37) (v := ?_) (a' := ?_) #[true, true, true, false, false, false, true, true, false, false, false, true, true, false, false, false, true, false, false, false, false, false, false, false, false] rfl rfl (any_of HT_.out (by kernel_rfl)) (fun _ _ _ h => h) (Or.inl ⟨by rfl, ?_⟩) ?_ ?_
              rotate_left
              ·intro w'
               go_simp
               with_reducible rfl
              rotate_left
              ·simp only [Act.put, List.setIfInBounds_toArray, List.set_cons_zero, List.set_cons_succ, i64_w, i32_w]
               rfl
              refine pure_ (i := 17) (N := some 38) (v := ?_) (a' := ?_) #[true, true, true, false, false, false, true, true, false, false, false, true, true, false, false, false, true, true, false, false, false, false, false, false, false] rfl rfl (any_of HT_.out (by kernel_rfl)) (fun _ _ _ h => h) (Or.inl ⟨by rfl, ?_⟩) ?_ ?_
              rotate_left
              ·intro w'
               go_simp
               with_reducible rfl
              rotate_left
              ·simp only [Act.put, List.setIfInBounds_toArray, List.set_cons_zero, List.set_cons_succ, i64_w, i32_w]
               rfl
              refine take_ (i := 3) (N := some 24) (v := ?_) (a' := ?_) #[true, true, true, true, false, false, true, true, false, false, false, true, true, false, false, false, true, true, false, false, false, false, false, false, false] rfl rfl (take_ofW HT_.out HW_.out (by kernel_rfl)) (fun _ _ _ h => h) (Or.inl ⟨by rfl, ?_⟩) hHeld ?_ ?_
              rotate_left
              ·rintro w' ⟨s0, s1, s2, s3, s4, s5, s6, s7⟩
               go_simp
               with_reducible rfl
              rotate_left
              ·simp only [Act.put, List.setIfInBounds_toArray, List.set_cons_zero, List.set_cons_succ, i64_w, i32_w]
               rfl
              refine pure_ (i := 4) (N := some 25) (v := ?_) (a' := ?_) #[true, true, true, true, true, false, true, true, false, false, false, true, true, false, false, false, true, true, false, false, false, false, false, false, false] rfl rfl (any_of HT_.out (by kernel_rfl)) (fun _ _ _ h => h) (Or.inl ⟨by rfl, ?_⟩) ?_ ?_
              rotate_left
              ·intro w'
               go_simp
               with_reducible rfl
              rotate_left
              ·simp only [Act.put, List.setIfInBounds_toArray, List.set_cons_zero, List.set_cons_succ, i64_w, i32_w]
               rfl
              refine take_ (i := 5) (N := some 26) (v := ?_) (a' := ?_) #[true, true, true, true, true, true, true, true, false, false, false, true, true, false, false, false, true, true, false, false, false, false, false, false, false] rfl rfl (take_ofW HT_.out HW_.out (by kernel_rfl)) (fun _ _ _ h => h) (Or.inl ⟨by rfl, ?_⟩) hHeld ?_ ?_
              rotate_left
              ·rintro w' ⟨s0, s1, s2, s3, s4, s5, s6, s7⟩
               go_simp
               with_reducible rfl
              rotate_left
              ·simp only [Act.put, List.setIfInBounds_toArray, List.set_cons_zero, List.set_cons_succ, i64_w, i32_w]
               rfl
              refine take_ (i := 8) (N := some 29) (v := ?_) (a' := ?_) #[true, true, true, true, true, true, true, true, true, false, false, true, true, false, false, false, true, true, false, false, false, false, false, false, false] rfl rfl (take_ofW HT_.out HW_.out (by kernel_rfl)) (fun _ _ _ h => h) (Or.inl ⟨by rfl, ?_⟩) hHeld ?_ ?_
              rotate_left
              ·rintro w' ⟨s0, s1, s2, s3, s4, s5, s6, s7⟩
               go_simp
               with_reducible rfl
              rotate_left
              ·simp only [Act.put, List.setIfInBounds_toArray, List.set_cons_zero, List.set_cons_succ, i64_w, i32_w]
               rfl
              refine pure_ (i := 9) (N := some 30) (v := ?_) (a' := ?_) #[true, true, true, true, true, true, true, true, true, true, false, true, true, false, false, false, true, true, false, false, false, false, false, false, false] rfl rfl (any_of HT_.out (by kernel_rfl)) (fun _ _ _ h => h) (Or.inl ⟨by rfl, ?_⟩) ?_ ?_
              rotate_left
              ·intro w'
               go_simp
               with_reducible rfl
              rotate_left
              ·simp only [Act.put, List.setIfInBounds_toArray, List.set_cons_zero, List.set_cons_succ, i64_w, i32_w]
               rfl
              refine take_ (i := 10) (N := some 31) (v := ?_) (a' := ?_) #[true, true, true, true, true, true, true, true, true, true, true, true, true, false, false, false, true, true, false, false, false, false, false, false, false] rfl rfl (take_ofW HT_.out HW_.out (by kernel_rfl)) (fun _ _ _ h => h) (Or.inl ⟨by rfl, ?_⟩) hHeld ?_ ?_
              rotate_left
              ·rintro w' ⟨s0, s1, s2, s3, s4, s5, s6, s7⟩
               go_simp
               with_reducible rfl
              rotate_left
              ·simp only [Act.put, List.setIfInBounds_toArray, List.set_cons_zero, List.set_cons_succ, i64_w, i32_w]
               rfl
              refine take_ (i := 13) (N := some 34) (v := ?_) (a' := ?_) #[true, true, true, true, true, true, true, true, true, true, true, true, true, true, false, false, true, true, false, false, false, false, false, false, false] rfl rfl (take_ofW HT_.out HW_.out (by kernel_rfl)) (fun _ _ _ h => h) (Or.inl ⟨by rfl, ?_⟩) hHeld ?_ ?_
              rotate_left
              ·rintro w' ⟨s0, s1, s2, s3, s4, s5, s6, s7⟩
               go_simp
               with_reducible rfl
              rotate_left
              ·simp only [Act.put, List.setIfInBounds_toArray, List.set_cons_zero, List.set_cons_succ, i64_w, i32_w]
               rfl
              refine pure_ (i := 14) (N := some 35) (v := ?_) (a' := ?_) #[true, true, true, true, true, true, true, true, true, true, true, true, true, true, true, false, true, true, false, false, false, false, false, false, false] rfl rfl (any_of HT_.out (by kernel_rfl)) (fun _ _ _ h => h) (Or.inl ⟨by rfl, ?_⟩) ?_ ?_
              rotate_left
              ·intro w'
               go_simp
               with_reducible rfl
              rotate_left
              ·simp only [Act.put, List.setIfInBounds_toArray, List.set_cons_zero, List.set_cons_succ, i64_w, i32_w]
               rfl
              refine take_ (i := 15) (N := some 36) (v := ?_) (a' := ?_) #[true, true, true, true, true, true, true, true, true, true, true, true, true, true, true, true, true, true, false, false, false, false, false, false, false] rfl rfl (take_ofW HT_.out HW_.out (by kernel_rfl)) (fun _ _ _ h => h) (Or.inl ⟨by rfl, ?_⟩) hHeld ?_ ?_
              rotate_left
              ·rintro w' ⟨s0, s1, s2, s3, s4, s5, s6, s7⟩
               go_simp
               with_reducible rfl
              rotate_left
              ·simp only [Act.put, List.setIfInBounds_toArray, List.set_cons_zero, List.set_cons_succ, i64_w, i32_w]
               rfl
              refine take_ (i := 18) (N := some 39) (v := ?_) (a' := ?_) #[true, true, true, true, true, true, true, true, true, true, true, true, true, true, true, true, true, true, true, false, false, false, false, false, false] rfl rfl (take_ofW HT_.out HW_.out (by kernel_rfl)) (fun _ _ _ h => h) (Or.inl ⟨by rfl, ?_⟩) hHeld ?_ ?_
              rotate_left
              ·rintro w' ⟨s0, s1, s2, s3, s4, s5, s6, s7⟩
               go_simp
               with_reducible rfl
              rotate_left
              ·simp only [Act.put, List.setIfInBounds_toArray, List.set_cons_zero, List.set_cons_succ, i64_w, i32_w]
               rfl
              refine pure_ (i := 19) (N := some 40) (v := ?_) (a' := ?_) #[true, true, true, true, true, true, true, true, true, true, true, true, true, true, true, true, true, true, true, true, false, false, false, false, false] rfl rfl (any_of HT_.out (by kernel_rfl)) (fun _ _ _ h => h) (Or.inl ⟨by rfl, ?_⟩) ?_ ?_
              rotate_left
              ·intro w'
               go_simp
               with_reducible rfl
              rotate_left
              ·simp only [Act.put, List.setIfInBounds_toArray, List.set_cons_zero, List.set_cons_succ, i64_w, i32_w]
               rfl
              refine take_ (i := 20) (N := some 41) (v := ?_) (a' := ?_) #[true, true, true, true, true, true, true, true, true, true, true, true, true, true, true, true, true, true, true, true, true, false, false, false, false] rfl rfl (take_ofW HT_.out HW_.out (by kernel_rfl)) (fun _ _ _ h => h) (Or.inl ⟨by rfl, ?_⟩) hHeld ?_ ?_
              rotate_left
              ·rintro w' ⟨s0, s1, s2, s3, s4, s5, s6, s7⟩
               go_simp
               with_reducible rfl
              rotate_left
              ·simp only [Act.put, List.setIfInBounds_toArray, List.set_cons_zero, List.set_cons_succ, i64_w, i32_w]
               rfl
              refine pure_ (i := 21) (N := some 42) (v := ?_) (a' := ?_) #[true, true, true, true, true, true, true, true, true, true, true, true, true, true, true, true, true, true, true, true, true, true, false, false, false] rfl rfl (any_of HT_.out (by kernel_rfl)) (fun _ _ _ h => h) (Or.inl ⟨by rfl, ?_⟩) ?_ ?_
              rotate_left
              ·intro w'
               go_simp
               with_reducible rfl
              rotate_left
              ·simp only [Act.put, List.setIfInBounds_toArray, List.set_cons_zero, List.set_cons_succ, i64_w, i32_w]
               rfl
              refine one_ (i := 22) (N := some 43) #[true, true, true, true, true, true, true, true, true, true, true, true, true, true, true, true, true, true, true, true, true, true, true, false, false] rfl rfl (one_of HT_.out (by kernel_rfl)) (by decide) (fun K hK => ?_)
              refine value_ (w1 := ?_) (v := ?_) (by rfl) rfl ?_ ?_
              rotate_left 2
              ·go_simp
               constructor
               ·rfl
               ·rfl
              refine hK.out _ _ ⟨(blk_cell (blk_alloc BK469.out _) 0).trans rfl, (blk_cell (blk_alloc BK469.out _) 1).trans rfl, (blk_cell (blk_alloc BK469.out _) 2).trans rfl, (blk_cell (blk_alloc BK469.out _) 3).trans rfl, (World.cell?_alloc_lt _ _ _ (World.block_lt_of_cell? _ _ (((HB.out.cell (World.block_lt_of_cell? w _ hw470_0)).trans hw470_0)))).trans (((HB.out.cell (World.block_lt_of_cell? w _ hw470_0)).trans hw470_0)), (World.cell?_alloc_lt _ _ _ (World.block_lt_of_cell? _ _ (((HB.out.cell (World.block_lt_of_cell? w _ hw471_0)).trans hw471_0)))).trans (((HB.out.cell (World.block_lt_of_cell? w _ hw471_0)).trans hw471_0)), (World.cell?_alloc_lt _ _ _ (World.block_lt_of_cell? _ _ (((HB.out.cell (World.block_lt_of_cell? w _ hw472_0)).trans hw472_0)))).trans (((HB.out.cell (World.block_lt_of_cell? w _ hw472_0)).trans hw472_0)), (World.cell?_alloc_lt _ _ _ (World.block_lt_of_cell? _ _ (((HB.out.cell (World.block_lt_of_cell? w _ hw473_0)).trans hw473_0)))).trans (((HB.out.cell (World.block_lt_of_cell? w _ hw473_0)).trans hw473_0))⟩ (fun hHeld => ?_)
              clear hK K
              refine norm_ (a' := ?_) ?_ ?_
              rotate_left
              ·show Act.put _ (some 43) _ = _
               simp only [Act.put, List.setIfInBounds_toArray, List.set_cons_zero, List.set_cons_succ, i64_w, i32_w]
               rfl
              refine one_ (i := 23) (N := some 44) #[true, true, true, true, true, true, true, true, true, true, true, true, true, true, true, true, true, true, true, true, true, true, true, true, false] rfl rfl (one_of HT_.out (by kernel_rfl)) (by decide) (fun K hK => ?_)
              refine Kd.R_append_step k45 (w0 := w) w.heap.size (by rfl) (.tmp 21) (.tmp 43) 24 45 (.agg #[(.int .i64 0), (.int .i64 0), (.int .i64 0), (.int .i64 0)]) 32 rfl Try.underlying24 info45 rfl (by decide) (by omega) u5 x5_1 (⟨rd l1 ((rd_T45 l0_1 x6_1).f0), rd l1 ((rd_T45 l0_1 x6_1).f1), rd l1 ((rd_T45 l0_1 x6_1).f2), rd l1 ((rd_T45 l0_1 x6_1).f3)⟩ : S45) [.int .i64 (rd l1 ((rd_T45 l0_1 x6_1).f0)), .int .i64 (rd l1 ((rd_T45 l0_1 x6_1).f1)), .int .i64 (rd l1 ((rd_T45 l0_1 x6_1).f2)), .int .i64 (rd l1 ((rd_T45 l0_1 x6_1).f3))] (fun k_ => k_ ≠ gb469) (fun _ => False) rfl rfl ?aP (fun _ hk => hk.elim) ?aF ?aO ?aB ?aS ?aL ?_
              (case aP => exact k45_mkM _ _ _ (⟨rd l1 ((rd_T45 l0_1 x6_1).f0), rd l1 ((rd_T45 l0_1 x6_1).f1), rd l1 ((rd_T45 l0_1 x6_1).f2), rd l1 ((rd_T45 l0_1 x6_1).f3)⟩ : S45))
              (case aB => exact (by repeat (first | (with_reducible first | exact HB.out | apply below_alloc | apply pw_below_drewN | apply below_drew1 | refine below_set ?_ GE463.out | refine below_set ?_ GE464.out | refine below_set ?_ GE469.out) | exact HB.out)))
              (case aF => exact (fun k_ hk => Kd.freshB (g := gb469) (o := .cells #[.int .i64 ((rd_T45 l0_1 x6_1).f0), .int .i64 ((rd_T45 l0_1 x6_1).f1), .int .i64 ((rd_T45 l0_1 x6_1).f2), .int .i64 ((rd_T45 l0_1 x6_1).f3)] 45 (0, 0)) (by (with_reducible repeat (first | refine blk_drewN ?_ _ | refine blk_drew ?_ | refine blk_alloc ?_ _)); exact BK469.out) k_ hk))
              (case aO => exact (by (with_reducible repeat (first | apply Kd.R_alloc | apply Kd.R_drewN | apply Kd.R_drew)); exact HO_5.out))
              (case aS => exact (below_size (by repeat (first | (with_reducible first | exact HB.out | apply below_alloc | apply pw_below_drewN | apply below_drew1 | refine below_set ?_ GE463.out | refine below_set ?_ GE464.out | refine below_set ?_ GE469.out) | exact HB.out))))
              (case aL => have := LMc17.out; omega)
              intro v475 w26 ho hb hg hat
              rw [← Ny474.out] at ho
              have n0_ := Aside0.mk (blk_grown (g := gb463) (o := .cells #[.int .i64 a0_0, .slice (some ad468) l0_1.length c0_1] 26 (0, 0)) (by (with_reducible repeat (first | refine blk_drewN ?_ _ | refine blk_drew ?_ | refine blk_alloc ?_ _)); exact BK463.out) hg (Kd.R_ne HO_5.out BK463.out (by decide)))
              have n1_ := Aside0.mk (blk_grown (g := gb464) (o := .cells #[.int .i64 0, .slice none 0 0] 26 (0, 0)) (by (with_reducible repeat (first | refine blk_drewN ?_ _ | refine blk_drew ?_ | refine blk_alloc ?_ _)); exact BK464.out) hg (Kd.R_ne HO_5.out BK464.out (by decide)))
              have n2_ := Aside0.mk (blk_grown (g := gb469) (o := .cells #[.int .i64 ((rd_T45 l0_1 x6_1).f0), .int .i64 ((rd_T45 l0_1 x6_1).f1), .int .i64 ((rd_T45 l0_1 x6_1).f2), .int .i64 ((rd_T45 l0_1 x6_1).f3)] 45 (0, 0)) (by (with_reducible repeat (first | refine blk_drewN ?_ _ | refine blk_drew ?_ | refine blk_alloc ?_ _)); exact BK469.out) hg (Kd.R_away HO_5.out (fun _ hk => hk)))
              have n3_ := Aside0.mk (hb)
              have n4_ := Aside0.mk (ho)
              clear BK463
              clear BK464
              clear BK469
              clear HB
              clear HO_5
              have BK463 := n0_
              have BK464 := n1_
              have BK469 := n2_
              have HB := n3_
              have HO476 := n4_
              clear n0_ n1_ n2_ n3_ n4_
              clear ho hb hg hat
              refine hK.out _ _ ⟨(blk_cell BK469.out 0).trans rfl, (blk_cell BK469.out 1).trans rfl, (blk_cell BK469.out 2).trans rfl, (blk_cell BK469.out 3).trans rfl, ((HB.out.cell (World.block_lt_of_cell? w _ hw470_0)).trans hw470_0), ((HB.out.cell (World.block_lt_of_cell? w _ hw471_0)).trans hw471_0), ((HB.out.cell (World.block_lt_of_cell? w _ hw472_0)).trans hw472_0), ((HB.out.cell (World.block_lt_of_cell? w _ hw473_0)).trans hw473_0)⟩ (fun hHeld => ?_)
              clear hK K
              refine norm_ (a' := ?_) ?_ ?_
              rotate_left
              ·show Act.put _ (some 44) _ = _
               simp only [Act.put, List.setIfInBounds_toArray, List.set_cons_zero, List.set_cons_succ, i64_w, i32_w]
               rfl
              refine pure_ (i := 24) (N := some 5) (v := ?_) (a' := ?_) #[true, true, true, true, true, true, true, true, true, true, true, true, true, true, true, true, true, true, true, true, true, true, true, true, true] rfl rfl (any_of HT_.out (by kernel_rfl)) (fun _ _ _ h => h) (Or.inl ⟨by rfl, ?_⟩) ?_ ?_
              rotate_left
              ·intro w'
               go_simp
               with_reducible rfl
              rotate_left
              ·simp only [Act.put, List.setIfInBounds_toArray, List.set_cons_zero, List.set_cons_succ, i64_w, i32_w]
               rfl
              refine done_ (done_of HT_.out (by kernel_rfl)) ?_
              try go_wp2
              go_roundg k1
              case measure => have := HK1.out; omega
              case rel => exact ⟨(y474), (wrap64 (x6_1 + 1)), (by first | rfl | (simp; done) | (simp [*]; done)), H', ⟨by have := HK1.out; omega⟩, ⟨by (with_reducible repeat (first | apply Kd.R_alloc | apply Kd.R_drewN | apply Kd.R_drew)); exact Kd.R_mono HO476.out (fun _ hk => trivial)⟩, ⟨by (with_reducible repeat (first | refine blk_drewN ?_ _ | refine blk_drew ?_ | refine blk_alloc ?_ _)); exact BK463.out⟩, ⟨by (with_reducible repeat (first | refine blk_drewN ?_ _ | refine blk_drew ?_ | refine blk_alloc ?_ _)); exact BK464.out⟩, ⟨by repeat (first | (with_reducible first | exact HB.out | apply below_alloc | apply pw_below_drewN | apply below_drew1 | refine below_set ?_ GE463.out | refine below_set ?_ GE464.out | refine below_set ?_ GE469.out) | exact HB.out)⟩⟩
             ·rw [if_neg c17] at H
              exact absurd H (by simp)
            ·rw [if_neg c16] at H
             exact absurd H (by simp)
           ·rw [if_neg c15] at H
            exact absurd H (by simp)
          ·rw [if_neg c14] at H
           exact absurd H (by simp)
         ·rw [if_neg c13] at H
          exact absurd H (by simp)
        ·rw [if_neg c12] at H
         exact absurd H (by simp)
       ·rw [if_neg c11] at H
        exact absurd H (by simp)
      ·rw [if_neg c10] at H
       exact absurd H (by simp)
     ·rw [if_neg c9] at H
      exact absurd H (by simp)
    ·rw [if_neg c8] at H
     exact absurd H (by simp)
   ·rw [if_neg c7] at H
    have c7b0 : decide (x6_1 < (l0_1.length : Int)) = false := decide_eq_false c7
    clear c7
    replace H := Option.bind_eq_some_iff.mp H
    obtain ⟨⟨t477, t478⟩, A270, H⟩ := H
    replace H : (some (t477, t478)) = some (r1, r2) := H
    have A27 := Aside0.mk A270
    clear A270
    simp only [Option.some.injEq, Prod.mk.injEq] at H
    obtain ⟨rfl, rfl⟩ := H
    have hnb28 := NB463_464.out
    have hnc28 := NB464_463.out
    have hcz29_0 : wr.cell? ⟨gb463, 0, none⟩ = some (.int .i64 a0_0) := (blk_cell BK463.out 0).trans rfl
    have hcz29_1 : wr.cell? ⟨gb463, 1, none⟩ = some (.slice A0_1 l0_1.length c0_1) := (blk_cell BK463.out 1).trans rfl
    have hfz29_0 := blk_frozen BK463.out 0
    have hfz29_1 := blk_frozen BK463.out 1
    obtain ⟨Ao30, co30, eo30⟩ := Kd.R_slice HO_5.out
    subst eo30
    go_wp2_with (first | ((with_reducible refine gate_callee (f := 52) rfl ?_); refine goesL_ (some 48) rfl rfl Try.func52 (by kernel_rfl) rfl #[.int .i64 a0_0, .slice Ao30 x5_1.length co30] rfl (by (try simp only [List.map_toArray, List.map_cons, List.map_nil]); first | done | rfl | (simp only [List.length_drop, List.length_take]; rfl)) ?_; (with_reducible refine (spec_l01Made.calls a0_0 _ _ x5_1 t477 t478 _ ?side1 ?side2 A27.out).mono ?_); (case side1 => repeat (first | exact (Kd.R_reads' HO_5.out).2.2 | (with_reducible refine Kd.C_alloc ?_ _) | (with_reducible refine Kd.C_drewN ?_ _) | (with_reducible refine Kd.C_drew ?_))); (case side2 => exact (Kd.R_reads' HO_5.out).2.1); rintro e w31 ⟨v479, rfl, ho0, hb⟩; refine ⟨_, rfl, ?_⟩; have n0_ := Aside0.mk (Kd.R_elder' (by (with_reducible repeat (first | apply Kd.R_alloc | apply Kd.R_drewN | apply Kd.R_drew)); exact HO_5.out) (Kd.R_base ho0) hb); have n1_ := Aside0.mk (Kd.R_lower (Kd.R_new' ho0 (Kd.R_lt (by (with_reducible repeat (first | apply Kd.R_alloc | apply Kd.R_drewN | apply Kd.R_drew)); exact HO_5.out))) (below_size (by repeat (first | (with_reducible first | exact HB.out | apply below_alloc | apply pw_below_drewN | apply below_drew1 | refine below_set ?_ GE463.out | refine below_set ?_ GE464.out) | exact HB.out)))); have n2_ := Aside0.mk (blk_below (g := gb463) (o := .cells #[.int .i64 a0_0, .slice A0_1 l0_1.length c0_1] 26 (0, 0)) (by (with_reducible repeat (first | refine blk_drewN ?_ _ | refine blk_drew ?_ | refine blk_alloc ?_ _)); exact BK463.out) hb); have n3_ := Aside0.mk (blk_below (g := gb464) (o := .cells #[.int .i64 0, .slice none 0 0] 26 (0, 0)) (by (with_reducible repeat (first | refine blk_drewN ?_ _ | refine blk_drew ?_ | refine blk_alloc ?_ _)); exact BK464.out) hb); have n4_ := Aside0.mk (below_step (by repeat (first | (with_reducible first | exact HB.out | apply below_alloc | apply pw_below_drewN | apply below_drew1 | refine below_set ?_ GE463.out | refine below_set ?_ GE464.out) | exact HB.out)) hb); clear HO_5; clear BK463; clear BK464; clear HB; have HO_5 := n0_; have HO480 := n1_; have BK463 := n2_; have BK464 := n3_; have HB := n4_; clear n0_ n1_ n2_ n3_ n4_; (try clear hb); (try clear hb2); (try clear hk); (try clear hi); (try clear ho0); have hcz32_0 : w31.cell? ⟨gb464, 0, none⟩ = some (.int .i64 0) := (blk_cell BK464.out 0).trans rfl; have hcz32_1 : w31.cell? ⟨gb464, 1, none⟩ = some (.slice none 0 0) := (blk_cell BK464.out 1).trans rfl; have hfz32_0 := blk_frozen BK464.out 0; have hfz32_1 := blk_frozen BK464.out 1; obtain ⟨Ao33, co33, eo33⟩ := Kd.R_slice HO480.out; subst eo33))
    refine bodyPost_ret (results_cell_row rfl _ _ gb464 26 #[.int .i64 t477, .slice Ao33 t478.length co33] (0, 0) _ rfl (by (with_reducible repeat (first | refine blk_drewN ?_ _ | refine blk_drew ?_ | refine blk_alloc ?_ _)); refine blk_put (cs := #[.int .i64 t477, .slice none 0 0]) ?_ 1 _ rfl; (with_reducible repeat (first | refine blk_drewN ?_ _ | refine blk_drew ?_ | refine blk_alloc ?_ _)); refine blk_put (cs := #[.int .i64 0, .slice none 0 0]) ?_ 0 _ rfl; (with_reducible repeat (first | refine blk_drewN ?_ _ | refine blk_drew ?_ | refine blk_alloc ?_ _)); exact BK464.out) Try.underlying26 rfl (by kernel_rfl)) rfl ?_
    exact ⟨_, by first | rfl | (simp [errW_none, errW_some] <;> rfl) | (simp [*, errW_none, errW_some] <;> rfl), by (with_reducible repeat (first | apply Kd.R_alloc | apply Kd.R_drewN | apply Kd.R_drew)); exact Kd.R_mono (Kd.R_far (p := ⟨gb464, 1, none⟩) (Kd.R_far (p := ⟨gb464, 0, none⟩) (Kd.R_types HO480.out BK464.out (by decide)) (fun _ hk => hk.2) (.int .i64 t477)) (fun _ hk => hk.2) (.slice Ao33 t478.length co33)) (fun _ hk => trivial), by repeat (first | (with_reducible first | exact HB.out | apply below_alloc | apply pw_below_drewN | apply below_drew1 | refine below_set ?_ GE463.out | refine below_set ?_ GE464.out) | exact HB.out)⟩

end Go.Proofs.Ytnjmgmdpkogocaa.Q

-- Printed by a program of this session (the kit's print, turned: printpatch.py) out of Lean's print of the translation. Lean checks it.
namespace Go.Proofs.Ytnjmgmdpkogocaa.Q
open Go.RowKit Go.Proofs.YtnjmgmdpkogocaaW.PrintWords Go.Proofs.YtnjmgmdpkogocaaW.PrintLast Go.Proofs.YtnjmgmdpkogocaaW.PrintMore
attribute [local go_sem] max2_int min2_int max_two min_two max_three min_three max_four min_four   -- for this text's walks alone
set_option linter.unusedVariables false
set_option linter.unusedSimpArgs false

/-! ### spec_RenameColours: function 39 -/
def spec_RenameColours.f (k : Nat) (a0_0 : Int) (l0_1 : List (S45)) (l1 : List Int) : Option (Int × (List (S45)) × Int) := (spec_l01Is.f a0_0 l0_1).bind fun t483 => (if t483 = true then ((spec_l01Order.f k l1 a0_0).bind fun t484 => (if t484 = true then ((spec_l01Renamed.f k a0_0 l0_1 l1).bind fun bt485 => (some (bt485.1, bt485.2, 0))) else (some (0, ([] : List (S45)), 2)))) else (some (0, ([] : List (S45)), 1)))
theorem spec_RenameColours.mono : ∀ a0 a1 a2 k, LeO (spec_RenameColours.f k a0 a1 a2) (spec_RenameColours.f (k + 1) a0 a1 a2) := by
 intro a0 a1 a2 k
 unfold spec_RenameColours.f
 repeat' first
   | (with_reducible exact spec_l01Order.mono _ _ _)
   | (with_reducible exact spec_l01Renamed.mono _ _ _ _)
   | (with_reducible exact LeO.refl _)
   | (with_reducible exact LeO.none _)
   | (with_reducible refine LeO.ite ?_ ?_)
   | (with_reducible refine LeO.bind ?_ (fun _ => ?_))
   | exact spec_l01Order.mono _ _ _
   | exact spec_l01Renamed.mono _ _ _ _
   | exact LeO.none _
   | refine LeO.ite ?_ ?_
   | refine LeO.bind ?_ (fun _ => ?_)
set_option maxHeartbeats 8000000 in
set_option maxRecDepth 100000 in
theorem spec_RenameColours.calls (k : Nat) (a0_0 : Int) (A0_1 : Option Addr) (c0_1 : Nat) (l0_1 : List (S45)) (A1 : Option Addr) (c1 : Nat) (l1 : List Int) (r1 : Int) (r2 : List (S45)) (r3 : Int) (w : World) (hr0_1 : Kd.C k45 w A0_1 l0_1.length l0_1) (hc0_1 : l0_1.length ≤ c0_1) (hr1 : Kd.C (Kd.int .i64) w A1 l1.length l1) (hc1 : l1.length ≤ c1) (h : spec_RenameColours.f k a0_0 l0_1 l1 = some (r1, r2, r3)) :
  Calls Try.prog 39 #[.agg #[.int .i64 a0_0, .slice A0_1 l0_1.length c0_1], .slice A1 l1.length c1] w fun e w' => ∃ v1_ : Value, e = .returned (.tuple #[.agg #[.int .i64 r1, v1_], .int .i64 r3]) ∧ Kd.R k45 45 w' w.heap.size (fun _ => True) v1_ r2 ∧ Below w.heap.size w w' := by
 have hu26 := Try.underlying26
 have HR0_1 := Aside0.mk hr0_1
 have HC0_1 := Aside0.mk hc0_1
 clear hr0_1 hc0_1
 have HR1 := Aside0.mk hr1
 have HC1 := Aside0.mk hc1
 clear hr1 hc1
 have HB := Aside0.mk (Below.refl w.heap.size w)
 have H : ((spec_l01Is.f a0_0 l0_1).bind fun t483 => (if t483 = true then ((spec_l01Order.f k l1 a0_0).bind fun t484 => (if t484 = true then ((spec_l01Renamed.f k a0_0 l0_1 l1).bind fun bt485 => (some (bt485.1, bt485.2, 0))) else (some (0, ([] : List (S45)), 2)))) else (some (0, ([] : List (S45)), 1)))) = some (r1, r2, r3) := h
 clear h
 replace H := Option.bind_eq_some_iff.mp H
 obtain ⟨t483, A30, H⟩ := H
 replace H : (if t483 = true then ((spec_l01Order.f k l1 a0_0).bind fun t484 => (if t484 = true then ((spec_l01Renamed.f k a0_0 l0_1 l1).bind fun bt485 => (some (bt485.1, bt485.2, 0))) else (some (0, ([] : List (S45)), 2)))) else (some (0, ([] : List (S45)), 1))) = some (r1, r2, r3) := H
 have A3 := Aside0.mk A30
 clear A30
 by_cases c4 : t483 = true
 ·subst c4
  have H1 : ((spec_l01Order.f k l1 a0_0).bind fun t484 => (if t484 = true then ((spec_l01Renamed.f k a0_0 l0_1 l1).bind fun bt485 => (some (bt485.1, bt485.2, 0))) else (some (0, ([] : List (S45)), 2)))) = some (r1, r2, r3) := by rw [if_pos rfl] at H; exact H
  clear H
  have H := H1
  clear H1
  replace H := Option.bind_eq_some_iff.mp H
  obtain ⟨t484, A50, H⟩ := H
  replace H : (if t484 = true then ((spec_l01Renamed.f k a0_0 l0_1 l1).bind fun bt485 => (some (bt485.1, bt485.2, 0))) else (some (0, ([] : List (S45)), 2))) = some (r1, r2, r3) := H
  have A5 := Aside0.mk A50
  clear A50
  by_cases c6 : t484 = true
  ·subst c6
   have H1 : ((spec_l01Renamed.f k a0_0 l0_1 l1).bind fun bt485 => (some (bt485.1, bt485.2, 0))) = some (r1, r2, r3) := by rw [if_pos rfl] at H; exact H
   clear H
   have H := H1
   clear H1
   replace H := Option.bind_eq_some_iff.mp H
   obtain ⟨⟨t485, t486⟩, A70, H⟩ := H
   replace H : (some (t485, t486, 0)) = some (r1, r2, r3) := H
   have A7 := Aside0.mk A70
   clear A70
   simp only [Option.some.injEq, Prod.mk.injEq] at H
   obtain ⟨rfl, rfl, rfl⟩ := H
   go_enter Try.func39, Try.ntmps39
   go_wp2_with (first | ((with_reducible refine gate_dst (N := 2) rfl ?_); refine box_event ?hg (N := 2) ?hd (cs := #[.int .i64 a0_0, .slice A0_1 l0_1.length c0_1]) (t := 26) ?hr ?_; (case hd => rfl); (case hg => rfl); (case hr => first | (go_simp; done) | (go_simp; rfl)); intro gb481 hg w8 hbox hb; have n0_ := Aside0.mk (below_step (by repeat (first | (with_reducible first | exact HB.out | apply below_alloc | apply pw_below_drewN | apply below_drew1) | exact HB.out)) hb); have n1_ := Aside0.mk (hbox); have n2_ := Aside0.mk ((by rw [hg]; exact (below_size (by repeat (first | (with_reducible first | exact HB.out | apply below_alloc | apply pw_below_drewN | apply below_drew1) | exact HB.out))) : w.heap.size ≤ gb481)); have n3_ := Aside0.mk ((by rw [hg]; exact (below_size (by repeat (first | (with_reducible first | exact HB.out | apply below_alloc | apply pw_below_drewN | apply below_drew1) | exact HB.out))) : w.heap.size ≤ gb481)); clear HB; have HB := n0_; have BK481 := n1_; have GW481 := n2_; have GE481 := n3_; clear n0_ n1_ n2_ n3_; clear hb hbox hg) | ((with_reducible refine gate_dst (N := 4) rfl ?_); refine box_event ?hg (N := 4) ?hd (cs := #[.int .i64 0, .slice none 0 0]) (t := 26) ?hr ?_; (case hd => rfl); (case hg => rfl); (case hr => first | (go_simp; done) | (go_simp; rfl)); intro gb482 hg w9 hbox hb; have n0_ := Aside0.mk (blk_below (g := gb481) (o := .cells #[.int .i64 a0_0, .slice A0_1 l0_1.length c0_1] 26 (0, 0)) (by (with_reducible repeat (first | refine blk_drewN ?_ _ | refine blk_drew ?_ | refine blk_alloc ?_ _)); exact BK481.out) hb); have n1_ := Aside0.mk (below_step (by repeat (first | (with_reducible first | exact HB.out | apply below_alloc | apply pw_below_drewN | apply below_drew1 | refine below_set ?_ GE481.out) | exact HB.out)) hb); have n2_ := Aside0.mk (hbox); have n3_ := Aside0.mk ((by rw [hg]; exact (below_size (by repeat (first | (with_reducible first | exact HB.out | apply below_alloc | apply pw_below_drewN | apply below_drew1 | refine below_set ?_ GE481.out) | exact HB.out))) : w.heap.size ≤ gb482)); have n4_ := Aside0.mk ((by rw [hg]; exact (below_size (by repeat (first | (with_reducible first | exact HB.out | apply below_alloc | apply pw_below_drewN | apply below_drew1 | refine below_set ?_ GE481.out) | exact HB.out))) : w.heap.size ≤ gb482)); have n5_ := Aside0.mk ((by rw [hg]; exact Nat.ne_of_lt (blk_lt (g := gb481) (o := .cells #[.int .i64 a0_0, .slice A0_1 l0_1.length c0_1] 26 (0, 0)) (by (with_reducible repeat (first | refine blk_drewN ?_ _ | refine blk_drew ?_ | refine blk_alloc ?_ _)); exact BK481.out)) : gb481 ≠ gb482)); have n6_ := Aside0.mk ((by rw [hg]; exact Nat.ne_of_gt (blk_lt (g := gb481) (o := .cells #[.int .i64 a0_0, .slice A0_1 l0_1.length c0_1] 26 (0, 0)) (by (with_reducible repeat (first | refine blk_drewN ?_ _ | refine blk_drew ?_ | refine blk_alloc ?_ _)); exact BK481.out)) : gb482 ≠ gb481)); clear BK481; clear HB; have BK481 := n0_; have HB := n1_; have BK482 := n2_; have GW482 := n3_; have GE482 := n4_; have NB481_482 := n5_; have NB482_481 := n6_; clear n0_ n1_ n2_ n3_ n4_ n5_ n6_; clear hb hbox hg; have hnb10 := NB481_482.out; have hnc10 := NB482_481.out; have hcz11_0 : w9.cell? ⟨gb481, 0, none⟩ = some (.int .i64 a0_0) := (blk_cell BK481.out 0).trans rfl; have hcz11_1 : w9.cell? ⟨gb481, 1, none⟩ = some (.slice A0_1 l0_1.length c0_1) := (blk_cell BK481.out 1).trans rfl; have hfz11_0 := blk_frozen BK481.out 0; have hfz11_1 := blk_frozen BK481.out 1) | ((with_reducible refine gate_callee (f := 60) rfl ?_); refine goesL_ (some 8) rfl rfl Try.func60 (by kernel_rfl) rfl #[.agg #[.int .i64 a0_0, .slice A0_1 l0_1.length c0_1]] rfl (by (try simp only [List.map_toArray, List.map_cons, List.map_nil]); first | done | rfl | (simp only [List.length_drop, List.length_take]; rfl)) ?_; (with_reducible refine (spec_l01Is.calls a0_0 _ _ l0_1 true _ ?side1 ?side2 A3.out).mono ?_); (case side1 => repeat (first | exact (Kd.C_below HR0_1.out HB.out) | (with_reducible refine Kd.C_alloc ?_ _) | (with_reducible refine Kd.C_drewN ?_ _) | (with_reducible refine Kd.C_drew ?_))); (case side2 => exact HC0_1.out); rintro e w12 ⟨rfl, hb⟩; refine ⟨_, rfl, ?_⟩; have n0_ := Aside0.mk (blk_below (g := gb481) (o := .cells #[.int .i64 a0_0, .slice A0_1 l0_1.length c0_1] 26 (0, 0)) (by (with_reducible repeat (first | refine blk_drewN ?_ _ | refine blk_drew ?_ | refine blk_alloc ?_ _)); exact BK481.out) hb); have n1_ := Aside0.mk (blk_below (g := gb482) (o := .cells #[.int .i64 0, .slice none 0 0] 26 (0, 0)) (by (with_reducible repeat (first | refine blk_drewN ?_ _ | refine blk_drew ?_ | refine blk_alloc ?_ _)); exact BK482.out) hb); have n2_ := Aside0.mk (below_step (by repeat (first | (with_reducible first | exact HB.out | apply below_alloc | apply pw_below_drewN | apply below_drew1 | refine below_set ?_ GE481.out | refine below_set ?_ GE482.out) | exact HB.out)) hb); clear BK481; clear BK482; clear HB; have BK481 := n0_; have BK482 := n1_; have HB := n2_; clear n0_ n1_ n2_; (try clear hb); (try clear hb2); (try clear hk); (try clear hi); have hcz13_0 : w12.cell? ⟨gb481, 0, none⟩ = some (.int .i64 a0_0) := (blk_cell BK481.out 0).trans rfl; have hcz13_1 : w12.cell? ⟨gb481, 1, none⟩ = some (.slice A0_1 l0_1.length c0_1) := (blk_cell BK481.out 1).trans rfl; have hfz13_0 := blk_frozen BK481.out 0; have hfz13_1 := blk_frozen BK481.out 1) | ((with_reducible refine gate_callee (f := 80) rfl ?_); refine goesL_ (some 15) rfl rfl Try.func80 (by kernel_rfl) rfl #[.slice A1 l1.length c1, .int .i64 a0_0] rfl (by (try simp only [List.map_toArray, List.map_cons, List.map_nil]); first | done | rfl | (simp only [List.length_drop, List.length_take]; rfl)) ?_; (with_reducible refine (spec_l01Order.calls k _ _ l1 a0_0 true _ ?side1 ?side2 A5.out).mono ?_); (case side1 => repeat (first | exact (Kd.C_below HR1.out HB.out) | (with_reducible refine Kd.C_alloc ?_ _) | (with_reducible refine Kd.C_drewN ?_ _) | (with_reducible refine Kd.C_drew ?_))); (case side2 => exact HC1.out); rintro e w14 ⟨rfl, hb⟩; refine ⟨_, rfl, ?_⟩; have n0_ := Aside0.mk (blk_below (g := gb481) (o := .cells #[.int .i64 a0_0, .slice A0_1 l0_1.length c0_1] 26 (0, 0)) (by (with_reducible repeat (first | refine blk_drewN ?_ _ | refine blk_drew ?_ | refine blk_alloc ?_ _)); exact BK481.out) hb); have n1_ := Aside0.mk (blk_below (g := gb482) (o := .cells #[.int .i64 0, .slice none 0 0] 26 (0, 0)) (by (with_reducible repeat (first | refine blk_drewN ?_ _ | refine blk_drew ?_ | refine blk_alloc ?_ _)); exact BK482.out) hb); have n2_ := Aside0.mk (below_step (by repeat (first | (with_reducible first | exact HB.out | apply below_alloc | apply pw_below_drewN | apply below_drew1 | refine below_set ?_ GE481.out | refine below_set ?_ GE482.out) | exact HB.out)) hb); clear BK481; clear BK482; clear HB; have BK481 := n0_; have BK482 := n1_; have HB := n2_; clear n0_ n1_ n2_; (try clear hb); (try clear hb2); (try clear hk); (try clear hi); have hcz15_0 : w14.cell? ⟨gb481, 0, none⟩ = some (.int .i64 a0_0) := (blk_cell BK481.out 0).trans rfl; have hcz15_1 : w14.cell? ⟨gb481, 1, none⟩ = some (.slice A0_1 l0_1.length c0_1) := (blk_cell BK481.out 1).trans rfl; have hfz15_0 := blk_frozen BK481.out 0; have hfz15_1 := blk_frozen BK481.out 1) | ((with_reducible refine gate_callee (f := 81) rfl ?_); refine goesL_ (some 20) rfl rfl Try.func81 (by kernel_rfl) rfl #[.agg #[.int .i64 a0_0, .slice A0_1 l0_1.length c0_1], .slice A1 l1.length c1] rfl (by (try simp only [List.map_toArray, List.map_cons, List.map_nil]); first | done | rfl | (simp only [List.length_drop, List.length_take]; rfl)) ?_; (with_reducible refine (spec_l01Renamed.calls k a0_0 _ _ l0_1 _ _ l1 t485 t486 _ ?side1 ?side2 ?side3 ?side4 A7.out).mono ?_); (case side1 => repeat (first | exact (Kd.C_below HR0_1.out HB.out) | (with_reducible refine Kd.C_alloc ?_ _) | (with_reducible refine Kd.C_drewN ?_ _) | (with_reducible refine Kd.C_drew ?_))); (case side2 => exact HC0_1.out); (case side3 => repeat (first | exact (Kd.C_below HR1.out HB.out) | (with_reducible refine Kd.C_alloc ?_ _) | (with_reducible refine Kd.C_drewN ?_ _) | (with_reducible refine Kd.C_drew ?_))); (case side4 => exact HC1.out); rintro e w16 ⟨v487, rfl, ho0, hb⟩; refine ⟨_, rfl, ?_⟩; have n0_ := Aside0.mk (Kd.R_lower ho0 (below_size (by repeat (first | (with_reducible first | exact HB.out | apply below_alloc | apply pw_below_drewN | apply below_drew1 | refine below_set ?_ GE481.out | refine below_set ?_ GE482.out) | exact HB.out)))); have n1_ := Aside0.mk (blk_below (g := gb481) (o := .cells #[.int .i64 a0_0, .slice A0_1 l0_1.length c0_1] 26 (0, 0)) (by (with_reducible repeat (first | refine blk_drewN ?_ _ | refine blk_drew ?_ | refine blk_alloc ?_ _)); exact BK481.out) hb); have n2_ := Aside0.mk (blk_below (g := gb482) (o := .cells #[.int .i64 0, .slice none 0 0] 26 (0, 0)) (by (with_reducible repeat (first | refine blk_drewN ?_ _ | refine blk_drew ?_ | refine blk_alloc ?_ _)); exact BK482.out) hb); have n3_ := Aside0.mk (below_step (by repeat (first | (with_reducible first | exact HB.out | apply below_alloc | apply pw_below_drewN | apply below_drew1 | refine below_set ?_ GE481.out | refine below_set ?_ GE482.out) | exact HB.out)) hb); clear BK481; clear BK482; clear HB; have HO488 := n0_; have BK481 := n1_; have BK482 := n2_; have HB := n3_; clear n0_ n1_ n2_ n3_; (try clear hb); (try clear hb2); (try clear hk); (try clear hi); (try clear ho0); have hcz17_0 : w16.cell? ⟨gb482, 0, none⟩ = some (.int .i64 0) := (blk_cell BK482.out 0).trans rfl; have hcz17_1 : w16.cell? ⟨gb482, 1, none⟩ = some (.slice none 0 0) := (blk_cell BK482.out 1).trans rfl; have hfz17_0 := blk_frozen BK482.out 0; have hfz17_1 := blk_frozen BK482.out 1; obtain ⟨Ao18, co18, eo18⟩ := Kd.R_slice HO488.out; subst eo18))
   refine bodyPost_ret (results_ct rfl _ _ gb482 26 #[.int .i64 t485, .slice Ao18 t486.length co18] (0, 0) _ rfl (by (with_reducible repeat (first | refine blk_drewN ?_ _ | refine blk_drew ?_ | refine blk_alloc ?_ _)); refine blk_put (cs := #[.int .i64 t485, .slice none 0 0]) ?_ 1 _ rfl; (with_reducible repeat (first | refine blk_drewN ?_ _ | refine blk_drew ?_ | refine blk_alloc ?_ _)); refine blk_put (cs := #[.int .i64 0, .slice none 0 0]) ?_ 0 _ rfl; (with_reducible repeat (first | refine blk_drewN ?_ _ | refine blk_drew ?_ | refine blk_alloc ?_ _)); exact BK482.out) Try.underlying26 rfl (by kernel_rfl)) rfl ?_
   exact ⟨_, by first | rfl | (simp [errW_none, errW_some] <;> rfl) | (simp [*, errW_none, errW_some] <;> rfl), by (with_reducible repeat (first | apply Kd.R_alloc | apply Kd.R_drewN | apply Kd.R_drew)); exact Kd.R_mono (Kd.R_far (p := ⟨gb482, 1, none⟩) (Kd.R_far (p := ⟨gb482, 0, none⟩) (Kd.R_types HO488.out BK482.out (by decide)) (fun _ hk => hk.2) (.int .i64 t485)) (fun _ hk => hk.2) (.slice Ao18 t486.length co18)) (fun _ hk => trivial), by repeat (first | (with_reducible first | exact HB.out | apply below_alloc | apply pw_below_drewN | apply below_drew1 | refine below_set ?_ GE481.out | refine below_set ?_ GE482.out) | exact HB.out)⟩
  ·replace c6 := Bool.eq_false_iff.mpr c6
   subst c6
   have H1 : (some (0, ([] : List (S45)), 2)) = some (r1, r2, r3) := by rw [if_neg (show ¬ (false = true) by decide)] at H; exact H
   clear H
   have H := H1
   clear H1
   simp only [Option.some.injEq, Prod.mk.injEq] at H
   obtain ⟨rfl, rfl, rfl⟩ := H
   go_enter Try.func39, Try.ntmps39
   go_wp2_with (first | ((with_reducible refine gate_dst (N := 2) rfl ?_); refine box_event ?hg (N := 2) ?hd (cs := #[.int .i64 a0_0, .slice A0_1 l0_1.length c0_1]) (t := 26) ?hr ?_; (case hd => rfl); (case hg => rfl); (case hr => first | (go_simp; done) | (go_simp; rfl)); intro gb481 hg w19 hbox hb; have n0_ := Aside0.mk (below_step (by repeat (first | (with_reducible first | exact HB.out | apply below_alloc | apply pw_below_drewN | apply below_drew1) | exact HB.out)) hb); have n1_ := Aside0.mk (hbox); have n2_ := Aside0.mk ((by rw [hg]; exact (below_size (by repeat (first | (with_reducible first | exact HB.out | apply below_alloc | apply pw_below_drewN | apply below_drew1) | exact HB.out))) : w.heap.size ≤ gb481)); have n3_ := Aside0.mk ((by rw [hg]; exact (below_size (by repeat (first | (with_reducible first | exact HB.out | apply below_alloc | apply pw_below_drewN | apply below_drew1) | exact HB.out))) : w.heap.size ≤ gb481)); clear HB; have HB := n0_; have BK481 := n1_; have GW481 := n2_; have GE481 := n3_; clear n0_ n1_ n2_ n3_; clear hb hbox hg) | ((with_reducible refine gate_dst (N := 4) rfl ?_); refine box_event ?hg (N := 4) ?hd (cs := #[.int .i64 0, .slice none 0 0]) (t := 26) ?hr ?_; (case hd => rfl); (case hg => rfl); (case hr => first | (go_simp; done) | (go_simp; rfl)); intro gb482 hg w20 hbox hb; have n0_ := Aside0.mk (blk_below (g := gb481) (o := .cells #[.int .i64 a0_0, .slice A0_1 l0_1.length c0_1] 26 (0, 0)) (by (with_reducible repeat (first | refine blk_drewN ?_ _ | refine blk_drew ?_ | refine blk_alloc ?_ _)); exact BK481.out) hb); have n1_ := Aside0.mk (below_step (by repeat (first | (with_reducible first | exact HB.out | apply below_alloc | apply pw_below_drewN | apply below_drew1 | refine below_set ?_ GE481.out) | exact HB.out)) hb); have n2_ := Aside0.mk (hbox); have n3_ := Aside0.mk ((by rw [hg]; exact (below_size (by repeat (first | (with_reducible first | exact HB.out | apply below_alloc | apply pw_below_drewN | apply below_drew1 | refine below_set ?_ GE481.out) | exact HB.out))) : w.heap.size ≤ gb482)); have n4_ := Aside0.mk ((by rw [hg]; exact (below_size (by repeat (first | (with_reducible first | exact HB.out | apply below_alloc | apply pw_below_drewN | apply below_drew1 | refine below_set ?_ GE481.out) | exact HB.out))) : w.heap.size ≤ gb482)); have n5_ := Aside0.mk ((by rw [hg]; exact Nat.ne_of_lt (blk_lt (g := gb481) (o := .cells #[.int .i64 a0_0, .slice A0_1 l0_1.length c0_1] 26 (0, 0)) (by (with_reducible repeat (first | refine blk_drewN ?_ _ | refine blk_drew ?_ | refine blk_alloc ?_ _)); exact BK481.out)) : gb481 ≠ gb482)); have n6_ := Aside0.mk ((by rw [hg]; exact Nat.ne_of_gt (blk_lt (g := gb481) (o := .cells #[.int .i64 a0_0, .slice A0_1 l0_1.length c0_1] 26 (0, 0)) (by (with_reducible repeat (first | refine blk_drewN ?_ _ | refine blk_drew ?_ | refine blk_alloc ?_ _)); exact BK481.out)) : gb482 ≠ gb481)); clear BK481; clear HB; have BK481 := n0_; have HB := n1_; have BK482 := n2_; have GW482 := n3_; have GE482 := n4_; have NB481_482 := n5_; have NB482_481 := n6_; clear n0_ n1_ n2_ n3_ n4_ n5_ n6_; clear hb hbox hg; have hnb21 := NB481_482.out; have hnc21 := NB482_481.out; have hcz22_0 : w20.cell? ⟨gb481, 0, none⟩ = some (.int .i64 a0_0) := (blk_cell BK481.out 0).trans rfl; have hcz22_1 : w20.cell? ⟨gb481, 1, none⟩ = some (.slice A0_1 l0_1.length c0_1) := (blk_cell BK481.out 1).trans rfl; have hfz22_0 := blk_frozen BK481.out 0; have hfz22_1 := blk_frozen BK481.out 1) | ((with_reducible refine gate_callee (f := 60) rfl ?_); refine goesL_ (some 8) rfl rfl Try.func60 (by kernel_rfl) rfl #[.agg #[.int .i64 a0_0, .slice A0_1 l0_1.length c0_1]] rfl (by (try simp only [List.map_toArray, List.map_cons, List.map_nil]); first | done | rfl | (simp only [List.length_drop, List.length_take]; rfl)) ?_; (with_reducible refine (spec_l01Is.calls a0_0 _ _ l0_1 true _ ?side1 ?side2 A3.out).mono ?_); (case side1 => repeat (first | exact (Kd.C_below HR0_1.out HB.out) | (with_reducible refine Kd.C_alloc ?_ _) | (with_reducible refine Kd.C_drewN ?_ _) | (with_reducible refine Kd.C_drew ?_))); (case side2 => exact HC0_1.out); rintro e w23 ⟨rfl, hb⟩; refine ⟨_, rfl, ?_⟩; have n0_ := Aside0.mk (blk_below (g := gb481) (o := .cells #[.int .i64 a0_0, .slice A0_1 l0_1.length c0_1] 26 (0, 0)) (by (with_reducible repeat (first | refine blk_drewN ?_ _ | refine blk_drew ?_ | refine blk_alloc ?_ _)); exact BK481.out) hb); have n1_ := Aside0.mk (blk_below (g := gb482) (o := .cells #[.int .i64 0, .slice none 0 0] 26 (0, 0)) (by (with_reducible repeat (first | refine blk_drewN ?_ _ | refine blk_drew ?_ | refine blk_alloc ?_ _)); exact BK482.out) hb); have n2_ := Aside0.mk (below_step (by repeat (first | (with_reducible first | exact HB.out | apply below_alloc | apply pw_below_drewN | apply below_drew1 | refine below_set ?_ GE481.out | refine below_set ?_ GE482.out) | exact HB.out)) hb); clear BK481; clear BK482; clear HB; have BK481 := n0_; have BK482 := n1_; have HB := n2_; clear n0_ n1_ n2_; (try clear hb); (try clear hb2); (try clear hk); (try clear hi); have hcz24_0 : w23.cell? ⟨gb481, 0, none⟩ = some (.int .i64 a0_0) := (blk_cell BK481.out 0).trans rfl; have hcz24_1 : w23.cell? ⟨gb481, 1, none⟩ = some (.slice A0_1 l0_1.length c0_1) := (blk_cell BK481.out 1).trans rfl; have hfz24_0 := blk_frozen BK481.out 0; have hfz24_1 := blk_frozen BK481.out 1) | ((with_reducible refine gate_callee (f := 80) rfl ?_); refine goesL_ (some 15) rfl rfl Try.func80 (by kernel_rfl) rfl #[.slice A1 l1.length c1, .int .i64 a0_0] rfl (by (try simp only [List.map_toArray, List.map_cons, List.map_nil]); first | done | rfl | (simp only [List.length_drop, List.length_take]; rfl)) ?_; (with_reducible refine (spec_l01Order.calls k _ _ l1 a0_0 false _ ?side1 ?side2 A5.out).mono ?_); (case side1 => repeat (first | exact (Kd.C_below HR1.out HB.out) | (with_reducible refine Kd.C_alloc ?_ _) | (with_reducible refine Kd.C_drewN ?_ _) | (with_reducible refine Kd.C_drew ?_))); (case side2 => exact HC1.out); rintro e w25 ⟨rfl, hb⟩; refine ⟨_, rfl, ?_⟩; have n0_ := Aside0.mk (blk_below (g := gb481) (o := .cells #[.int .i64 a0_0, .slice A0_1 l0_1.length c0_1] 26 (0, 0)) (by (with_reducible repeat (first | refine blk_drewN ?_ _ | refine blk_drew ?_ | refine blk_alloc ?_ _)); exact BK481.out) hb); have n1_ := Aside0.mk (blk_below (g := gb482) (o := .cells #[.int .i64 0, .slice none 0 0] 26 (0, 0)) (by (with_reducible repeat (first | refine blk_drewN ?_ _ | refine blk_drew ?_ | refine blk_alloc ?_ _)); exact BK482.out) hb); have n2_ := Aside0.mk (below_step (by repeat (first | (with_reducible first | exact HB.out | apply below_alloc | apply pw_below_drewN | apply below_drew1 | refine below_set ?_ GE481.out | refine below_set ?_ GE482.out) | exact HB.out)) hb); clear BK481; clear BK482; clear HB; have BK481 := n0_; have BK482 := n1_; have HB := n2_; clear n0_ n1_ n2_; (try clear hb); (try clear hb2); (try clear hk); (try clear hi); have hcz26_0 : w25.cell? ⟨gb482, 0, none⟩ = some (.int .i64 0) := (blk_cell BK482.out 0).trans rfl; have hcz26_1 : w25.cell? ⟨gb482, 1, none⟩ = some (.slice none 0 0) := (blk_cell BK482.out 1).trans rfl; have hfz26_0 := blk_frozen BK482.out 0; have hfz26_1 := blk_frozen BK482.out 1))
   refine bodyPost_ret (results_ct rfl _ _ gb482 26 #[.int .i64 0, .slice none 0 0] (0, 0) _ rfl (by (with_reducible repeat (first | refine blk_drewN ?_ _ | refine blk_drew ?_ | refine blk_alloc ?_ _)); refine blk_put (cs := #[.int .i64 0, .slice none 0 0]) ?_ 1 _ rfl; (with_reducible repeat (first | refine blk_drewN ?_ _ | refine blk_drew ?_ | refine blk_alloc ?_ _)); refine blk_put (cs := #[.int .i64 0, .slice none 0 0]) ?_ 0 _ rfl; (with_reducible repeat (first | refine blk_drewN ?_ _ | refine blk_drew ?_ | refine blk_alloc ?_ _)); exact BK482.out) Try.underlying26 rfl (by kernel_rfl)) rfl ?_
   exact ⟨_, by first | rfl | (simp [errW_none, errW_some] <;> rfl) | (simp [*, errW_none, errW_some] <;> rfl), by first | exact Kd.R_nil _ _ _ _ _ | exact Kd.N_nil _ _ _ _ _ | exact Kd.V_nil _ _ _ _ _ | exact Kd.Q_nil _ _ _ _ _ | exact Kd.S_nil _ _ _ _ _, by repeat (first | (with_reducible first | exact HB.out | apply below_alloc | apply pw_below_drewN | apply below_drew1 | refine below_set ?_ GE481.out | refine below_set ?_ GE482.out) | exact HB.out)⟩
 ·replace c4 := Bool.eq_false_iff.mpr c4
  subst c4
  have H1 : (some (0, ([] : List (S45)), 1)) = some (r1, r2, r3) := by rw [if_neg (show ¬ (false = true) by decide)] at H; exact H
  clear H
  have H := H1
  clear H1
  simp only [Option.some.injEq, Prod.mk.injEq] at H
  obtain ⟨rfl, rfl, rfl⟩ := H
  go_enter Try.func39, Try.ntmps39
  go_wp2_with (first | ((with_reducible refine gate_dst (N := 2) rfl ?_); refine box_event ?hg (N := 2) ?hd (cs := #[.int .i64 a0_0, .slice A0_1 l0_1.length c0_1]) (t := 26) ?hr ?_; (case hd => rfl); (case hg => rfl); (case hr => first | (go_simp; done) | (go_simp; rfl)); intro gb481 hg w27 hbox hb; have n0_ := Aside0.mk (below_step (by repeat (first | (with_reducible first | exact HB.out | apply below_alloc | apply pw_below_drewN | apply below_drew1) | exact HB.out)) hb); have n1_ := Aside0.mk (hbox); have n2_ := Aside0.mk ((by rw [hg]; exact (below_size (by repeat (first | (with_reducible first | exact HB.out | apply below_alloc | apply pw_below_drewN | apply below_drew1) | exact HB.out))) : w.heap.size ≤ gb481)); have n3_ := Aside0.mk ((by rw [hg]; exact (below_size (by repeat (first | (with_reducible first | exact HB.out | apply below_alloc | apply pw_below_drewN | apply below_drew1) | exact HB.out))) : w.heap.size ≤ gb481)); clear HB; have HB := n0_; have BK481 := n1_; have GW481 := n2_; have GE481 := n3_; clear n0_ n1_ n2_ n3_; clear hb hbox hg) | ((with_reducible refine gate_dst (N := 4) rfl ?_); refine box_event ?hg (N := 4) ?hd (cs := #[.int .i64 0, .slice none 0 0]) (t := 26) ?hr ?_; (case hd => rfl); (case hg => rfl); (case hr => first | (go_simp; done) | (go_simp; rfl)); intro gb482 hg w28 hbox hb; have n0_ := Aside0.mk (blk_below (g := gb481) (o := .cells #[.int .i64 a0_0, .slice A0_1 l0_1.length c0_1] 26 (0, 0)) (by (with_reducible repeat (first | refine blk_drewN ?_ _ | refine blk_drew ?_ | refine blk_alloc ?_ _)); exact BK481.out) hb); have n1_ := Aside0.mk (below_step (by repeat (first | (with_reducible first | exact HB.out | apply below_alloc | apply pw_below_drewN | apply below_drew1 | refine below_set ?_ GE481.out) | exact HB.out)) hb); have n2_ := Aside0.mk (hbox); have n3_ := Aside0.mk ((by rw [hg]; exact (below_size (by repeat (first | (with_reducible first | exact HB.out | apply below_alloc | apply pw_below_drewN | apply below_drew1 | refine below_set ?_ GE481.out) | exact HB.out))) : w.heap.size ≤ gb482)); have n4_ := Aside0.mk ((by rw [hg]; exact (below_size (by repeat (first | (with_reducible first | exact HB.out | apply below_alloc | apply pw_below_drewN | apply below_drew1 | refine below_set ?_ GE481.out) | exact HB.out))) : w.heap.size ≤ gb482)); have n5_ := Aside0.mk ((by rw [hg]; exact Nat.ne_of_lt (blk_lt (g := gb481) (o := .cells #[.int .i64 a0_0, .slice A0_1 l0_1.length c0_1] 26 (0, 0)) (by (with_reducible repeat (first | refine blk_drewN ?_ _ | refine blk_drew ?_ | refine blk_alloc ?_ _)); exact BK481.out)) : gb481 ≠ gb482)); have n6_ := Aside0.mk ((by rw [hg]; exact Nat.ne_of_gt (blk_lt (g := gb481) (o := .cells #[.int .i64 a0_0, .slice A0_1 l0_1.length c0_1] 26 (0, 0)) (by (with_reducible repeat (first | refine blk_drewN ?_ _ | refine blk_drew ?_ | refine blk_alloc ?_ _)); exact BK481.out)) : gb482 ≠ gb481)); clear BK481; clear HB; have BK481 := n0_; have HB := n1_; have BK482 := n2_; have GW482 := n3_; have GE482 := n4_; have NB481_482 := n5_; have NB482_481 := n6_; clear n0_ n1_ n2_ n3_ n4_ n5_ n6_; clear hb hbox hg; have hnb29 := NB481_482.out; have hnc29 := NB482_481.out; have hcz30_0 : w28.cell? ⟨gb481, 0, none⟩ = some (.int .i64 a0_0) := (blk_cell BK481.out 0).trans rfl; have hcz30_1 : w28.cell? ⟨gb481, 1, none⟩ = some (.slice A0_1 l0_1.length c0_1) := (blk_cell BK481.out 1).trans rfl; have hfz30_0 := blk_frozen BK481.out 0; have hfz30_1 := blk_frozen BK481.out 1) | ((with_reducible refine gate_callee (f := 60) rfl ?_); refine goesL_ (some 8) rfl rfl Try.func60 (by kernel_rfl) rfl #[.agg #[.int .i64 a0_0, .slice A0_1 l0_1.length c0_1]] rfl (by (try simp only [List.map_toArray, List.map_cons, List.map_nil]); first | done | rfl | (simp only [List.length_drop, List.length_take]; rfl)) ?_; (with_reducible refine (spec_l01Is.calls a0_0 _ _ l0_1 false _ ?side1 ?side2 A3.out).mono ?_); (case side1 => repeat (first | exact (Kd.C_below HR0_1.out HB.out) | (with_reducible refine Kd.C_alloc ?_ _) | (with_reducible refine Kd.C_drewN ?_ _) | (with_reducible refine Kd.C_drew ?_))); (case side2 => exact HC0_1.out); rintro e w31 ⟨rfl, hb⟩; refine ⟨_, rfl, ?_⟩; have n0_ := Aside0.mk (blk_below (g := gb481) (o := .cells #[.int .i64 a0_0, .slice A0_1 l0_1.length c0_1] 26 (0, 0)) (by (with_reducible repeat (first | refine blk_drewN ?_ _ | refine blk_drew ?_ | refine blk_alloc ?_ _)); exact BK481.out) hb); have n1_ := Aside0.mk (blk_below (g := gb482) (o := .cells #[.int .i64 0, .slice none 0 0] 26 (0, 0)) (by (with_reducible repeat (first | refine blk_drewN ?_ _ | refine blk_drew ?_ | refine blk_alloc ?_ _)); exact BK482.out) hb); have n2_ := Aside0.mk (below_step (by repeat (first | (with_reducible first | exact HB.out | apply below_alloc | apply pw_below_drewN | apply below_drew1 | refine below_set ?_ GE481.out | refine below_set ?_ GE482.out) | exact HB.out)) hb); clear BK481; clear BK482; clear HB; have BK481 := n0_; have BK482 := n1_; have HB := n2_; clear n0_ n1_ n2_; (try clear hb); (try clear hb2); (try clear hk); (try clear hi); have hcz32_0 : w31.cell? ⟨gb482, 0, none⟩ = some (.int .i64 0) := (blk_cell BK482.out 0).trans rfl; have hcz32_1 : w31.cell? ⟨gb482, 1, none⟩ = some (.slice none 0 0) := (blk_cell BK482.out 1).trans rfl; have hfz32_0 := blk_frozen BK482.out 0; have hfz32_1 := blk_frozen BK482.out 1))
  refine bodyPost_ret (results_ct rfl _ _ gb482 26 #[.int .i64 0, .slice none 0 0] (0, 0) _ rfl (by (with_reducible repeat (first | refine blk_drewN ?_ _ | refine blk_drew ?_ | refine blk_alloc ?_ _)); refine blk_put (cs := #[.int .i64 0, .slice none 0 0]) ?_ 1 _ rfl; (with_reducible repeat (first | refine blk_drewN ?_ _ | refine blk_drew ?_ | refine blk_alloc ?_ _)); refine blk_put (cs := #[.int .i64 0, .slice none 0 0]) ?_ 0 _ rfl; (with_reducible repeat (first | refine blk_drewN ?_ _ | refine blk_drew ?_ | refine blk_alloc ?_ _)); exact BK482.out) Try.underlying26 rfl (by kernel_rfl)) rfl ?_
  exact ⟨_, by first | rfl | (simp [errW_none, errW_some] <;> rfl) | (simp [*, errW_none, errW_some] <;> rfl), by first | exact Kd.R_nil _ _ _ _ _ | exact Kd.N_nil _ _ _ _ _ | exact Kd.V_nil _ _ _ _ _ | exact Kd.Q_nil _ _ _ _ _ | exact Kd.S_nil _ _ _ _ _, by repeat (first | (with_reducible first | exact HB.out | apply below_alloc | apply pw_below_drewN | apply below_drew1 | refine below_set ?_ GE481.out | refine below_set ?_ GE482.out) | exact HB.out)⟩

end Go.Proofs.Ytnjmgmdpkogocaa.Q

-- Printed by a program of this session (the kit's print, turned: printpatch.py) out of Lean's print of the translation. Lean checks it.
namespace Go.Proofs.Ytnjmgmdpkogocaa.Q
open Go.RowKit Go.Proofs.YtnjmgmdpkogocaaW.PrintWords Go.Proofs.YtnjmgmdpkogocaaW.PrintLast Go.Proofs.YtnjmgmdpkogocaaW.PrintMore
attribute [local go_sem] max2_int min2_int max_two min_two max_three min_three max_four min_four   -- for this text's walks alone
set_option linter.unusedVariables false
set_option linter.unusedSimpArgs false

/-! ### impl_changed_at_impl_RenameColours_2: function 180 -/
def impl_changed_at_impl_RenameColours_2.l0 : Nat → List (S45) → List (S45) → Int → Int → Int → List (S45) → List Int → Option (Int × (List (S45)) × Int)
 | 0, _, _, _, _, _, _, _ => none
 | k + 1, x6, x15, x16, x17, x502000, x502001, x90021000 => if x17 < x16 then (if 0 ≤ x17 then (if x17 < (x15.length : Int) then ((impl_RenameColours_2.f ((rd_T45 x15 x17).f0) ((rd_T45 x15 x17).f1) ((rd_T45 x15 x17).f2) ((rd_T45 x15 x17).f3) x90021000).bind fun bt509 => (if x6.length < 4398046511104 then (impl_changed_at_impl_RenameColours_2.l0 k (x6 ++ [(⟨bt509.1, bt509.2.1, bt509.2.2.1, bt509.2.2.2⟩ : S45)]) x15 x16 (wrap64 (x17 + 1)) x502000 x502001 x90021000) else (none))) else (none)) else (none)) else ((impl_limited.f x502000 x6).bind fun bt516 => (some (bt516.1, bt516.2.1, bt516.2.2)))
def impl_changed_at_impl_RenameColours_2.f (k : Nat) (a0_0 : Int) (l0_1 : List (S45)) (l1_0_0 : List Int) : Option (Int × (List (S45)) × Int) := (impl_IsSet.f a0_0 l0_1).bind fun t503 => (if t503 = true then (impl_changed_at_impl_RenameColours_2.l0 k (([] : List (S45))) l0_1 (l0_1.length : Int) 0 a0_0 l0_1 l1_0_0) else (some (0, ([] : List (S45)), 1)))
theorem impl_changed_at_impl_RenameColours_2.mono_l : ∀ k, (∀ y0 y1 y2 y3 y4 y5 y6, LeO (impl_changed_at_impl_RenameColours_2.l0 k y0 y1 y2 y3 y4 y5 y6) (impl_changed_at_impl_RenameColours_2.l0 (k + 1) y0 y1 y2 y3 y4 y5 y6))
 | 0 => fun _ _ _ _ _ _ _ r h => by simp [impl_changed_at_impl_RenameColours_2.l0] at h
 | k + 1 => by
  have ih0 := impl_changed_at_impl_RenameColours_2.mono_l k
  ·intro y0 y1 y2 y3 y4 y5 y6
   unfold impl_changed_at_impl_RenameColours_2.l0
   repeat' first
   | (with_reducible exact ih0 _ _ _ _ _ _ _)
   | (with_reducible exact LeO.refl _)
   | (with_reducible exact LeO.none _)
   | (with_reducible refine LeO.ite ?_ ?_)
   | (with_reducible refine LeO.bind ?_ (fun _ => ?_))
   | exact ih0 _ _ _ _ _ _ _
   | exact LeO.none _
   | refine LeO.ite ?_ ?_
   | refine LeO.bind ?_ (fun _ => ?_)
theorem impl_changed_at_impl_RenameColours_2.mono : ∀ a0 a1 a2 k, LeO (impl_changed_at_impl_RenameColours_2.f k a0 a1 a2) (impl_changed_at_impl_RenameColours_2.f (k + 1) a0 a1 a2) := by
 intro a0 a1 a2 k
 have ih0 := impl_changed_at_impl_RenameColours_2.mono_l k
 unfold impl_changed_at_impl_RenameColours_2.f
 repeat' first
   | (with_reducible exact ih0 _ _ _ _ _ _ _)
   | (with_reducible exact LeO.refl _)
   | (with_reducible exact LeO.none _)
   | (with_reducible refine LeO.ite ?_ ?_)
   | (with_reducible refine LeO.bind ?_ (fun _ => ?_))
   | exact ih0 _ _ _ _ _ _ _
   | exact LeO.none _
   | refine LeO.ite ?_ ?_
   | refine LeO.bind ?_ (fun _ => ?_)
set_option maxHeartbeats 8000000 in
set_option maxRecDepth 100000 in
theorem impl_changed_at_impl_RenameColours_2.calls (k : Nat) (a0_0 : Int) (A0_1 : Option Addr) (c0_1 : Nat) (l0_1 : List (S45)) (g1_0_ : Nat) (A1_0_0 : Option Addr) (c1_0_0 : Nat) (l1_0_0 : List Int) (r1 : Int) (r2 : List (S45)) (r3 : Int) (w : World) (hr0_1 : Kd.C k45 w A0_1 l0_1.length l0_1) (hc0_1 : l0_1.length ≤ c0_1) (hr1_0_0 : Kd.C (Kd.int .i64) w A1_0_0 l1_0_0.length l1_0_0) (hc1_0_0 : l1_0_0.length ≤ c1_0_0) (hb1_0_ : w.heap[g1_0_]? = some (.cells #[.slice A1_0_0 l1_0_0.length c1_0_0] 48 (0, 0))) (h : impl_changed_at_impl_RenameColours_2.f k a0_0 l0_1 l1_0_0 = some (r1, r2, r3)) :
  Calls Try.prog 62 #[.agg #[.int .i64 a0_0, .slice A0_1 l0_1.length c0_1], .func (.func 84) #[] #[.pointer (some ⟨g1_0_, 0, none⟩)]] w fun e w' => ∃ v1_ : Value, e = .returned (.tuple #[.agg #[.int .i64 r1, v1_], .int .i64 r3]) ∧ Kd.R k45 45 w' w.heap.size (fun _ => True) v1_ r2 ∧ Below w.heap.size w w' := by
 have hu26 := Try.underlying26
 have hu45 := Try.underlying45
 have HR0_1 := Aside0.mk hr0_1
 have HC0_1 := Aside0.mk hc0_1
 clear hr0_1 hc0_1
 have HR1_0_0 := Aside0.mk hr1_0_0
 have HC1_0_0 := Aside0.mk hc1_0_0
 clear hr1_0_0 hc1_0_0
 have BK90020 := Aside0.mk hb1_0_
 clear hb1_0_
 have HB := Aside0.mk (Below.refl w.heap.size w)
 have H : ((impl_IsSet.f a0_0 l0_1).bind fun t503 => (if t503 = true then (impl_changed_at_impl_RenameColours_2.l0 k (([] : List (S45))) l0_1 (l0_1.length : Int) 0 a0_0 l0_1 l1_0_0) else (some (0, ([] : List (S45)), 1)))) = some (r1, r2, r3) := h
 clear h
 replace H := Option.bind_eq_some_iff.mp H
 obtain ⟨t503, A30, H⟩ := H
 replace H : (if t503 = true then (impl_changed_at_impl_RenameColours_2.l0 k (([] : List (S45))) l0_1 (l0_1.length : Int) 0 a0_0 l0_1 l1_0_0) else (some (0, ([] : List (S45)), 1))) = some (r1, r2, r3) := H
 have A3 := Aside0.mk A30
 clear A30
 by_cases c4 : t503 = true
 ·subst c4
  have H1 : (impl_changed_at_impl_RenameColours_2.l0 k (([] : List (S45))) l0_1 (l0_1.length : Int) 0 a0_0 l0_1 l1_0_0) = some (r1, r2, r3) := by rw [if_pos rfl] at H; exact H
  clear H
  have H := H1
  clear H1
  obtain ⟨y504, hy504⟩ : ∃ y_ : List (S45), y_ = (([] : List (S45))) := ⟨_, rfl⟩
  replace H : (impl_changed_at_impl_RenameColours_2.l0 k y504 l0_1 (l0_1.length : Int) 0 a0_0 l0_1 l1_0_0) = some (r1, r2, r3) := by first | (rw [hy504]; with_reducible exact H) | (have H2_ := (Option.bind_some _ _).symm.trans H; rw [hy504]; with_reducible exact H2_) | (have H2_ := (Option.bind_some _ _).symm.trans H; with_reducible exact H2_) | with_reducible exact H | (rw [hy504]; exact H) | exact H
  have Ny504 := Aside0.mk hy504
  clear hy504
  have H' := Aside0.mk H
  clear H
  go_enter Try.func62, Try.ntmps62
  go_wp2_with (first | ((with_reducible refine gate_dst (N := 2) rfl ?_); refine box_event ?hg (N := 2) ?hd (cs := #[.int .i64 a0_0, .slice A0_1 l0_1.length c0_1]) (t := 26) ?hr ?_; (case hd => rfl); (case hg => rfl); (case hr => first | (go_simp; done) | (go_simp; rfl)); intro gb501 hg w5 hbox hb; have n0_ := Aside0.mk (blk_below (g := g1_0_) (o := .cells #[.slice A1_0_0 l1_0_0.length c1_0_0] 48 (0, 0)) (by (with_reducible repeat (first | refine blk_drewN ?_ _ | refine blk_drew ?_ | refine blk_alloc ?_ _)); exact BK90020.out) hb); have n1_ := Aside0.mk (below_step (by repeat (first | (with_reducible first | exact HB.out | apply below_alloc | apply pw_below_drewN | apply below_drew1) | exact HB.out)) hb); have n2_ := Aside0.mk (hbox); have n3_ := Aside0.mk ((by rw [hg]; exact (below_size (by repeat (first | (with_reducible first | exact HB.out | apply below_alloc | apply pw_below_drewN | apply below_drew1) | exact HB.out))) : w.heap.size ≤ gb501)); have n4_ := Aside0.mk ((by rw [hg]; exact (below_size (by repeat (first | (with_reducible first | exact HB.out | apply below_alloc | apply pw_below_drewN | apply below_drew1) | exact HB.out))) : w.heap.size ≤ gb501)); have n5_ := Aside0.mk ((by rw [hg]; exact Nat.ne_of_lt (blk_lt (g := g1_0_) (o := .cells #[.slice A1_0_0 l1_0_0.length c1_0_0] 48 (0, 0)) (by (with_reducible repeat (first | refine blk_drewN ?_ _ | refine blk_drew ?_ | refine blk_alloc ?_ _)); exact BK90020.out)) : g1_0_ ≠ gb501)); have n6_ := Aside0.mk ((by rw [hg]; exact Nat.ne_of_gt (blk_lt (g := g1_0_) (o := .cells #[.slice A1_0_0 l1_0_0.length c1_0_0] 48 (0, 0)) (by (with_reducible repeat (first | refine blk_drewN ?_ _ | refine blk_drew ?_ | refine blk_alloc ?_ _)); exact BK90020.out)) : gb501 ≠ g1_0_)); clear BK90020; clear HB; have BK90020 := n0_; have HB := n1_; have BK501 := n2_; have GW501 := n3_; have GE501 := n4_; have NB90020_501 := n5_; have NB501_90020 := n6_; clear n0_ n1_ n2_ n3_ n4_ n5_ n6_; clear hb hbox hg) | ((with_reducible refine gate_dst (N := 4) rfl ?_); refine box_event ?hg (N := 4) ?hd (cs := #[.int .i64 0, .slice none 0 0]) (t := 26) ?hr ?_; (case hd => rfl); (case hg => rfl); (case hr => first | (go_simp; done) | (go_simp; rfl)); intro gb502 hg w6 hbox hb; have n0_ := Aside0.mk (blk_below (g := g1_0_) (o := .cells #[.slice A1_0_0 l1_0_0.length c1_0_0] 48 (0, 0)) (by (with_reducible repeat (first | refine blk_drewN ?_ _ | refine blk_drew ?_ | refine blk_alloc ?_ _)); exact BK90020.out) hb); have n1_ := Aside0.mk (blk_below (g := gb501) (o := .cells #[.int .i64 a0_0, .slice A0_1 l0_1.length c0_1] 26 (0, 0)) (by (with_reducible repeat (first | refine blk_drewN ?_ _ | refine blk_drew ?_ | refine blk_alloc ?_ _)); exact BK501.out) hb); have n2_ := Aside0.mk (below_step (by repeat (first | (with_reducible first | exact HB.out | apply below_alloc | apply pw_below_drewN | apply below_drew1 | refine below_set ?_ GE501.out) | exact HB.out)) hb); have n3_ := Aside0.mk (hbox); have n4_ := Aside0.mk ((by rw [hg]; exact (below_size (by repeat (first | (with_reducible first | exact HB.out | apply below_alloc | apply pw_below_drewN | apply below_drew1 | refine below_set ?_ GE501.out) | exact HB.out))) : w.heap.size ≤ gb502)); have n5_ := Aside0.mk ((by rw [hg]; exact (below_size (by repeat (first | (with_reducible first | exact HB.out | apply below_alloc | apply pw_below_drewN | apply below_drew1 | refine below_set ?_ GE501.out) | exact HB.out))) : w.heap.size ≤ gb502)); have n6_ := Aside0.mk ((by rw [hg]; exact Nat.ne_of_lt (blk_lt (g := g1_0_) (o := .cells #[.slice A1_0_0 l1_0_0.length c1_0_0] 48 (0, 0)) (by (with_reducible repeat (first | refine blk_drewN ?_ _ | refine blk_drew ?_ | refine blk_alloc ?_ _)); exact BK90020.out)) : g1_0_ ≠ gb502)); have n7_ := Aside0.mk ((by rw [hg]; exact Nat.ne_of_gt (blk_lt (g := g1_0_) (o := .cells #[.slice A1_0_0 l1_0_0.length c1_0_0] 48 (0, 0)) (by (with_reducible repeat (first | refine blk_drewN ?_ _ | refine blk_drew ?_ | refine blk_alloc ?_ _)); exact BK90020.out)) : gb502 ≠ g1_0_)); have n8_ := Aside0.mk ((by rw [hg]; exact Nat.ne_of_lt (blk_lt (g := gb501) (o := .cells #[.int .i64 a0_0, .slice A0_1 l0_1.length c0_1] 26 (0, 0)) (by (with_reducible repeat (first | refine blk_drewN ?_ _ | refine blk_drew ?_ | refine blk_alloc ?_ _)); exact BK501.out)) : gb501 ≠ gb502)); have n9_ := Aside0.mk ((by rw [hg]; exact Nat.ne_of_gt (blk_lt (g := gb501) (o := .cells #[.int .i64 a0_0, .slice A0_1 l0_1.length c0_1] 26 (0, 0)) (by (with_reducible repeat (first | refine blk_drewN ?_ _ | refine blk_drew ?_ | refine blk_alloc ?_ _)); exact BK501.out)) : gb502 ≠ gb501)); clear BK90020; clear BK501; clear HB; have BK90020 := n0_; have BK501 := n1_; have HB := n2_; have BK502 := n3_; have GW502 := n4_; have GE502 := n5_; have NB90020_502 := n6_; have NB502_90020 := n7_; have NB501_502 := n8_; have NB502_501 := n9_; clear n0_ n1_ n2_ n3_ n4_ n5_ n6_ n7_ n8_ n9_; clear hb hbox hg; have hnb7 := NB501_90020.out; have hnc7 := NB90020_501.out; have hnb8 := NB501_502.out; have hnc8 := NB502_501.out; have hcz9_0 : w6.cell? ⟨gb501, 0, none⟩ = some (.int .i64 a0_0) := (blk_cell BK501.out 0).trans rfl; have hcz9_1 : w6.cell? ⟨gb501, 1, none⟩ = some (.slice A0_1 l0_1.length c0_1) := (blk_cell BK501.out 1).trans rfl; have hfz9_0 := blk_frozen BK501.out 0; have hfz9_1 := blk_frozen BK501.out 1) | ((with_reducible refine gate_callee (f := 96) rfl ?_); refine goesL_ (some 10) rfl rfl Try.func96 (by kernel_rfl) rfl #[.agg #[.int .i64 a0_0, .slice A0_1 l0_1.length c0_1]] rfl (by (try simp only [List.map_toArray, List.map_cons, List.map_nil]); first | done | rfl | (simp only [List.length_drop, List.length_take]; rfl)) ?_; (with_reducible refine (impl_IsSet.calls a0_0 _ _ l0_1 true _ ?side1 ?side2 A3.out).mono ?_); (case side1 => repeat (first | exact (Kd.C_below HR0_1.out HB.out) | (with_reducible refine Kd.C_alloc ?_ _) | (with_reducible refine Kd.C_drewN ?_ _) | (with_reducible refine Kd.C_drew ?_))); (case side2 => exact HC0_1.out); rintro e w10 ⟨rfl, hb⟩; refine ⟨_, rfl, ?_⟩; have n0_ := Aside0.mk (blk_below (g := g1_0_) (o := .cells #[.slice A1_0_0 l1_0_0.length c1_0_0] 48 (0, 0)) (by (with_reducible repeat (first | refine blk_drewN ?_ _ | refine blk_drew ?_ | refine blk_alloc ?_ _)); exact BK90020.out) hb); have n1_ := Aside0.mk (blk_below (g := gb501) (o := .cells #[.int .i64 a0_0, .slice A0_1 l0_1.length c0_1] 26 (0, 0)) (by (with_reducible repeat (first | refine blk_drewN ?_ _ | refine blk_drew ?_ | refine blk_alloc ?_ _)); exact BK501.out) hb); have n2_ := Aside0.mk (blk_below (g := gb502) (o := .cells #[.int .i64 0, .slice none 0 0] 26 (0, 0)) (by (with_reducible repeat (first | refine blk_drewN ?_ _ | refine blk_drew ?_ | refine blk_alloc ?_ _)); exact BK502.out) hb); have n3_ := Aside0.mk (below_step (by repeat (first | (with_reducible first | exact HB.out | apply below_alloc | apply pw_below_drewN | apply below_drew1 | refine below_set ?_ GE501.out | refine below_set ?_ GE502.out) | exact HB.out)) hb); clear BK90020; clear BK501; clear BK502; clear HB; have BK90020 := n0_; have BK501 := n1_; have BK502 := n2_; have HB := n3_; clear n0_ n1_ n2_ n3_; (try clear hb); (try clear hb2); (try clear hk); (try clear hi)) | ((with_reducible refine gate_dst (N := 13) rfl ?_); refine Kd.R_lit k45 _ 45 ?hg (N := 13) ?hd (xs := ([] : List (S45))) (inner := []) (ok := fun _ => True) (okp := fun _ => True) ?hr ?hp (fun _ hk => hk) trivial (Below.refl _ _) (Nat.le_refl _) (by simp) ?_; (case hd => rfl); (case hg => rfl); (case hr => first | (go_simp; done) | (go_simp; rfl)); (case hp => exact (Reps.none _ _)); intro v505 w11 ho12 hb hg_ hnew_; clear hg_ hnew_; (first | rw [← Ny504.out] at ho12 | (simp only [Int.reduceToNat] at ho12; rw [← Ny504.out] at ho12)); have n0_ := Aside0.mk (Kd.R_lower ho12 (below_size (by repeat (first | (with_reducible first | exact HB.out | apply below_alloc | apply pw_below_drewN | apply below_drew1 | refine below_set ?_ GE501.out | refine below_set ?_ GE502.out) | exact HB.out)))); have n1_ := Aside0.mk (blk_below (g := g1_0_) (o := .cells #[.slice A1_0_0 l1_0_0.length c1_0_0] 48 (0, 0)) (by (with_reducible repeat (first | refine blk_drewN ?_ _ | refine blk_drew ?_ | refine blk_alloc ?_ _)); exact BK90020.out) hb); have n2_ := Aside0.mk (blk_below (g := gb501) (o := .cells #[.int .i64 a0_0, .slice A0_1 l0_1.length c0_1] 26 (0, 0)) (by (with_reducible repeat (first | refine blk_drewN ?_ _ | refine blk_drew ?_ | refine blk_alloc ?_ _)); exact BK501.out) hb); have n3_ := Aside0.mk (blk_below (g := gb502) (o := .cells #[.int .i64 0, .slice none 0 0] 26 (0, 0)) (by (with_reducible repeat (first | refine blk_drewN ?_ _ | refine blk_drew ?_ | refine blk_alloc ?_ _)); exact BK502.out) hb); have n4_ := Aside0.mk (below_step (by repeat (first | (with_reducible first | exact HB.out | apply below_alloc | apply pw_below_drewN | apply below_drew1 | refine below_set ?_ GE501.out | refine below_set ?_ GE502.out) | exact HB.out)) hb); clear BK90020; clear BK501; clear BK502; clear HB; have HO506 := n0_; have BK90020 := n1_; have BK501 := n2_; have BK502 := n3_; have HB := n4_; clear n0_ n1_ n2_ n3_ n4_; clear hb ho12; have hcz13_0 : w11.cell? ⟨gb501, 0, none⟩ = some (.int .i64 a0_0) := (blk_cell BK501.out 0).trans rfl; have hcz13_1 : w11.cell? ⟨gb501, 1, none⟩ = some (.slice A0_1 l0_1.length c0_1) := (blk_cell BK501.out 1).trans rfl; have hfz13_0 := blk_frozen BK501.out 0; have hfz13_1 := blk_frozen BK501.out 1))
  go_loopg [6, 17] k (fun kq v6 v17 w' => ∃ (x6_1 : List (S45)) (x17_1 : Int), v17 = .int .i64 x17_1 ∧ Aside0 (impl_changed_at_impl_RenameColours_2.l0 kq x6_1 l0_1 (l0_1.length : Int) x17_1 a0_0 l0_1 l1_0_0 = some (r1, r2, r3)) ∧ Aside0 (kq ≤ k) ∧ Aside0 (Kd.R k45 45 w' w.heap.size (fun _ => True) v6 x6_1) ∧ Aside0 (w'.heap[g1_0_]? = some (.cells #[(.slice A1_0_0 l1_0_0.length c1_0_0)] 48 (0, 0))) ∧ Aside0 (w'.heap[gb501]? = some (.cells #[.int .i64 a0_0, (.slice A0_1 l0_1.length c0_1)] 26 (0, 0))) ∧ Aside0 (w'.heap[gb502]? = some (.cells #[.int .i64 0, (.slice none 0 0)] 26 (0, 0))) ∧ Aside0 (Below w.heap.size w w'))
  case atStart => exact ⟨(y504), (0), (by first | rfl | (simp; done) | (simp [*]; done)), H', ⟨Nat.le_refl _⟩, ⟨by (with_reducible repeat (first | apply Kd.R_alloc | apply Kd.R_drewN | apply Kd.R_drew)); exact HO506.out⟩, ⟨by (with_reducible repeat (first | refine blk_drewN ?_ _ | refine blk_drew ?_ | refine blk_alloc ?_ _)); exact BK90020.out⟩, ⟨by (with_reducible repeat (first | refine blk_drewN ?_ _ | refine blk_drew ?_ | refine blk_alloc ?_ _)); exact BK501.out⟩, ⟨by (with_reducible repeat (first | refine blk_drewN ?_ _ | refine blk_drew ?_ | refine blk_alloc ?_ _)); exact BK502.out⟩, ⟨by repeat (first | (with_reducible first | exact HB.out | apply below_alloc | apply pw_below_drewN | apply below_drew1 | refine below_set ?_ GE501.out | refine below_set ?_ GE502.out) | exact HB.out)⟩⟩
  case round =>
   clear H'
   try clear c1
   try clear p2
   try clear c4
   try clear c6
   try clear c7
   try clear c8
   try clear c9
   try clear hcz13_0
   try clear hcz13_1
   try clear hcz9_0
   try clear hcz9_1
   try clear hfz13_0
   try clear hfz13_1
   try clear hfz9_0
   try clear hfz9_1
   obtain ⟨x6_1, x17_1, rfl, HA, HK1, HO_6, BK90020, BK501, BK502, HB⟩ := hrel
   cases gk with
   | zero => exact absurd HA.out (by simp [impl_changed_at_impl_RenameColours_2.l0])
   | succ k1 =>
    have H := HA.out
    clear HA
    simp only [impl_changed_at_impl_RenameColours_2.l0] at H
    by_cases c14 : x17_1 < (l0_1.length : Int)
    ·rw [if_pos c14] at H
     have c14b0 : decide (x17_1 < (l0_1.length : Int)) = true := decide_eq_true c14
     clear c14
     by_cases c15 : 0 ≤ x17_1
     ·rw [if_pos c15] at H
      have c15b0 : decide (0 ≤ x17_1) = true := decide_eq_true c15
      clear c15
      by_cases c16 : x17_1 < (l0_1.length : Int)
      ·rw [if_pos c16] at H
       have c16b0 : decide (x17_1 < (l0_1.length : Int)) = true := decide_eq_true c16
       clear c16
       replace H := Option.bind_eq_some_iff.mp H
       obtain ⟨⟨t509, t510, t511, t512⟩, A170, H⟩ := H
       replace H : (if x6_1.length < 4398046511104 then (impl_changed_at_impl_RenameColours_2.l0 k1 (x6_1 ++ [(⟨t509, t510, t511, t512⟩ : S45)]) l0_1 (l0_1.length : Int) (wrap64 (x17_1 + 1)) a0_0 l0_1 l1_0_0) else (none)) = some (r1, r2, r3) := H
       have A17 := Aside0.mk A170
       clear A170
       by_cases c18 : x6_1.length < 4398046511104
       ·rw [if_pos c18] at H
        have LMc18 := Aside0.mk c18
        clear c18
        obtain ⟨y513, hy513⟩ : ∃ y_ : List (S45), y_ = (x6_1 ++ [(⟨t509, t510, t511, t512⟩ : S45)]) := ⟨_, rfl⟩
        replace H : (impl_changed_at_impl_RenameColours_2.l0 k1 y513 l0_1 (l0_1.length : Int) (wrap64 (x17_1 + 1)) a0_0 l0_1 l1_0_0) = some (r1, r2, r3) := by first | (rw [hy513]; with_reducible exact H) | (have H2_ := (Option.bind_some _ _).symm.trans H; rw [hy513]; with_reducible exact H2_) | (have H2_ := (Option.bind_some _ _).symm.trans H; with_reducible exact H2_) | with_reducible exact H | (rw [hy513]; exact H) | exact H
        have Ny513 := Aside0.mk hy513
        clear hy513
        have H' := Aside0.mk H
        clear H
        have p507 : 0 ≤ (x17_1 : Int) := of_decide_eq_true (by first | (with_reducible assumption) | assumption)
        have q507 : x17_1 < (l0_1.length : Int) := of_decide_eq_true (by first | (with_reducible assumption) | assumption)
        obtain ⟨ad507, e507, hx507_0, hx507_1, hx507_2, hx507_3⟩ := at_T45 HR0_1.out x17_1 p507 q507
        cases e507
        replace hx507_0 := (HB.out.cell (World.block_lt_of_cell? w _ hx507_0)).trans hx507_0
        replace hx507_1 := (HB.out.cell (World.block_lt_of_cell? w _ hx507_1)).trans hx507_1
        replace hx507_2 := (HB.out.cell (World.block_lt_of_cell? w _ hx507_2)).trans hx507_2
        replace hx507_3 := (HB.out.cell (World.block_lt_of_cell? w _ hx507_3)).trans hx507_3
        replace p507 := eq_true p507
        replace q507 := eq_true q507
        go_wp2_with (first | ((with_reducible refine gate_dst (N := 8) rfl ?_); refine box_event ?hg (N := 8) ?hd (cs := #[.int .i64 0, .int .i64 0, .int .i64 0, .int .i64 0]) (t := 45) ?hr ?_; (case hd => rfl); (case hg => rfl); (case hr => first | (go_simp; done) | (go_simp; rfl)); intro gb508 hg w19 hbox hb; have n0_ := Aside0.mk (Kd.R_below (Kd.R_elderB (by (with_reducible repeat (first | apply Kd.R_alloc | apply Kd.R_drewN | apply Kd.R_drew)); exact HO_6.out) gb508 (Nat.le_of_eq hg.symm)) hb); have n1_ := Aside0.mk (blk_below (g := g1_0_) (o := .cells #[.slice A1_0_0 l1_0_0.length c1_0_0] 48 (0, 0)) (by (with_reducible repeat (first | refine blk_drewN ?_ _ | refine blk_drew ?_ | refine blk_alloc ?_ _)); exact BK90020.out) hb); have n2_ := Aside0.mk (blk_below (g := gb501) (o := .cells #[.int .i64 a0_0, .slice (some ad507) l0_1.length c0_1] 26 (0, 0)) (by (with_reducible repeat (first | refine blk_drewN ?_ _ | refine blk_drew ?_ | refine blk_alloc ?_ _)); exact BK501.out) hb); have n3_ := Aside0.mk (blk_below (g := gb502) (o := .cells #[.int .i64 0, .slice none 0 0] 26 (0, 0)) (by (with_reducible repeat (first | refine blk_drewN ?_ _ | refine blk_drew ?_ | refine blk_alloc ?_ _)); exact BK502.out) hb); have n4_ := Aside0.mk (below_step (by repeat (first | (with_reducible first | exact HB.out | apply below_alloc | apply pw_below_drewN | apply below_drew1 | refine below_set ?_ GE501.out | refine below_set ?_ GE502.out) | exact HB.out)) hb); have n5_ := Aside0.mk (hbox); have n6_ := Aside0.mk ((by rw [hg]; exact (below_size (by repeat (first | (with_reducible first | exact HB.out | apply below_alloc | apply pw_below_drewN | apply below_drew1 | refine below_set ?_ GE501.out | refine below_set ?_ GE502.out) | exact HB.out))) : w.heap.size ≤ gb508)); have n7_ := Aside0.mk ((by rw [hg]; exact (below_size (by repeat (first | (with_reducible first | exact HB.out | apply below_alloc | apply pw_below_drewN | apply below_drew1 | refine below_set ?_ GE501.out | refine below_set ?_ GE502.out) | exact HB.out))) : w.heap.size ≤ gb508)); have n8_ := Aside0.mk ((by rw [hg]; exact Nat.ne_of_lt (blk_lt (g := g1_0_) (o := .cells #[.slice A1_0_0 l1_0_0.length c1_0_0] 48 (0, 0)) (by (with_reducible repeat (first | refine blk_drewN ?_ _ | refine blk_drew ?_ | refine blk_alloc ?_ _)); exact BK90020.out)) : g1_0_ ≠ gb508)); have n9_ := Aside0.mk ((by rw [hg]; exact Nat.ne_of_gt (blk_lt (g := g1_0_) (o := .cells #[.slice A1_0_0 l1_0_0.length c1_0_0] 48 (0, 0)) (by (with_reducible repeat (first | refine blk_drewN ?_ _ | refine blk_drew ?_ | refine blk_alloc ?_ _)); exact BK90020.out)) : gb508 ≠ g1_0_)); have n10_ := Aside0.mk ((by rw [hg]; exact Nat.ne_of_lt (blk_lt (g := gb501) (o := .cells #[.int .i64 a0_0, .slice (some ad507) l0_1.length c0_1] 26 (0, 0)) (by (with_reducible repeat (first | refine blk_drewN ?_ _ | refine blk_drew ?_ | refine blk_alloc ?_ _)); exact BK501.out)) : gb501 ≠ gb508)); have n11_ := Aside0.mk ((by rw [hg]; exact Nat.ne_of_gt (blk_lt (g := gb501) (o := .cells #[.int .i64 a0_0, .slice (some ad507) l0_1.length c0_1] 26 (0, 0)) (by (with_reducible repeat (first | refine blk_drewN ?_ _ | refine blk_drew ?_ | refine blk_alloc ?_ _)); exact BK501.out)) : gb508 ≠ gb501)); have n12_ := Aside0.mk ((by rw [hg]; exact Nat.ne_of_lt (blk_lt (g := gb502) (o := .cells #[.int .i64 0, .slice none 0 0] 26 (0, 0)) (by (with_reducible repeat (first | refine blk_drewN ?_ _ | refine blk_drew ?_ | refine blk_alloc ?_ _)); exact BK502.out)) : gb502 ≠ gb508)); have n13_ := Aside0.mk ((by rw [hg]; exact Nat.ne_of_gt (blk_lt (g := gb502) (o := .cells #[.int .i64 0, .slice none 0 0] 26 (0, 0)) (by (with_reducible repeat (first | refine blk_drewN ?_ _ | refine blk_drew ?_ | refine blk_alloc ?_ _)); exact BK502.out)) : gb508 ≠ gb502)); clear HO_6; clear BK90020; clear BK501; clear BK502; clear HB; have HO_6 := n0_; have BK90020 := n1_; have BK501 := n2_; have BK502 := n3_; have HB := n4_; have BK508 := n5_; have GW508 := n6_; have GE508 := n7_; have NB90020_508 := n8_; have NB508_90020 := n9_; have NB501_508 := n10_; have NB508_501 := n11_; have NB502_508 := n12_; have NB508_502 := n13_; clear n0_ n1_ n2_ n3_ n4_ n5_ n6_ n7_ n8_ n9_ n10_ n11_ n12_ n13_; clear hb hbox hg; have hnb20 := NB508_90020.out; have hnc20 := NB90020_508.out; have hnb21 := NB508_501.out; have hnc21 := NB501_508.out; have hnb22 := NB508_502.out; have hnc22 := NB502_508.out; have hcz23_0 : w19.cell? ⟨gb508, 0, none⟩ = some (.int .i64 0) := (blk_cell BK508.out 0).trans rfl; have hcz23_1 : w19.cell? ⟨gb508, 1, none⟩ = some (.int .i64 0) := (blk_cell BK508.out 1).trans rfl; have hcz23_2 : w19.cell? ⟨gb508, 2, none⟩ = some (.int .i64 0) := (blk_cell BK508.out 2).trans rfl; have hcz23_3 : w19.cell? ⟨gb508, 3, none⟩ = some (.int .i64 0) := (blk_cell BK508.out 3).trans rfl; have hfz23_0 := blk_frozen BK508.out 0; have hfz23_1 := blk_frozen BK508.out 1; have hfz23_2 := blk_frozen BK508.out 2; have hfz23_3 := blk_frozen BK508.out 3))
        (with_reducible refine (impl_RenameColours_2.calls ((rd_T45 l0_1 x17_1).f0) ((rd_T45 l0_1 x17_1).f1) ((rd_T45 l0_1 x17_1).f2) ((rd_T45 l0_1 x17_1).f3) g1_0_ A1_0_0 c1_0_0 l1_0_0 t509 t510 t511 t512 _ ?side1_q25 ?side2_q25 ?side3_q25 A17.out).mono ?_); (case side1_q25 => exact Kd.C_below HR1_0_0.out (by repeat (first | (with_reducible first | exact HB.out | apply below_alloc | apply pw_below_drewN | apply below_drew1 | refine below_set ?_ GE501.out | refine below_set ?_ GE502.out | refine below_set ?_ GE508.out) | exact HB.out))); (case side2_q25 => exact HC1_0_0.out); (case side3_q25 => exact (by (with_reducible repeat (first | refine blk_drewN ?_ _ | refine blk_drew ?_ | refine blk_alloc ?_ _)); refine blk_far ?_ NB90020_508.out _; (with_reducible repeat (first | refine blk_drewN ?_ _ | refine blk_drew ?_ | refine blk_alloc ?_ _)); refine blk_far ?_ NB90020_508.out _; (with_reducible repeat (first | refine blk_drewN ?_ _ | refine blk_drew ?_ | refine blk_alloc ?_ _)); refine blk_far ?_ NB90020_508.out _; (with_reducible repeat (first | refine blk_drewN ?_ _ | refine blk_drew ?_ | refine blk_alloc ?_ _)); refine blk_far ?_ NB90020_508.out _; (with_reducible repeat (first | refine blk_drewN ?_ _ | refine blk_drew ?_ | refine blk_alloc ?_ _)); exact BK90020.out))
        rintro e w24 ⟨rfl, hb⟩
        have n0_ := Aside0.mk (Kd.R_below (by (with_reducible repeat (first | apply Kd.R_alloc | apply Kd.R_drewN | apply Kd.R_drew)); exact (Kd.R_mono (Kd.R_far (p := ⟨gb508, 3, none⟩) (Kd.R_far (p := ⟨gb508, 2, none⟩) (Kd.R_far (p := ⟨gb508, 1, none⟩) (Kd.R_far (p := ⟨gb508, 0, none⟩) (Kd.R_mono HO_6.out (fun k_ hk => (⟨hk, hk.2⟩ : _ ∧ k_ ≠ gb508))) (fun _ hk => hk.2) (.int .i64 ((rd_T45 l0_1 x17_1).f0))) (fun _ hk => hk.2) (.int .i64 ((rd_T45 l0_1 x17_1).f1))) (fun _ hk => hk.2) (.int .i64 ((rd_T45 l0_1 x17_1).f2))) (fun _ hk => hk.2) (.int .i64 ((rd_T45 l0_1 x17_1).f3))) (fun _ h_ => h_.1))) hb)
        have n1_ := Aside0.mk (blk_below (g := g1_0_) (o := .cells #[.slice A1_0_0 l1_0_0.length c1_0_0] 48 (0, 0)) (by (with_reducible repeat (first | refine blk_drewN ?_ _ | refine blk_drew ?_ | refine blk_alloc ?_ _)); refine blk_far ?_ NB90020_508.out _; (with_reducible repeat (first | refine blk_drewN ?_ _ | refine blk_drew ?_ | refine blk_alloc ?_ _)); refine blk_far ?_ NB90020_508.out _; (with_reducible repeat (first | refine blk_drewN ?_ _ | refine blk_drew ?_ | refine blk_alloc ?_ _)); refine blk_far ?_ NB90020_508.out _; (with_reducible repeat (first | refine blk_drewN ?_ _ | refine blk_drew ?_ | refine blk_alloc ?_ _)); refine blk_far ?_ NB90020_508.out _; (with_reducible repeat (first | refine blk_drewN ?_ _ | refine blk_drew ?_ | refine blk_alloc ?_ _)); exact BK90020.out) hb)
        have n2_ := Aside0.mk (blk_below (g := gb501) (o := .cells #[.int .i64 a0_0, .slice (some ad507) l0_1.length c0_1] 26 (0, 0)) (by (with_reducible repeat (first | refine blk_drewN ?_ _ | refine blk_drew ?_ | refine blk_alloc ?_ _)); refine blk_far ?_ NB501_508.out _; (with_reducible repeat (first | refine blk_drewN ?_ _ | refine blk_drew ?_ | refine blk_alloc ?_ _)); refine blk_far ?_ NB501_508.out _; (with_reducible repeat (first | refine blk_drewN ?_ _ | refine blk_drew ?_ | refine blk_alloc ?_ _)); refine blk_far ?_ NB501_508.out _; (with_reducible repeat (first | refine blk_drewN ?_ _ | refine blk_drew ?_ | refine blk_alloc ?_ _)); refine blk_far ?_ NB501_508.out _; (with_reducible repeat (first | refine blk_drewN ?_ _ | refine blk_drew ?_ | refine blk_alloc ?_ _)); exact BK501.out) hb)
        have n3_ := Aside0.mk (blk_below (g := gb502) (o := .cells #[.int .i64 0, .slice none 0 0] 26 (0, 0)) (by (with_reducible repeat (first | refine blk_drewN ?_ _ | refine blk_drew ?_ | refine blk_alloc ?_ _)); refine blk_far ?_ NB502_508.out _; (with_reducible repeat (first | refine blk_drewN ?_ _ | refine blk_drew ?_ | refine blk_alloc ?_ _)); refine blk_far ?_ NB502_508.out _; (with_reducible repeat (first | refine blk_drewN ?_ _ | refine blk_drew ?_ | refine blk_alloc ?_ _)); refine blk_far ?_ NB502_508.out _; (with_reducible repeat (first | refine blk_drewN ?_ _ | refine blk_drew ?_ | refine blk_alloc ?_ _)); refine blk_far ?_ NB502_508.out _; (with_reducible repeat (first | refine blk_drewN ?_ _ | refine blk_drew ?_ | refine blk_alloc ?_ _)); exact BK502.out) hb)
        have n4_ := Aside0.mk (blk_below (g := gb508) (o := .cells #[.int .i64 ((rd_T45 l0_1 x17_1).f0), .int .i64 ((rd_T45 l0_1 x17_1).f1), .int .i64 ((rd_T45 l0_1 x17_1).f2), .int .i64 ((rd_T45 l0_1 x17_1).f3)] 45 (0, 0)) (by (with_reducible repeat (first | refine blk_drewN ?_ _ | refine blk_drew ?_ | refine blk_alloc ?_ _)); refine blk_put (cs := #[.int .i64 ((rd_T45 l0_1 x17_1).f0), .int .i64 ((rd_T45 l0_1 x17_1).f1), .int .i64 ((rd_T45 l0_1 x17_1).f2), .int .i64 0]) ?_ 3 _ rfl; (with_reducible repeat (first | refine blk_drewN ?_ _ | refine blk_drew ?_ | refine blk_alloc ?_ _)); refine blk_put (cs := #[.int .i64 ((rd_T45 l0_1 x17_1).f0), .int .i64 ((rd_T45 l0_1 x17_1).f1), .int .i64 0, .int .i64 0]) ?_ 2 _ rfl; (with_reducible repeat (first | refine blk_drewN ?_ _ | refine blk_drew ?_ | refine blk_alloc ?_ _)); refine blk_put (cs := #[.int .i64 ((rd_T45 l0_1 x17_1).f0), .int .i64 0, .int .i64 0, .int .i64 0]) ?_ 1 _ rfl; (with_reducible repeat (first | refine blk_drewN ?_ _ | refine blk_drew ?_ | refine blk_alloc ?_ _)); refine blk_put (cs := #[.int .i64 0, .int .i64 0, .int .i64 0, .int .i64 0]) ?_ 0 _ rfl; (with_reducible repeat (first | refine blk_drewN ?_ _ | refine blk_drew ?_ | refine blk_alloc ?_ _)); exact BK508.out) hb)
        have n5_ := Aside0.mk (below_step (by repeat (first | (with_reducible first | exact HB.out | apply below_alloc | apply pw_below_drewN | apply below_drew1 | refine below_set ?_ GE501.out | refine below_set ?_ GE502.out | refine below_set ?_ GE508.out) | exact HB.out)) hb)
        clear HO_6
        clear BK90020
        clear BK501
        clear BK502
        clear BK508
        clear HB
        have HO_6 := n0_
        have BK90020 := n1_
        have BK501 := n2_
        have BK502 := n3_
        have BK508 := n4_
        have HB := n5_
        clear n0_ n1_ n2_ n3_ n4_ n5_
        (try clear hb)
        (try clear hb2)
        (try clear hk)
        (try clear hi)
        go_wp2_with (first | ((with_reducible refine gate_builtin (b := .append) (xs := #[.tmp 21, .tmp 25]) rfl ?_); at_builtin; refine Kd.R_append k45 (w0 := w) w.heap.size rfl (.tmp 21) (.tmp 25) 24 45 (.agg #[(.int .i64 0), (.int .i64 0), (.int .i64 0), (.int .i64 0)]) 32 rfl Try.underlying24 info45 rfl (by decide) (by omega) u6 x6_1 (⟨t509, t510, t511, t512⟩ : S45) [.int .i64 t509, .int .i64 t510, .int .i64 t511, .int .i64 t512] (fun k_ => k_ ≠ gb508) (fun _ => False) rfl rfl ?aP (fun _ hk => hk.elim) ?aF ?aO ?aB ?aS ?aL ?_; (case aP => exact k45_mkM _ _ _ (⟨t509, t510, t511, t512⟩ : S45)); (case aB => exact (by repeat (first | (with_reducible first | exact HB.out | apply below_alloc | apply pw_below_drewN | apply below_drew1 | refine below_set ?_ GE501.out | refine below_set ?_ GE502.out | refine below_set ?_ GE508.out) | exact HB.out))); (case aF => exact (fun k_ hk => Kd.freshB (g := gb508) (o := .cells #[.int .i64 ((rd_T45 l0_1 x17_1).f0), .int .i64 ((rd_T45 l0_1 x17_1).f1), .int .i64 ((rd_T45 l0_1 x17_1).f2), .int .i64 ((rd_T45 l0_1 x17_1).f3)] 45 (0, 0)) (by (with_reducible repeat (first | refine blk_drewN ?_ _ | refine blk_drew ?_ | refine blk_alloc ?_ _)); exact BK508.out) k_ hk)); (case aO => exact (by (with_reducible repeat (first | apply Kd.R_alloc | apply Kd.R_drewN | apply Kd.R_drew)); exact Kd.R_mono HO_6.out (fun _ hk => hk.2))); (case aS => exact (below_size (by repeat (first | (with_reducible first | exact HB.out | apply below_alloc | apply pw_below_drewN | apply below_drew1 | refine below_set ?_ GE501.out | refine below_set ?_ GE502.out | refine below_set ?_ GE508.out) | exact HB.out)))); (case aL => have := LMc18.out; omega); intro v514 w26 ho hb hg hat; rw [← Ny513.out] at ho; have n0_ := Aside0.mk (blk_grown (g := g1_0_) (o := .cells #[.slice A1_0_0 l1_0_0.length c1_0_0] 48 (0, 0)) (by (with_reducible repeat (first | refine blk_drewN ?_ _ | refine blk_drew ?_ | refine blk_alloc ?_ _)); exact BK90020.out) hg (Kd.R_ne HO_6.out BK90020.out (by decide))); have n1_ := Aside0.mk (blk_grown (g := gb501) (o := .cells #[.int .i64 a0_0, .slice (some ad507) l0_1.length c0_1] 26 (0, 0)) (by (with_reducible repeat (first | refine blk_drewN ?_ _ | refine blk_drew ?_ | refine blk_alloc ?_ _)); exact BK501.out) hg (Kd.R_ne HO_6.out BK501.out (by decide))); have n2_ := Aside0.mk (blk_grown (g := gb502) (o := .cells #[.int .i64 0, .slice none 0 0] 26 (0, 0)) (by (with_reducible repeat (first | refine blk_drewN ?_ _ | refine blk_drew ?_ | refine blk_alloc ?_ _)); exact BK502.out) hg (Kd.R_ne HO_6.out BK502.out (by decide))); have n3_ := Aside0.mk (blk_grown (g := gb508) (o := .cells #[.int .i64 ((rd_T45 l0_1 x17_1).f0), .int .i64 ((rd_T45 l0_1 x17_1).f1), .int .i64 ((rd_T45 l0_1 x17_1).f2), .int .i64 ((rd_T45 l0_1 x17_1).f3)] 45 (0, 0)) (by (with_reducible repeat (first | refine blk_drewN ?_ _ | refine blk_drew ?_ | refine blk_alloc ?_ _)); exact BK508.out) hg (Kd.R_away HO_6.out (fun _ hk => hk.2))); have n4_ := Aside0.mk (hb); have n5_ := Aside0.mk (ho); clear BK90020; clear BK501; clear BK502; clear BK508; clear HB; clear HO_6; have BK90020 := n0_; have BK501 := n1_; have BK502 := n2_; have BK508 := n3_; have HB := n4_; have HO515 := n5_; clear n0_ n1_ n2_ n3_ n4_ n5_; clear ho hb hg hat))
        go_roundg k1
        case measure => have := HK1.out; omega
        case rel => exact ⟨(y513), (wrap64 (x17_1 + 1)), (by first | rfl | (simp; done) | (simp [*]; done)), H', ⟨by have := HK1.out; omega⟩, ⟨by (with_reducible repeat (first | apply Kd.R_alloc | apply Kd.R_drewN | apply Kd.R_drew)); exact Kd.R_mono HO515.out (fun _ hk => trivial)⟩, ⟨by (with_reducible repeat (first | refine blk_drewN ?_ _ | refine blk_drew ?_ | refine blk_alloc ?_ _)); exact BK90020.out⟩, ⟨by (with_reducible repeat (first | refine blk_drewN ?_ _ | refine blk_drew ?_ | refine blk_alloc ?_ _)); exact BK501.out⟩, ⟨by (with_reducible repeat (first | refine blk_drewN ?_ _ | refine blk_drew ?_ | refine blk_alloc ?_ _)); exact BK502.out⟩, ⟨by repeat (first | (with_reducible first | exact HB.out | apply below_alloc | apply pw_below_drewN | apply below_drew1 | refine below_set ?_ GE501.out | refine below_set ?_ GE502.out | refine below_set ?_ GE508.out) | exact HB.out)⟩⟩
       ·rw [if_neg c18] at H
        exact absurd H (by simp)
      ·rw [if_neg c16] at H
       exact absurd H (by simp)
     ·rw [if_neg c15] at H
      exact absurd H (by simp)
    ·rw [if_neg c14] at H
     have c14b0 : decide (x17_1 < (l0_1.length : Int)) = false := decide_eq_false c14
     clear c14
     replace H := Option.bind_eq_some_iff.mp H
     obtain ⟨⟨t516, t517, t520⟩, A270, H⟩ := H
     replace H : (some (t516, t517, t520)) = some (r1, r2, r3) := H
     have A27 := Aside0.mk A270
     clear A270
     simp only [Option.some.injEq, Prod.mk.injEq] at H
     obtain ⟨rfl, rfl, rfl⟩ := H
     have hnb28 := NB501_90020.out
     have hnc28 := NB90020_501.out
     have hnb29 := NB501_502.out
     have hnc29 := NB502_501.out
     have hcz30_0 : wr.cell? ⟨gb501, 0, none⟩ = some (.int .i64 a0_0) := (blk_cell BK501.out 0).trans rfl
     have hcz30_1 : wr.cell? ⟨gb501, 1, none⟩ = some (.slice A0_1 l0_1.length c0_1) := (blk_cell BK501.out 1).trans rfl
     have hfz30_0 := blk_frozen BK501.out 0
     have hfz30_1 := blk_frozen BK501.out 1
     obtain ⟨Ao31, co31, eo31⟩ := Kd.R_slice HO_6.out
     subst eo31
     go_wp2_with (first | ((with_reducible refine gate_callee (f := 57) rfl ?_); refine goesL_ (some 31) rfl rfl Try.func57 (by kernel_rfl) rfl #[.int .i64 a0_0, .slice Ao31 x6_1.length co31] rfl (by (try simp only [List.map_toArray, List.map_cons, List.map_nil]); first | done | rfl | (simp only [List.length_drop, List.length_take]; rfl)) ?_; (with_reducible refine (impl_limited.calls a0_0 _ _ x6_1 t516 t517 t520 _ ?side1 ?side2 A27.out).mono ?_); (case side1 => repeat (first | exact (Kd.R_reads' HO_6.out).2.2 | (with_reducible refine Kd.C_alloc ?_ _) | (with_reducible refine Kd.C_drewN ?_ _) | (with_reducible refine Kd.C_drew ?_))); (case side2 => exact (Kd.R_reads' HO_6.out).2.1); rintro e w32 ⟨v518, rfl, ho0, hb⟩; refine ⟨_, rfl, ?_⟩; have n0_ := Aside0.mk (Kd.R_elder' (by (with_reducible repeat (first | apply Kd.R_alloc | apply Kd.R_drewN | apply Kd.R_drew)); exact HO_6.out) (Kd.R_base ho0) hb); have n1_ := Aside0.mk (Kd.R_lower (Kd.R_new' ho0 (Kd.R_lt (by (with_reducible repeat (first | apply Kd.R_alloc | apply Kd.R_drewN | apply Kd.R_drew)); exact HO_6.out))) (below_size (by repeat (first | (with_reducible first | exact HB.out | apply below_alloc | apply pw_below_drewN | apply below_drew1 | refine below_set ?_ GE501.out | refine below_set ?_ GE502.out) | exact HB.out)))); have n2_ := Aside0.mk (blk_below (g := g1_0_) (o := .cells #[.slice A1_0_0 l1_0_0.length c1_0_0] 48 (0, 0)) (by (with_reducible repeat (first | refine blk_drewN ?_ _ | refine blk_drew ?_ | refine blk_alloc ?_ _)); exact BK90020.out) hb); have n3_ := Aside0.mk (blk_below (g := gb501) (o := .cells #[.int .i64 a0_0, .slice A0_1 l0_1.length c0_1] 26 (0, 0)) (by (with_reducible repeat (first | refine blk_drewN ?_ _ | refine blk_drew ?_ | refine blk_alloc ?_ _)); exact BK501.out) hb); have n4_ := Aside0.mk (blk_below (g := gb502) (o := .cells #[.int .i64 0, .slice none 0 0] 26 (0, 0)) (by (with_reducible repeat (first | refine blk_drewN ?_ _ | refine blk_drew ?_ | refine blk_alloc ?_ _)); exact BK502.out) hb); have n5_ := Aside0.mk (below_step (by repeat (first | (with_reducible first | exact HB.out | apply below_alloc | apply pw_below_drewN | apply below_drew1 | refine below_set ?_ GE501.out | refine below_set ?_ GE502.out) | exact HB.out)) hb); clear HO_6; clear BK90020; clear BK501; clear BK502; clear HB; have HO_6 := n0_; have HO519 := n1_; have BK90020 := n2_; have BK501 := n3_; have BK502 := n4_; have HB := n5_; clear n0_ n1_ n2_ n3_ n4_ n5_; (try clear hb); (try clear hb2); (try clear hk); (try clear hi); (try clear ho0); have hnb33 := NB502_90020.out; have hnc33 := NB90020_502.out; have hcz34_0 : w32.cell? ⟨gb502, 0, none⟩ = some (.int .i64 0) := (blk_cell BK502.out 0).trans rfl; have hcz34_1 : w32.cell? ⟨gb502, 1, none⟩ = some (.slice none 0 0) := (blk_cell BK502.out 1).trans rfl; have hfz34_0 := blk_frozen BK502.out 0; have hfz34_1 := blk_frozen BK502.out 1; obtain ⟨Ao35, co35, eo35⟩ := Kd.R_slice HO519.out; subst eo35))
     refine bodyPost_ret (results_ct rfl _ _ gb502 26 #[.int .i64 t516, .slice Ao35 t517.length co35] (0, 0) _ rfl (by (with_reducible repeat (first | refine blk_drewN ?_ _ | refine blk_drew ?_ | refine blk_alloc ?_ _)); refine blk_put (cs := #[.int .i64 t516, .slice none 0 0]) ?_ 1 _ rfl; (with_reducible repeat (first | refine blk_drewN ?_ _ | refine blk_drew ?_ | refine blk_alloc ?_ _)); refine blk_put (cs := #[.int .i64 0, .slice none 0 0]) ?_ 0 _ rfl; (with_reducible repeat (first | refine blk_drewN ?_ _ | refine blk_drew ?_ | refine blk_alloc ?_ _)); exact BK502.out) Try.underlying26 rfl (by kernel_rfl)) rfl ?_
     exact ⟨_, by first | rfl | (simp [errW_none, errW_some] <;> rfl) | (simp [*, errW_none, errW_some] <;> rfl), by (with_reducible repeat (first | apply Kd.R_alloc | apply Kd.R_drewN | apply Kd.R_drew)); exact Kd.R_mono (Kd.R_far (p := ⟨gb502, 1, none⟩) (Kd.R_far (p := ⟨gb502, 0, none⟩) (Kd.R_types HO519.out BK502.out (by decide)) (fun _ hk => hk.2) (.int .i64 t516)) (fun _ hk => hk.2) (.slice Ao35 t517.length co35)) (fun _ hk => trivial), by repeat (first | (with_reducible first | exact HB.out | apply below_alloc | apply pw_below_drewN | apply below_drew1 | refine below_set ?_ GE501.out | refine below_set ?_ GE502.out) | exact HB.out)⟩
 ·replace c4 := Bool.eq_false_iff.mpr c4
  subst c4
  have H1 : (some (0, ([] : List (S45)), 1)) = some (r1, r2, r3) := by rw [if_neg (show ¬ (false = true) by decide)] at H; exact H
  clear H
  have H := H1
  clear H1
  simp only [Option.some.injEq, Prod.mk.injEq] at H
  obtain ⟨rfl, rfl, rfl⟩ := H
  go_enter Try.func62, Try.ntmps62
  go_wp2_with (first | ((with_reducible refine gate_dst (N := 2) rfl ?_); refine box_event ?hg (N := 2) ?hd (cs := #[.int .i64 a0_0, .slice A0_1 l0_1.length c0_1]) (t := 26) ?hr ?_; (case hd => rfl); (case hg => rfl); (case hr => first | (go_simp; done) | (go_simp; rfl)); intro gb501 hg w36 hbox hb; have n0_ := Aside0.mk (blk_below (g := g1_0_) (o := .cells #[.slice A1_0_0 l1_0_0.length c1_0_0] 48 (0, 0)) (by (with_reducible repeat (first | refine blk_drewN ?_ _ | refine blk_drew ?_ | refine blk_alloc ?_ _)); exact BK90020.out) hb); have n1_ := Aside0.mk (below_step (by repeat (first | (with_reducible first | exact HB.out | apply below_alloc | apply pw_below_drewN | apply below_drew1) | exact HB.out)) hb); have n2_ := Aside0.mk (hbox); have n3_ := Aside0.mk ((by rw [hg]; exact (below_size (by repeat (first | (with_reducible first | exact HB.out | apply below_alloc | apply pw_below_drewN | apply below_drew1) | exact HB.out))) : w.heap.size ≤ gb501)); have n4_ := Aside0.mk ((by rw [hg]; exact (below_size (by repeat (first | (with_reducible first | exact HB.out | apply below_alloc | apply pw_below_drewN | apply below_drew1) | exact HB.out))) : w.heap.size ≤ gb501)); have n5_ := Aside0.mk ((by rw [hg]; exact Nat.ne_of_lt (blk_lt (g := g1_0_) (o := .cells #[.slice A1_0_0 l1_0_0.length c1_0_0] 48 (0, 0)) (by (with_reducible repeat (first | refine blk_drewN ?_ _ | refine blk_drew ?_ | refine blk_alloc ?_ _)); exact BK90020.out)) : g1_0_ ≠ gb501)); have n6_ := Aside0.mk ((by rw [hg]; exact Nat.ne_of_gt (blk_lt (g := g1_0_) (o := .cells #[.slice A1_0_0 l1_0_0.length c1_0_0] 48 (0, 0)) (by (with_reducible repeat (first | refine blk_drewN ?_ _ | refine blk_drew ?_ | refine blk_alloc ?_ _)); exact BK90020.out)) : gb501 ≠ g1_0_)); clear BK90020; clear HB; have BK90020 := n0_; have HB := n1_; have BK501 := n2_; have GW501 := n3_; have GE501 := n4_; have NB90020_501 := n5_; have NB501_90020 := n6_; clear n0_ n1_ n2_ n3_ n4_ n5_ n6_; clear hb hbox hg) | ((with_reducible refine gate_dst (N := 4) rfl ?_); refine box_event ?hg (N := 4) ?hd (cs := #[.int .i64 0, .slice none 0 0]) (t := 26) ?hr ?_; (case hd => rfl); (case hg => rfl); (case hr => first | (go_simp; done) | (go_simp; rfl)); intro gb502 hg w37 hbox hb; have n0_ := Aside0.mk (blk_below (g := g1_0_) (o := .cells #[.slice A1_0_0 l1_0_0.length c1_0_0] 48 (0, 0)) (by (with_reducible repeat (first | refine blk_drewN ?_ _ | refine blk_drew ?_ | refine blk_alloc ?_ _)); exact BK90020.out) hb); have n1_ := Aside0.mk (blk_below (g := gb501) (o := .cells #[.int .i64 a0_0, .slice A0_1 l0_1.length c0_1] 26 (0, 0)) (by (with_reducible repeat (first | refine blk_drewN ?_ _ | refine blk_drew ?_ | refine blk_alloc ?_ _)); exact BK501.out) hb); have n2_ := Aside0.mk (below_step (by repeat (first | (with_reducible first | exact HB.out | apply below_alloc | apply pw_below_drewN | apply below_drew1 | refine below_set ?_ GE501.out) | exact HB.out)) hb); have n3_ := Aside0.mk (hbox); have n4_ := Aside0.mk ((by rw [hg]; exact (below_size (by repeat (first | (with_reducible first | exact HB.out | apply below_alloc | apply pw_below_drewN | apply below_drew1 | refine below_set ?_ GE501.out) | exact HB.out))) : w.heap.size ≤ gb502)); have n5_ := Aside0.mk ((by rw [hg]; exact (below_size (by repeat (first | (with_reducible first | exact HB.out | apply below_alloc | apply pw_below_drewN | apply below_drew1 | refine below_set ?_ GE501.out) | exact HB.out))) : w.heap.size ≤ gb502)); have n6_ := Aside0.mk ((by rw [hg]; exact Nat.ne_of_lt (blk_lt (g := g1_0_) (o := .cells #[.slice A1_0_0 l1_0_0.length c1_0_0] 48 (0, 0)) (by (with_reducible repeat (first | refine blk_drewN ?_ _ | refine blk_drew ?_ | refine blk_alloc ?_ _)); exact BK90020.out)) : g1_0_ ≠ gb502)); have n7_ := Aside0.mk ((by rw [hg]; exact Nat.ne_of_gt (blk_lt (g := g1_0_) (o := .cells #[.slice A1_0_0 l1_0_0.length c1_0_0] 48 (0, 0)) (by (with_reducible repeat (first | refine blk_drewN ?_ _ | refine blk_drew ?_ | refine blk_alloc ?_ _)); exact BK90020.out)) : gb502 ≠ g1_0_)); have n8_ := Aside0.mk ((by rw [hg]; exact Nat.ne_of_lt (blk_lt (g := gb501) (o := .cells #[.int .i64 a0_0, .slice A0_1 l0_1.length c0_1] 26 (0, 0)) (by (with_reducible repeat (first | refine blk_drewN ?_ _ | refine blk_drew ?_ | refine blk_alloc ?_ _)); exact BK501.out)) : gb501 ≠ gb502)); have n9_ := Aside0.mk ((by rw [hg]; exact Nat.ne_of_gt (blk_lt (g := gb501) (o := .cells #[.int .i64 a0_0, .slice A0_1 l0_1.length c0_1] 26 (0, 0)) (by (with_reducible repeat (first | refine blk_drewN ?_ _ | refine blk_drew ?_ | refine blk_alloc ?_ _)); exact BK501.out)) : gb502 ≠ gb501)); clear BK90020; clear BK501; clear HB; have BK90020 := n0_; have BK501 := n1_; have HB := n2_; have BK502 := n3_; have GW502 := n4_; have GE502 := n5_; have NB90020_502 := n6_; have NB502_90020 := n7_; have NB501_502 := n8_; have NB502_501 := n9_; clear n0_ n1_ n2_ n3_ n4_ n5_ n6_ n7_ n8_ n9_; clear hb hbox hg; have hnb38 := NB501_90020.out; have hnc38 := NB90020_501.out; have hnb39 := NB501_502.out; have hnc39 := NB502_501.out; have hcz40_0 : w37.cell? ⟨gb501, 0, none⟩ = some (.int .i64 a0_0) := (blk_cell BK501.out 0).trans rfl; have hcz40_1 : w37.cell? ⟨gb501, 1, none⟩ = some (.slice A0_1 l0_1.length c0_1) := (blk_cell BK501.out 1).trans rfl; have hfz40_0 := blk_frozen BK501.out 0; have hfz40_1 := blk_frozen BK501.out 1) | ((with_reducible refine gate_callee (f := 96) rfl ?_); refine goesL_ (some 10) rfl rfl Try.func96 (by kernel_rfl) rfl #[.agg #[.int .i64 a0_0, .slice A0_1 l0_1.length c0_1]] rfl (by (try simp only [List.map_toArray, List.map_cons, List.map_nil]); first | done | rfl | (simp only [List.length_drop, List.length_take]; rfl)) ?_; (with_reducible refine (impl_IsSet.calls a0_0 _ _ l0_1 false _ ?side1 ?side2 A3.out).mono ?_); (case side1 => repeat (first | exact (Kd.C_below HR0_1.out HB.out) | (with_reducible refine Kd.C_alloc ?_ _) | (with_reducible refine Kd.C_drewN ?_ _) | (with_reducible refine Kd.C_drew ?_))); (case side2 => exact HC0_1.out); rintro e w41 ⟨rfl, hb⟩; refine ⟨_, rfl, ?_⟩; have n0_ := Aside0.mk (blk_below (g := g1_0_) (o := .cells #[.slice A1_0_0 l1_0_0.length c1_0_0] 48 (0, 0)) (by (with_reducible repeat (first | refine blk_drewN ?_ _ | refine blk_drew ?_ | refine blk_alloc ?_ _)); exact BK90020.out) hb); have n1_ := Aside0.mk (blk_below (g := gb501) (o := .cells #[.int .i64 a0_0, .slice A0_1 l0_1.length c0_1] 26 (0, 0)) (by (with_reducible repeat (first | refine blk_drewN ?_ _ | refine blk_drew ?_ | refine blk_alloc ?_ _)); exact BK501.out) hb); have n2_ := Aside0.mk (blk_below (g := gb502) (o := .cells #[.int .i64 0, .slice none 0 0] 26 (0, 0)) (by (with_reducible repeat (first | refine blk_drewN ?_ _ | refine blk_drew ?_ | refine blk_alloc ?_ _)); exact BK502.out) hb); have n3_ := Aside0.mk (below_step (by repeat (first | (with_reducible first | exact HB.out | apply below_alloc | apply pw_below_drewN | apply below_drew1 | refine below_set ?_ GE501.out | refine below_set ?_ GE502.out) | exact HB.out)) hb); clear BK90020; clear BK501; clear BK502; clear HB; have BK90020 := n0_; have BK501 := n1_; have BK502 := n2_; have HB := n3_; clear n0_ n1_ n2_ n3_; (try clear hb); (try clear hb2); (try clear hk); (try clear hi); have hnb42 := NB502_90020.out; have hnc42 := NB90020_502.out; have hcz43_0 : w41.cell? ⟨gb502, 0, none⟩ = some (.int .i64 0) := (blk_cell BK502.out 0).trans rfl; have hcz43_1 : w41.cell? ⟨gb502, 1, none⟩ = some (.slice none 0 0) := (blk_cell BK502.out 1).trans rfl; have hfz43_0 := blk_frozen BK502.out 0; have hfz43_1 := blk_frozen BK502.out 1))
  refine bodyPost_ret (results_ct rfl _ _ gb502 26 #[.int .i64 0, .slice none 0 0] (0, 0) _ rfl (by (with_reducible repeat (first | refine blk_drewN ?_ _ | refine blk_drew ?_ | refine blk_alloc ?_ _)); refine blk_put (cs := #[.int .i64 0, .slice none 0 0]) ?_ 1 _ rfl; (with_reducible repeat (first | refine blk_drewN ?_ _ | refine blk_drew ?_ | refine blk_alloc ?_ _)); refine blk_put (cs := #[.int .i64 0, .slice none 0 0]) ?_ 0 _ rfl; (with_reducible repeat (first | refine blk_drewN ?_ _ | refine blk_drew ?_ | refine blk_alloc ?_ _)); exact BK502.out) Try.underlying26 rfl (by kernel_rfl)) rfl ?_
  exact ⟨_, by first | rfl | (simp [errW_none, errW_some] <;> rfl) | (simp [*, errW_none, errW_some] <;> rfl), by first | exact Kd.R_nil _ _ _ _ _ | exact Kd.N_nil _ _ _ _ _ | exact Kd.V_nil _ _ _ _ _ | exact Kd.Q_nil _ _ _ _ _ | exact Kd.S_nil _ _ _ _ _, by repeat (first | (with_reducible first | exact HB.out | apply below_alloc | apply pw_below_drewN | apply below_drew1 | refine below_set ?_ GE501.out | refine below_set ?_ GE502.out) | exact HB.out)⟩

end Go.Proofs.Ytnjmgmdpkogocaa.Q

-- Printed by a program of this session (the kit's print, turned: printpatch.py) out of Lean's print of the translation. Lean checks it.
namespace Go.Proofs.Ytnjmgmdpkogocaa.Q
open Go.RowKit Go.Proofs.YtnjmgmdpkogocaaW.PrintWords Go.Proofs.YtnjmgmdpkogocaaW.PrintLast Go.Proofs.YtnjmgmdpkogocaaW.PrintMore
attribute [local go_sem] max2_int min2_int max_two min_two max_three min_three max_four min_four   -- for this text's walks alone
set_option linter.unusedVariables false
set_option linter.unusedSimpArgs false

/-! ### impl_RenameColours: function 41 -/
def impl_RenameColours.f (k : Nat) (a0_0 : Int) (l0_1 : List (S45)) (l1 : List Int) : Option (Int × (List (S45)) × Int) := (impl_setCode_at_impl_RenameColours_1.f k a0_0 l0_1 l1 a0_0 l0_1).bind fun t524 => (if t524 = 0 then ((impl_changed_at_impl_RenameColours_2.f k a0_0 l0_1 l1).bind fun bt525 => (some (bt525.1, bt525.2.1, bt525.2.2))) else (some (0, ([] : List (S45)), t524)))
theorem impl_RenameColours.mono : ∀ a0 a1 a2 k, LeO (impl_RenameColours.f k a0 a1 a2) (impl_RenameColours.f (k + 1) a0 a1 a2) := by
 intro a0 a1 a2 k
 unfold impl_RenameColours.f
 repeat' first
   | (with_reducible exact impl_changed_at_impl_RenameColours_2.mono _ _ _ _)
   | (with_reducible exact impl_setCode_at_impl_RenameColours_1.mono _ _ _ _ _ _)
   | (with_reducible exact LeO.refl _)
   | (with_reducible exact LeO.none _)
   | (with_reducible refine LeO.ite ?_ ?_)
   | (with_reducible refine LeO.bind ?_ (fun _ => ?_))
   | exact impl_changed_at_impl_RenameColours_2.mono _ _ _ _
   | exact impl_setCode_at_impl_RenameColours_1.mono _ _ _ _ _ _
   | exact LeO.none _
   | refine LeO.ite ?_ ?_
   | refine LeO.bind ?_ (fun _ => ?_)
set_option maxHeartbeats 8000000 in
set_option maxRecDepth 100000 in
theorem impl_RenameColours.calls (k : Nat) (a0_0 : Int) (A0_1 : Option Addr) (c0_1 : Nat) (l0_1 : List (S45)) (A1 : Option Addr) (c1 : Nat) (l1 : List Int) (r1 : Int) (r2 : List (S45)) (r3 : Int) (w : World) (hr0_1 : Kd.C k45 w A0_1 l0_1.length l0_1) (hc0_1 : l0_1.length ≤ c0_1) (hr1 : Kd.C (Kd.int .i64) w A1 l1.length l1) (hc1 : l1.length ≤ c1) (h : impl_RenameColours.f k a0_0 l0_1 l1 = some (r1, r2, r3)) :
  Calls Try.prog 41 #[.agg #[.int .i64 a0_0, .slice A0_1 l0_1.length c0_1], .slice A1 l1.length c1] w fun e w' => ∃ v1_ : Value, e = .returned (.tuple #[.agg #[.int .i64 r1, v1_], .int .i64 r3]) ∧ Kd.R k45 45 w' w.heap.size (fun _ => True) v1_ r2 ∧ Below w.heap.size w w' := by
 have hu26 := Try.underlying26
 have HR0_1 := Aside0.mk hr0_1
 have HC0_1 := Aside0.mk hc0_1
 clear hr0_1 hc0_1
 have HR1 := Aside0.mk hr1
 have HC1 := Aside0.mk hc1
 clear hr1 hc1
 have HB := Aside0.mk (Below.refl w.heap.size w)
 have H : ((impl_setCode_at_impl_RenameColours_1.f k a0_0 l0_1 l1 a0_0 l0_1).bind fun t524 => (if t524 = 0 then ((impl_changed_at_impl_RenameColours_2.f k a0_0 l0_1 l1).bind fun bt525 => (some (bt525.1, bt525.2.1, bt525.2.2))) else (some (0, ([] : List (S45)), t524)))) = some (r1, r2, r3) := h
 clear h
 replace H := Option.bind_eq_some_iff.mp H
 obtain ⟨t524, A30, H⟩ := H
 replace H : (if t524 = 0 then ((impl_changed_at_impl_RenameColours_2.f k a0_0 l0_1 l1).bind fun bt525 => (some (bt525.1, bt525.2.1, bt525.2.2))) else (some (0, ([] : List (S45)), t524))) = some (r1, r2, r3) := H
 have A3 := Aside0.mk A30
 clear A30
 by_cases c4 : t524 = 0
 ·rw [if_pos c4] at H
  have c4b0 : (t524 == 0) = true := beq_iff_eq.mpr c4
  have c4b1 : (t524 != 0) = false := bne_eq_false_iff_eq.mpr c4
  clear c4
  replace H := Option.bind_eq_some_iff.mp H
  obtain ⟨⟨t525, t526, t529⟩, A50, H⟩ := H
  replace H : (some (t525, t526, t529)) = some (r1, r2, r3) := H
  have A5 := Aside0.mk A50
  clear A50
  simp only [Option.some.injEq, Prod.mk.injEq] at H
  obtain ⟨rfl, rfl, rfl⟩ := H
  go_enter Try.func41, Try.ntmps41
  go_wp2_with (first | ((with_reducible refine gate_dst (N := 2) rfl ?_); refine box_event ?hg (N := 2) ?hd (cs := #[.int .i64 a0_0, .slice A0_1 l0_1.length c0_1]) (t := 26) ?hr ?_; (case hd => rfl); (case hg => rfl); (case hr => first | (go_simp; done) | (go_simp; rfl)); intro gb521 hg w6 hbox hb; have n0_ := Aside0.mk (below_step (by repeat (first | (with_reducible first | exact HB.out | apply below_alloc | apply pw_below_drewN | apply below_drew1) | exact HB.out)) hb); have n1_ := Aside0.mk (hbox); have n2_ := Aside0.mk ((by rw [hg]; exact (below_size (by repeat (first | (with_reducible first | exact HB.out | apply below_alloc | apply pw_below_drewN | apply below_drew1) | exact HB.out))) : w.heap.size ≤ gb521)); have n3_ := Aside0.mk ((by rw [hg]; exact (below_size (by repeat (first | (with_reducible first | exact HB.out | apply below_alloc | apply pw_below_drewN | apply below_drew1) | exact HB.out))) : w.heap.size ≤ gb521)); clear HB; have HB := n0_; have BK521 := n1_; have GW521 := n2_; have GE521 := n3_; clear n0_ n1_ n2_ n3_; clear hb hbox hg) | ((with_reducible refine gate_dst (N := 3) rfl ?_); refine box_event ?hg (N := 3) ?hd (cs := #[.slice A1 l1.length c1]) (t := 48) ?hr ?_; (case hd => rfl); (case hg => rfl); (case hr => first | (go_simp; done) | (go_simp; rfl)); intro gb522 hg w7 hbox hb; have n0_ := Aside0.mk (blk_below (g := gb521) (o := .cells #[.int .i64 a0_0, .slice A0_1 l0_1.length c0_1] 26 (0, 0)) (by (with_reducible repeat (first | refine blk_drewN ?_ _ | refine blk_drew ?_ | refine blk_alloc ?_ _)); exact BK521.out) hb); have n1_ := Aside0.mk (below_step (by repeat (first | (with_reducible first | exact HB.out | apply below_alloc | apply pw_below_drewN | apply below_drew1 | refine below_set ?_ GE521.out) | exact HB.out)) hb); have n2_ := Aside0.mk (hbox); have n3_ := Aside0.mk ((by rw [hg]; exact (below_size (by repeat (first | (with_reducible first | exact HB.out | apply below_alloc | apply pw_below_drewN | apply below_drew1 | refine below_set ?_ GE521.out) | exact HB.out))) : w.heap.size ≤ gb522)); have n4_ := Aside0.mk ((by rw [hg]; exact (below_size (by repeat (first | (with_reducible first | exact HB.out | apply below_alloc | apply pw_below_drewN | apply below_drew1 | refine below_set ?_ GE521.out) | exact HB.out))) : w.heap.size ≤ gb522)); have n5_ := Aside0.mk ((by rw [hg]; exact Nat.ne_of_lt (blk_lt (g := gb521) (o := .cells #[.int .i64 a0_0, .slice A0_1 l0_1.length c0_1] 26 (0, 0)) (by (with_reducible repeat (first | refine blk_drewN ?_ _ | refine blk_drew ?_ | refine blk_alloc ?_ _)); exact BK521.out)) : gb521 ≠ gb522)); have n6_ := Aside0.mk ((by rw [hg]; exact Nat.ne_of_gt (blk_lt (g := gb521) (o := .cells #[.int .i64 a0_0, .slice A0_1 l0_1.length c0_1] 26 (0, 0)) (by (with_reducible repeat (first | refine blk_drewN ?_ _ | refine blk_drew ?_ | refine blk_alloc ?_ _)); exact BK521.out)) : gb522 ≠ gb521)); clear BK521; clear HB; have BK521 := n0_; have HB := n1_; have BK522 := n2_; have GW522 := n3_; have GE522 := n4_; have NB521_522 := n5_; have NB522_521 := n6_; clear n0_ n1_ n2_ n3_ n4_ n5_ n6_; clear hb hbox hg) | ((with_reducible refine gate_dst (N := 4) rfl ?_); refine box_event ?hg (N := 4) ?hd (cs := #[.int .i64 0, .slice none 0 0]) (t := 26) ?hr ?_; (case hd => rfl); (case hg => rfl); (case hr => first | (go_simp; done) | (go_simp; rfl)); intro gb523 hg w8 hbox hb; have n0_ := Aside0.mk (blk_below (g := gb521) (o := .cells #[.int .i64 a0_0, .slice A0_1 l0_1.length c0_1] 26 (0, 0)) (by (with_reducible repeat (first | refine blk_drewN ?_ _ | refine blk_drew ?_ | refine blk_alloc ?_ _)); exact BK521.out) hb); have n1_ := Aside0.mk (blk_below (g := gb522) (o := .cells #[.slice A1 l1.length c1] 48 (0, 0)) (by (with_reducible repeat (first | refine blk_drewN ?_ _ | refine blk_drew ?_ | refine blk_alloc ?_ _)); exact BK522.out) hb); have n2_ := Aside0.mk (below_step (by repeat (first | (with_reducible first | exact HB.out | apply below_alloc | apply pw_below_drewN | apply below_drew1 | refine below_set ?_ GE521.out | refine below_set ?_ GE522.out) | exact HB.out)) hb); have n3_ := Aside0.mk (hbox); have n4_ := Aside0.mk ((by rw [hg]; exact (below_size (by repeat (first | (with_reducible first | exact HB.out | apply below_alloc | apply pw_below_drewN | apply below_drew1 | refine below_set ?_ GE521.out | refine below_set ?_ GE522.out) | exact HB.out))) : w.heap.size ≤ gb523)); have n5_ := Aside0.mk ((by rw [hg]; exact (below_size (by repeat (first | (with_reducible first | exact HB.out | apply below_alloc | apply pw_below_drewN | apply below_drew1 | refine below_set ?_ GE521.out | refine below_set ?_ GE522.out) | exact HB.out))) : w.heap.size ≤ gb523)); have n6_ := Aside0.mk ((by rw [hg]; exact Nat.ne_of_lt (blk_lt (g := gb521) (o := .cells #[.int .i64 a0_0, .slice A0_1 l0_1.length c0_1] 26 (0, 0)) (by (with_reducible repeat (first | refine blk_drewN ?_ _ | refine blk_drew ?_ | refine blk_alloc ?_ _)); exact BK521.out)) : gb521 ≠ gb523)); have n7_ := Aside0.mk ((by rw [hg]; exact Nat.ne_of_gt (blk_lt (g := gb521) (o := .cells #[.int .i64 a0_0, .slice A0_1 l0_1.length c0_1] 26 (0, 0)) (by (with_reducible repeat (first | refine blk_drewN ?_ _ | refine blk_drew ?_ | refine blk_alloc ?_ _)); exact BK521.out)) : gb523 ≠ gb521)); have n8_ := Aside0.mk ((by rw [hg]; exact Nat.ne_of_lt (blk_lt (g := gb522) (o := .cells #[.slice A1 l1.length c1] 48 (0, 0)) (by (with_reducible repeat (first | refine blk_drewN ?_ _ | refine blk_drew ?_ | refine blk_alloc ?_ _)); exact BK522.out)) : gb522 ≠ gb523)); have n9_ := Aside0.mk ((by rw [hg]; exact Nat.ne_of_gt (blk_lt (g := gb522) (o := .cells #[.slice A1 l1.length c1] 48 (0, 0)) (by (with_reducible repeat (first | refine blk_drewN ?_ _ | refine blk_drew ?_ | refine blk_alloc ?_ _)); exact BK522.out)) : gb523 ≠ gb522)); clear BK521; clear BK522; clear HB; have BK521 := n0_; have BK522 := n1_; have HB := n2_; have BK523 := n3_; have GW523 := n4_; have GE523 := n5_; have NB521_523 := n6_; have NB523_521 := n7_; have NB522_523 := n8_; have NB523_522 := n9_; clear n0_ n1_ n2_ n3_ n4_ n5_ n6_ n7_ n8_ n9_; clear hb hbox hg; have hnb9 := NB521_522.out; have hnc9 := NB522_521.out; have hnb10 := NB521_523.out; have hnc10 := NB523_521.out; have hcz11_0 : w8.cell? ⟨gb521, 0, none⟩ = some (.int .i64 a0_0) := (blk_cell BK521.out 0).trans rfl; have hcz11_1 : w8.cell? ⟨gb521, 1, none⟩ = some (.slice A0_1 l0_1.length c0_1) := (blk_cell BK521.out 1).trans rfl; have hfz11_0 := blk_frozen BK521.out 0; have hfz11_1 := blk_frozen BK521.out 1) | ((with_reducible refine gate_callee (f := 77) rfl ?_); refine goesL_ (some 9) rfl rfl Try.func77 (by kernel_rfl) rfl #[.agg #[.int .i64 a0_0, .slice A0_1 l0_1.length c0_1], .func (.func 82) #[] #[.pointer (some ⟨gb522, 0, none⟩), .pointer (some ⟨gb521, 0, none⟩)]] rfl (by (try simp only [List.map_toArray, List.map_cons, List.map_nil]); first | done | rfl | (simp only [List.length_drop, List.length_take]; rfl)) ?_; (with_reducible refine (impl_setCode_at_impl_RenameColours_1.calls k a0_0 _ _ l0_1 gb522 A1 c1 l1 gb521 a0_0 A0_1 c0_1 l0_1 t524 _ ?side1 ?side2 ?side3 ?side4 ?side5 ?side6 ?side7 ?side8 A3.out).mono ?_); (case side1 => repeat (first | exact (Kd.C_below HR0_1.out HB.out) | (with_reducible refine Kd.C_alloc ?_ _) | (with_reducible refine Kd.C_drewN ?_ _) | (with_reducible refine Kd.C_drew ?_))); (case side2 => exact HC0_1.out); (case side3 => repeat (first | exact (Kd.C_below HR1.out HB.out) | (with_reducible refine Kd.C_alloc ?_ _) | (with_reducible refine Kd.C_drewN ?_ _) | (with_reducible refine Kd.C_drew ?_))); (case side4 => exact HC1.out); (case side5 => repeat (first | exact (Kd.C_below HR0_1.out HB.out) | (with_reducible refine Kd.C_alloc ?_ _) | (with_reducible refine Kd.C_drewN ?_ _) | (with_reducible refine Kd.C_drew ?_))); (case side6 => exact HC0_1.out); (case side7 => exact (by (with_reducible repeat (first | refine blk_drewN ?_ _ | refine blk_drew ?_ | refine blk_alloc ?_ _)); exact BK522.out)); (case side8 => exact (by (with_reducible repeat (first | refine blk_drewN ?_ _ | refine blk_drew ?_ | refine blk_alloc ?_ _)); exact BK521.out)); rintro e w12 ⟨rfl, hb⟩; refine ⟨_, rfl, ?_⟩; have n0_ := Aside0.mk (blk_below (g := gb521) (o := .cells #[.int .i64 a0_0, .slice A0_1 l0_1.length c0_1] 26 (0, 0)) (by (with_reducible repeat (first | refine blk_drewN ?_ _ | refine blk_drew ?_ | refine blk_alloc ?_ _)); exact BK521.out) hb); have n1_ := Aside0.mk (blk_below (g := gb522) (o := .cells #[.slice A1 l1.length c1] 48 (0, 0)) (by (with_reducible repeat (first | refine blk_drewN ?_ _ | refine blk_drew ?_ | refine blk_alloc ?_ _)); exact BK522.out) hb); have n2_ := Aside0.mk (blk_below (g := gb523) (o := .cells #[.int .i64 0, .slice none 0 0] 26 (0, 0)) (by (with_reducible repeat (first | refine blk_drewN ?_ _ | refine blk_drew ?_ | refine blk_alloc ?_ _)); exact BK523.out) hb); have n3_ := Aside0.mk (below_step (by repeat (first | (with_reducible first | exact HB.out | apply below_alloc | apply pw_below_drewN | apply below_drew1 | refine below_set ?_ GE521.out | refine below_set ?_ GE522.out | refine below_set ?_ GE523.out) | exact HB.out)) hb); clear BK521; clear BK522; clear BK523; clear HB; have BK521 := n0_; have BK522 := n1_; have BK523 := n2_; have HB := n3_; clear n0_ n1_ n2_ n3_; (try clear hb); (try clear hb2); (try clear hk); (try clear hi); have hcz13_0 : w12.cell? ⟨gb521, 0, none⟩ = some (.int .i64 a0_0) := (blk_cell BK521.out 0).trans rfl; have hcz13_1 : w12.cell? ⟨gb521, 1, none⟩ = some (.slice A0_1 l0_1.length c0_1) := (blk_cell BK521.out 1).trans rfl; have hfz13_0 := blk_frozen BK521.out 0; have hfz13_1 := blk_frozen BK521.out 1) | ((with_reducible refine gate_callee (f := 62) rfl ?_); refine goesL_ (some 16) rfl rfl Try.func62 (by kernel_rfl) rfl #[.agg #[.int .i64 a0_0, .slice A0_1 l0_1.length c0_1], .func (.func 84) #[] #[.pointer (some ⟨gb522, 0, none⟩)]] rfl (by (try simp only [List.map_toArray, List.map_cons, List.map_nil]); first | done | rfl | (simp only [List.length_drop, List.length_take]; rfl)) ?_; (with_reducible refine (impl_changed_at_impl_RenameColours_2.calls k a0_0 _ _ l0_1 gb522 A1 c1 l1 t525 t526 t529 _ ?side1 ?side2 ?side3 ?side4 ?side5 A5.out).mono ?_); (case side1 => repeat (first | exact (Kd.C_below HR0_1.out HB.out) | (with_reducible refine Kd.C_alloc ?_ _) | (with_reducible refine Kd.C_drewN ?_ _) | (with_reducible refine Kd.C_drew ?_))); (case side2 => exact HC0_1.out); (case side3 => repeat (first | exact (Kd.C_below HR1.out HB.out) | (with_reducible refine Kd.C_alloc ?_ _) | (with_reducible refine Kd.C_drewN ?_ _) | (with_reducible refine Kd.C_drew ?_))); (case side4 => exact HC1.out); (case side5 => exact (by (with_reducible repeat (first | refine blk_drewN ?_ _ | refine blk_drew ?_ | refine blk_alloc ?_ _)); exact BK522.out)); rintro e w14 ⟨v527, rfl, ho0, hb⟩; refine ⟨_, rfl, ?_⟩; have n0_ := Aside0.mk (Kd.R_lower ho0 (below_size (by repeat (first | (with_reducible first | exact HB.out | apply below_alloc | apply pw_below_drewN | apply below_drew1 | refine below_set ?_ GE521.out | refine below_set ?_ GE522.out | refine below_set ?_ GE523.out) | exact HB.out)))); have n1_ := Aside0.mk (blk_below (g := gb521) (o := .cells #[.int .i64 a0_0, .slice A0_1 l0_1.length c0_1] 26 (0, 0)) (by (with_reducible repeat (first | refine blk_drewN ?_ _ | refine blk_drew ?_ | refine blk_alloc ?_ _)); exact BK521.out) hb); have n2_ := Aside0.mk (blk_below (g := gb522) (o := .cells #[.slice A1 l1.length c1] 48 (0, 0)) (by (with_reducible repeat (first | refine blk_drewN ?_ _ | refine blk_drew ?_ | refine blk_alloc ?_ _)); exact BK522.out) hb); have n3_ := Aside0.mk (blk_below (g := gb523) (o := .cells #[.int .i64 0, .slice none 0 0] 26 (0, 0)) (by (with_reducible repeat (first | refine blk_drewN ?_ _ | refine blk_drew ?_ | refine blk_alloc ?_ _)); exact BK523.out) hb); have n4_ := Aside0.mk (below_step (by repeat (first | (with_reducible first | exact HB.out | apply below_alloc | apply pw_below_drewN | apply below_drew1 | refine below_set ?_ GE521.out | refine below_set ?_ GE522.out | refine below_set ?_ GE523.out) | exact HB.out)) hb); clear BK521; clear BK522; clear BK523; clear HB; have HO528 := n0_; have BK521 := n1_; have BK522 := n2_; have BK523 := n3_; have HB := n4_; clear n0_ n1_ n2_ n3_ n4_; (try clear hb); (try clear hb2); (try clear hk); (try clear hi); (try clear ho0); have hnb15 := NB523_522.out; have hnc15 := NB522_523.out; have hcz16_0 : w14.cell? ⟨gb523, 0, none⟩ = some (.int .i64 0) := (blk_cell BK523.out 0).trans rfl; have hcz16_1 : w14.cell? ⟨gb523, 1, none⟩ = some (.slice none 0 0) := (blk_cell BK523.out 1).trans rfl; have hfz16_0 := blk_frozen BK523.out 0; have hfz16_1 := blk_frozen BK523.out 1; obtain ⟨Ao17, co17, eo17⟩ := Kd.R_slice HO528.out; subst eo17))
  refine bodyPost_ret (results_ct rfl _ _ gb523 26 #[.int .i64 t525, .slice Ao17 t526.length co17] (0, 0) _ rfl (by (with_reducible repeat (first | refine blk_drewN ?_ _ | refine blk_drew ?_ | refine blk_alloc ?_ _)); refine blk_put (cs := #[.int .i64 t525, .slice none 0 0]) ?_ 1 _ rfl; (with_reducible repeat (first | refine blk_drewN ?_ _ | refine blk_drew ?_ | refine blk_alloc ?_ _)); refine blk_put (cs := #[.int .i64 0, .slice none 0 0]) ?_ 0 _ rfl; (with_reducible repeat (first | refine blk_drewN ?_ _ | refine blk_drew ?_ | refine blk_alloc ?_ _)); exact BK523.out) Try.underlying26 rfl (by kernel_rfl)) rfl ?_
  exact ⟨_, by first | rfl | (simp [errW_none, errW_some] <;> rfl) | (simp [*, errW_none, errW_some] <;> rfl), by (with_reducible repeat (first | apply Kd.R_alloc | apply Kd.R_drewN | apply Kd.R_drew)); exact Kd.R_mono (Kd.R_far (p := ⟨gb523, 1, none⟩) (Kd.R_far (p := ⟨gb523, 0, none⟩) (Kd.R_types HO528.out BK523.out (by decide)) (fun _ hk => hk.2) (.int .i64 t525)) (fun _ hk => hk.2) (.slice Ao17 t526.length co17)) (fun _ hk => trivial), by repeat (first | (with_reducible first | exact HB.out | apply below_alloc | apply pw_below_drewN | apply below_drew1 | refine below_set ?_ GE521.out | refine below_set ?_ GE522.out | refine below_set ?_ GE523.out) | exact HB.out)⟩
 ·rw [if_neg c4] at H
  have c4b0 : (t524 == 0) = false := beq_eq_false_iff_ne.mpr c4
  have c4b1 : (t524 != 0) = true := bne_iff_ne.mpr c4
  simp only [Option.some.injEq, Prod.mk.injEq] at H
  obtain ⟨rfl, rfl, rfl⟩ := H
  go_enter Try.func41, Try.ntmps41
  go_wp2_with (first | ((with_reducible refine gate_dst (N := 2) rfl ?_); refine box_event ?hg (N := 2) ?hd (cs := #[.int .i64 a0_0, .slice A0_1 l0_1.length c0_1]) (t := 26) ?hr ?_; (case hd => rfl); (case hg => rfl); (case hr => first | (go_simp; done) | (go_simp; rfl)); intro gb521 hg w18 hbox hb; have n0_ := Aside0.mk (below_step (by repeat (first | (with_reducible first | exact HB.out | apply below_alloc | apply pw_below_drewN | apply below_drew1) | exact HB.out)) hb); have n1_ := Aside0.mk (hbox); have n2_ := Aside0.mk ((by rw [hg]; exact (below_size (by repeat (first | (with_reducible first | exact HB.out | apply below_alloc | apply pw_below_drewN | apply below_drew1) | exact HB.out))) : w.heap.size ≤ gb521)); have n3_ := Aside0.mk ((by rw [hg]; exact (below_size (by repeat (first | (with_reducible first | exact HB.out | apply below_alloc | apply pw_below_drewN | apply below_drew1) | exact HB.out))) : w.heap.size ≤ gb521)); clear HB; have HB := n0_; have BK521 := n1_; have GW521 := n2_; have GE521 := n3_; clear n0_ n1_ n2_ n3_; clear hb hbox hg) | ((with_reducible refine gate_dst (N := 3) rfl ?_); refine box_event ?hg (N := 3) ?hd (cs := #[.slice A1 l1.length c1]) (t := 48) ?hr ?_; (case hd => rfl); (case hg => rfl); (case hr => first | (go_simp; done) | (go_simp; rfl)); intro gb522 hg w19 hbox hb; have n0_ := Aside0.mk (blk_below (g := gb521) (o := .cells #[.int .i64 a0_0, .slice A0_1 l0_1.length c0_1] 26 (0, 0)) (by (with_reducible repeat (first | refine blk_drewN ?_ _ | refine blk_drew ?_ | refine blk_alloc ?_ _)); exact BK521.out) hb); have n1_ := Aside0.mk (below_step (by repeat (first | (with_reducible first | exact HB.out | apply below_alloc | apply pw_below_drewN | apply below_drew1 | refine below_set ?_ GE521.out) | exact HB.out)) hb); have n2_ := Aside0.mk (hbox); have n3_ := Aside0.mk ((by rw [hg]; exact (below_size (by repeat (first | (with_reducible first | exact HB.out | apply below_alloc | apply pw_below_drewN | apply below_drew1 | refine below_set ?_ GE521.out) | exact HB.out))) : w.heap.size ≤ gb522)); have n4_ := Aside0.mk ((by rw [hg]; exact (below_size (by repeat (first | (with_reducible first | exact HB.out | apply below_alloc | apply pw_below_drewN | apply below_drew1 | refine below_set ?_ GE521.out) | exact HB.out))) : w.heap.size ≤ gb522)); have n5_ := Aside0.mk ((by rw [hg]; exact Nat.ne_of_lt (blk_lt (g := gb521) (o := .cells #[.int .i64 a0_0, .slice A0_1 l0_1.length c0_1] 26 (0, 0)) (by (with_reducible repeat (first | refine blk_drewN ?_ _ | refine blk_drew ?_ | refine blk_alloc ?_ _)); exact BK521.out)) : gb521 ≠ gb522)); have n6_ := Aside0.mk ((by rw [hg]; exact Nat.ne_of_gt (blk_lt (g := gb521) (o := .cells #[.int .i64 a0_0, .slice A0_1 l0_1.length c0_1] 26 (0, 0)) (by (with_reducible repeat (first | refine blk_drewN ?_ _ | refine blk_drew ?_ | refine blk_alloc ?_ _)); exact BK521.out)) : gb522 ≠ gb521)); clear BK521; clear HB; have BK521 := n0_; have HB := n1_; have BK522 := n2_; have GW522 := n3_; have GE522 := n4_; have NB521_522 := n5_; have NB522_521 := n6_; clear n0_ n1_ n2_ n3_ n4_ n5_ n6_; clear hb hbox hg) | ((with_reducible refine gate_dst (N := 4) rfl ?_); refine box_event ?hg (N := 4) ?hd (cs := #[.int .i64 0, .slice none 0 0]) (t := 26) ?hr ?_; (case hd => rfl); (case hg => rfl); (case hr => first | (go_simp; done) | (go_simp; rfl)); intro gb523 hg w20 hbox hb; have n0_ := Aside0.mk (blk_below (g := gb521) (o := .cells #[.int .i64 a0_0, .slice A0_1 l0_1.length c0_1] 26 (0, 0)) (by (with_reducible repeat (first | refine blk_drewN ?_ _ | refine blk_drew ?_ | refine blk_alloc ?_ _)); exact BK521.out) hb); have n1_ := Aside0.mk (blk_below (g := gb522) (o := .cells #[.slice A1 l1.length c1] 48 (0, 0)) (by (with_reducible repeat (first | refine blk_drewN ?_ _ | refine blk_drew ?_ | refine blk_alloc ?_ _)); exact BK522.out) hb); have n2_ := Aside0.mk (below_step (by repeat (first | (with_reducible first | exact HB.out | apply below_alloc | apply pw_below_drewN | apply below_drew1 | refine below_set ?_ GE521.out | refine below_set ?_ GE522.out) | exact HB.out)) hb); have n3_ := Aside0.mk (hbox); have n4_ := Aside0.mk ((by rw [hg]; exact (below_size (by repeat (first | (with_reducible first | exact HB.out | apply below_alloc | apply pw_below_drewN | apply below_drew1 | refine below_set ?_ GE521.out | refine below_set ?_ GE522.out) | exact HB.out))) : w.heap.size ≤ gb523)); have n5_ := Aside0.mk ((by rw [hg]; exact (below_size (by repeat (first | (with_reducible first | exact HB.out | apply below_alloc | apply pw_below_drewN | apply below_drew1 | refine below_set ?_ GE521.out | refine below_set ?_ GE522.out) | exact HB.out))) : w.heap.size ≤ gb523)); have n6_ := Aside0.mk ((by rw [hg]; exact Nat.ne_of_lt (blk_lt (g := gb521) (o := .cells #[.int .i64 a0_0, .slice A0_1 l0_1.length c0_1] 26 (0, 0)) (by (with_reducible repeat (first | refine blk_drewN ?_ _ | refine blk_drew ?_ | refine blk_alloc ?_ _)); exact BK521.out)) : gb521 ≠ gb523)); have n7_ := Aside0.mk ((by rw [hg]; exact Nat.ne_of_gt (blk_lt (g := gb521) (o := .cells #[.int .i64 a0_0, .slice A0_1 l0_1.length c0_1] 26 (0, 0)) (by (with_reducible repeat (first | refine blk_drewN ?_ _ | refine blk_drew ?_ | refine blk_alloc ?_ _)); exact BK521.out)) : gb523 ≠ gb521)); have n8_ := Aside0.mk ((by rw [hg]; exact Nat.ne_of_lt (blk_lt (g := gb522) (o := .cells #[.slice A1 l1.length c1] 48 (0, 0)) (by (with_reducible repeat (first | refine blk_drewN ?_ _ | refine blk_drew ?_ | refine blk_alloc ?_ _)); exact BK522.out)) : gb522 ≠ gb523)); have n9_ := Aside0.mk ((by rw [hg]; exact Nat.ne_of_gt (blk_lt (g := gb522) (o := .cells #[.slice A1 l1.length c1] 48 (0, 0)) (by (with_reducible repeat (first | refine blk_drewN ?_ _ | refine blk_drew ?_ | refine blk_alloc ?_ _)); exact BK522.out)) : gb523 ≠ gb522)); clear BK521; clear BK522; clear HB; have BK521 := n0_; have BK522 := n1_; have HB := n2_; have BK523 := n3_; have GW523 := n4_; have GE523 := n5_; have NB521_523 := n6_; have NB523_521 := n7_; have NB522_523 := n8_; have NB523_522 := n9_; clear n0_ n1_ n2_ n3_ n4_ n5_ n6_ n7_ n8_ n9_; clear hb hbox hg; have hnb21 := NB521_522.out; have hnc21 := NB522_521.out; have hnb22 := NB521_523.out; have hnc22 := NB523_521.out; have hcz23_0 : w20.cell? ⟨gb521, 0, none⟩ = some (.int .i64 a0_0) := (blk_cell BK521.out 0).trans rfl; have hcz23_1 : w20.cell? ⟨gb521, 1, none⟩ = some (.slice A0_1 l0_1.length c0_1) := (blk_cell BK521.out 1).trans rfl; have hfz23_0 := blk_frozen BK521.out 0; have hfz23_1 := blk_frozen BK521.out 1) | ((with_reducible refine gate_callee (f := 77) rfl ?_); refine goesL_ (some 9) rfl rfl Try.func77 (by kernel_rfl) rfl #[.agg #[.int .i64 a0_0, .slice A0_1 l0_1.length c0_1], .func (.func 82) #[] #[.pointer (some ⟨gb522, 0, none⟩), .pointer (some ⟨gb521, 0, none⟩)]] rfl (by (try simp only [List.map_toArray, List.map_cons, List.map_nil]); first | done | rfl | (simp only [List.length_drop, List.length_take]; rfl)) ?_; (with_reducible refine (impl_setCode_at_impl_RenameColours_1.calls k a0_0 _ _ l0_1 gb522 A1 c1 l1 gb521 a0_0 A0_1 c0_1 l0_1 t524 _ ?side1 ?side2 ?side3 ?side4 ?side5 ?side6 ?side7 ?side8 A3.out).mono ?_); (case side1 => repeat (first | exact (Kd.C_below HR0_1.out HB.out) | (with_reducible refine Kd.C_alloc ?_ _) | (with_reducible refine Kd.C_drewN ?_ _) | (with_reducible refine Kd.C_drew ?_))); (case side2 => exact HC0_1.out); (case side3 => repeat (first | exact (Kd.C_below HR1.out HB.out) | (with_reducible refine Kd.C_alloc ?_ _) | (with_reducible refine Kd.C_drewN ?_ _) | (with_reducible refine Kd.C_drew ?_))); (case side4 => exact HC1.out); (case side5 => repeat (first | exact (Kd.C_below HR0_1.out HB.out) | (with_reducible refine Kd.C_alloc ?_ _) | (with_reducible refine Kd.C_drewN ?_ _) | (with_reducible refine Kd.C_drew ?_))); (case side6 => exact HC0_1.out); (case side7 => exact (by (with_reducible repeat (first | refine blk_drewN ?_ _ | refine blk_drew ?_ | refine blk_alloc ?_ _)); exact BK522.out)); (case side8 => exact (by (with_reducible repeat (first | refine blk_drewN ?_ _ | refine blk_drew ?_ | refine blk_alloc ?_ _)); exact BK521.out)); rintro e w24 ⟨rfl, hb⟩; refine ⟨_, rfl, ?_⟩; have n0_ := Aside0.mk (blk_below (g := gb521) (o := .cells #[.int .i64 a0_0, .slice A0_1 l0_1.length c0_1] 26 (0, 0)) (by (with_reducible repeat (first | refine blk_drewN ?_ _ | refine blk_drew ?_ | refine blk_alloc ?_ _)); exact BK521.out) hb); have n1_ := Aside0.mk (blk_below (g := gb522) (o := .cells #[.slice A1 l1.length c1] 48 (0, 0)) (by (with_reducible repeat (first | refine blk_drewN ?_ _ | refine blk_drew ?_ | refine blk_alloc ?_ _)); exact BK522.out) hb); have n2_ := Aside0.mk (blk_below (g := gb523) (o := .cells #[.int .i64 0, .slice none 0 0] 26 (0, 0)) (by (with_reducible repeat (first | refine blk_drewN ?_ _ | refine blk_drew ?_ | refine blk_alloc ?_ _)); exact BK523.out) hb); have n3_ := Aside0.mk (below_step (by repeat (first | (with_reducible first | exact HB.out | apply below_alloc | apply pw_below_drewN | apply below_drew1 | refine below_set ?_ GE521.out | refine below_set ?_ GE522.out | refine below_set ?_ GE523.out) | exact HB.out)) hb); clear BK521; clear BK522; clear BK523; clear HB; have BK521 := n0_; have BK522 := n1_; have BK523 := n2_; have HB := n3_; clear n0_ n1_ n2_ n3_; (try clear hb); (try clear hb2); (try clear hk); (try clear hi); have hnb25 := NB523_522.out; have hnc25 := NB522_523.out; have hcz26_0 : w24.cell? ⟨gb523, 0, none⟩ = some (.int .i64 0) := (blk_cell BK523.out 0).trans rfl; have hcz26_1 : w24.cell? ⟨gb523, 1, none⟩ = some (.slice none 0 0) := (blk_cell BK523.out 1).trans rfl; have hfz26_0 := blk_frozen BK523.out 0; have hfz26_1 := blk_frozen BK523.out 1))
  refine bodyPost_ret (results_ct rfl _ _ gb523 26 #[.int .i64 0, .slice none 0 0] (0, 0) _ rfl (by (with_reducible repeat (first | refine blk_drewN ?_ _ | refine blk_drew ?_ | refine blk_alloc ?_ _)); refine blk_put (cs := #[.int .i64 0, .slice none 0 0]) ?_ 1 _ rfl; (with_reducible repeat (first | refine blk_drewN ?_ _ | refine blk_drew ?_ | refine blk_alloc ?_ _)); refine blk_put (cs := #[.int .i64 0, .slice none 0 0]) ?_ 0 _ rfl; (with_reducible repeat (first | refine blk_drewN ?_ _ | refine blk_drew ?_ | refine blk_alloc ?_ _)); exact BK523.out) Try.underlying26 rfl (by kernel_rfl)) rfl ?_
  exact ⟨_, by first | rfl | (simp [errW_none, errW_some] <;> rfl) | (simp [*, errW_none, errW_some] <;> rfl), by first | exact Kd.R_nil _ _ _ _ _ | exact Kd.N_nil _ _ _ _ _ | exact Kd.V_nil _ _ _ _ _ | exact Kd.Q_nil _ _ _ _ _ | exact Kd.S_nil _ _ _ _ _, by repeat (first | (with_reducible first | exact HB.out | apply below_alloc | apply pw_below_drewN | apply below_drew1 | refine below_set ?_ GE521.out | refine below_set ?_ GE522.out | refine below_set ?_ GE523.out) | exact HB.out)⟩

end Go.Proofs.Ytnjmgmdpkogocaa.Q

/-
  RenameColours: what both return.
-/
namespace Go.Proofs.Ytnjmgmdpkogocaa
open Go Go.RowKit Go.Proofs Go.Proofs.YtnjmgmdpkogocaaW.PrintWords Go.Proofs.YtnjmgmdpkogocaaW.PrintMore Go.Proofs.Ytnjmgmdpkogocaa.Q
set_option linter.unusedVariables false
set_option linter.unusedSimpArgs false

theorem in_f3 (n lo hi : Int) : spec_l01In.f n lo hi = some (inB n lo hi) := by
  unfold spec_l01In.f inB
  by_cases h : n ≥ lo
  · rw [if_pos h]; simp [h]
  · rw [if_neg h]; simp at h ⊢; omega
theorem isS_tiles {C : Int} {l : List STile} (h : isS C (l.map toT) = true) : ∀ t ∈ l, (0 ≤ t.f0 ∧ t.f0 < C) ∧ (0 ≤ t.f1 ∧ t.f1 < C) ∧ (0 ≤ t.f2 ∧ t.f2 < C) ∧ (0 ≤ t.f3 ∧ t.f3 < C) := by
  obtain ⟨-, -, h3⟩ := isS_iff.1 h
  intro t ht
  obtain ⟨i, hi, rfl⟩ := List.mem_iff_getElem.1 ht
  have := (h3 i (by simpa using hi)).1
  have e : tk (l.map toT) i = toT l[i] := tk_map l i hi
  rw [e] at this
  simp only [tileB, Bool.and_eq_true, inB_iff, T4.get, toT] at this
  simp at this
  omega
/-! a few facts about lists -/
theorem sub_len : ∀ (q p : List Int), q.Nodup → (∀ x ∈ q, x ∈ p) → q.length ≤ p.length := by
  intro q
  induction q with
  | nil => intro p _ _; exact Nat.zero_le _
  | cons x xs ih =>
    intro p hn hs
    rw [List.nodup_cons] at hn
    have hx := hs x List.mem_cons_self
    have := ih (p.erase x) hn.2 fun y hy => (List.mem_erase_of_ne fun e => hn.1 (by rw [← e]; exact hy)).2 (hs y (List.mem_cons_of_mem _ hy))
    rw [List.length_erase_of_mem hx] at this
    have := List.length_pos_of_mem hx
    rw [List.length_cons]; omega
theorem twice : ∀ (p : List Int), ¬ p.Nodup → ∃ x, x ∈ p ∧ x ∈ p.erase x := by
  intro p
  induction p with
  | nil => intro h; exact absurd List.nodup_nil h
  | cons y ys ih =>
    intro h
    rw [List.nodup_cons] at h
    by_cases hy : y ∈ ys
    · exact ⟨y, List.mem_cons_self, by rw [List.erase_cons_head]; exact hy⟩
    · obtain ⟨x, h1, h2⟩ := ih fun hn => h ⟨hy, hn⟩
      have hne : y ≠ x := fun e => hy (by rw [e]; exact h1)
      exact ⟨x, List.mem_cons_of_mem _ h1, by rw [List.erase_cons_tail (by simpa using hne)]; exact List.mem_cons_of_mem _ h2⟩
/-- as many in p as in q, q without doubles: q is within p if and only if p is within q and without doubles -/
theorem pigeons {p q : List Int} (hq : q.Nodup) (hl : p.length = q.length) : (∀ x ∈ q, x ∈ p) ↔ (∀ x ∈ p, x ∈ q) ∧ p.Nodup := by
  constructor
  · intro hs
    have hn : p.Nodup := by
      apply Classical.byContradiction
      intro h
      obtain ⟨x, h1, h2⟩ := twice p h
      have h3 := sub_len q (p.erase x) hq fun z hz => by
        by_cases e : z = x
        · subst e; exact h2
        · exact (List.mem_erase_of_ne e).2 (hs z hz)
      rw [List.length_erase_of_mem h1] at h3
      have := List.length_pos_of_mem h1
      omega
    refine ⟨fun y hy => ?_, hn⟩
    apply Classical.byContradiction
    intro h
    have := sub_len (y :: q) p (List.nodup_cons.2 ⟨h, hq⟩) fun z hz => by
      rcases List.mem_cons.1 hz with rfl | hz
      · exact hy
      · exact hs z hz
    rw [List.length_cons] at this; omega
  · rintro ⟨hs, hn⟩ x hx
    apply Classical.byContradiction
    intro h
    have := sub_len (x :: p) q (List.nodup_cons.2 ⟨h, hn⟩) fun z hz => by
      rcases List.mem_cons.1 hz with rfl | hz
      · exact hx
      · exact hs z hz
    rw [List.length_cons] at this; omega
/-- the numbers below n -/
def upTo (n : Nat) : List Int := (List.range n).map fun (i : Nat) => ((i : Nat) : Int)
theorem upTo_nodup (n : Nat) : (upTo n).Nodup := by
  unfold upTo List.Nodup
  rw [List.pairwise_map]
  refine (List.nodup_range (n := n)).imp ?_
  intro a b h e
  exact h (by omega)
theorem upTo_mem {n : Nat} {x : Int} : x ∈ upTo n ↔ inB x 0 ((n : Int) - 1) = true := by
  unfold upTo
  rw [List.mem_map, inB_iff]
  constructor
  · rintro ⟨i, hi, rfl⟩
    have := List.mem_range.1 hi
    omega
  · intro h
    exact ⟨x.toNat, List.mem_range.2 (by omega), by omega⟩
/-- p has each of the n numbers from 0 on, and n numbers -/
def orderB (n : Nat) (p : List Int) : Bool := (List.range n).all (fun x => p.any fun y => decide ((x : Int) = y)) && decide (p.length = n)
def renT (p : List Int) (t : T4) : T4 := ⟨rd p t.a, rd p t.b, rd p t.c, rd p t.d⟩
def renR (C : Int) (ts : List T4) (p : List Int) : (Int × List T4) × Int := if isS C ts = true then if orderB C.toNat p = true then ((C, sortT (ts.map (renT p))), 0) else ((0, []), 2) else ((0, []), 1)
theorem renR_len (C : Int) (ts : List T4) (p : List Int) : (renR C ts p).1.2.length ≤ 1048576 := by
  unfold renR
  split
  · rename_i h
    split
    · have h1 := isS_lens h
      have h2 := sortT_len (ts.map (renT p))
      rw [List.length_map] at h2
      show (sortT (ts.map (renT p))).length ≤ _
      omega
    · simp
  · simp
/-! the program's test -/
theorem idx_ev (p : List Int) (x : Int) (hp : p.length ≤ 35184372088832) : ∃ j : Int, Ev (fun k => slices_Index_int64_int64.f k p x) j ∧ decide (j ≥ 0) = p.any (fun y => decide (x = y)) := by
  have go : ∀ d m, m + d = p.length → ∃ j : Int, Ev (fun k => slices_Index_int64_int64.l0 k p x (p.length : Int) (m : Int)) j ∧ decide (j ≥ 0) = (p.drop m).any (fun y => decide (x = y)) := by
    intro d
    induction d with
    | zero =>
      intro m hm
      have b1 : ¬ (m : Int) < (p.length : Int) := by omega
      refine ⟨-1, Ev.step (f := fun _ => some (-1)) (fun k => by rw [slices_Index_int64_int64.l0, if_neg b1]) (Ev.now _), ?_⟩
      rw [List.drop_of_length_le (by omega)]; rfl
    | succ d ih =>
      intro m hm
      have hlt : m < p.length := by omega
      have b1 : (m : Int) < (p.length : Int) := by omega
      have b2 : (0 : Int) ≤ (m : Int) := Int.natCast_nonneg m
      have ew : wrap64 ((m : Int) + 1) = ((m + 1 : Nat) : Int) := by unfold wrap64; omega
      have hd : p.drop m = p[m] :: p.drop (m + 1) := List.drop_eq_getElem_cons hlt
      have e1 : rd p (m : Int) = p[m] := by simp [rd, List.getD, List.getElem?_eq_getElem hlt]
      by_cases q : x = p[m]
      · refine ⟨(m : Int), Ev.step (f := fun _ => some (m : Int)) (fun k => by rw [slices_Index_int64_int64.l0, if_pos b1, if_pos b2, if_pos b1, e1, if_pos q]) (Ev.now _), ?_⟩
        rw [hd, List.any_cons, decide_eq_true q, Bool.true_or]
        exact decide_eq_true b2
      · obtain ⟨j, hj, e⟩ := ih (m + 1) (by omega)
        refine ⟨j, Ev.step (fun k => by rw [slices_Index_int64_int64.l0, if_pos b1, if_pos b2, if_pos b1, e1, if_neg q, ew]) hj, ?_⟩
        rw [hd, List.any_cons, decide_eq_false q, Bool.false_or]
        exact e
  obtain ⟨j, h1, h2⟩ := go p.length 0 (by omega)
  rw [List.drop_zero] at h2
  exact ⟨j, h1, h2⟩
theorem has_ev (p : List Int) (x : Int) (hp : p.length ≤ 35184372088832) : Ev (fun k => slices_Contains_int64_int64.f k p x) (p.any fun y => decide (x = y)) := by
  obtain ⟨j, h1, h2⟩ := idx_ev p x hp
  refine Ev.congr (f := fun k => (slices_Index_int64_int64.f k p x).bind fun t => some (decide (t ≥ 0))) (fun k => by rw [slices_Contains_int64_int64.f]) ?_
  exact Ev.bind h1 (Ev.congr (fun k => by rw [h2]) (Ev.now _))
theorem isOrder_ev (p : List Int) (n : Nat) (hn : n ≤ 6) (hp : p.length ≤ 35184372088832) : Ev (fun k => impl_isOrder.f k p (n : Int)) (orderB n p) := by
  have go : ∀ d m, m + d = n → Ev (fun k => impl_isOrder.l0 k p (n : Int) (n : Int) (m : Int)) (((List.range n).drop m).all (fun x => p.any fun y => decide ((x : Int) = y)) && decide (p.length = n)) := by
    intro d
    induction d with
    | zero =>
      intro m hm
      have b1 : ¬ (m : Int) < (n : Int) := by omega
      rw [List.drop_of_length_le (by rw [List.length_range]; omega), List.all_nil, Bool.true_and]
      refine Ev.step (f := fun _ => some _) (fun k => by rw [impl_isOrder.l0, if_neg b1]) ?_
      have : (((p.length : Int) == (n : Int)) : Bool) = decide (p.length = n) := by
        by_cases h : p.length = n
        · rw [h]; simp
        · rw [decide_eq_false h]; simp; omega
      rw [this]
      exact Ev.now _
    | succ d ih =>
      intro m hm
      have b1 : (m : Int) < (n : Int) := by omega
      have ew : wrap64 ((m : Int) + 1) = ((m + 1 : Nat) : Int) := by unfold wrap64; omega
      have hd : (List.range n).drop m = m :: (List.range n).drop (m + 1) := by
        rw [List.drop_eq_getElem_cons (by rw [List.length_range]; omega), List.getElem_range]
      rw [hd, List.all_cons]
      refine Ev.step (f := fun k => (slices_Contains_int64_int64.f k p (m : Int)).bind fun t => if t = true then impl_isOrder.l0 k p (n : Int) (n : Int) (wrap64 ((m : Int) + 1)) else some false) (fun k => by rw [impl_isOrder.l0, if_pos b1]) ?_
      refine Ev.bind (has_ev p (m : Int) hp) ?_
      cases p.any fun y => decide ((m : Int) = y)
      · exact Ev.now _
      · rw [ew, Bool.true_and]
        exact Ev.congr (fun k => if_pos rfl) (ih (m + 1) (by omega))
  have := go n 0 (by omega)
  rw [List.drop_zero] at this
  exact Ev.congr (fun k => by rw [impl_isOrder.f]; rfl) this
/-! the reference's test: each number at most once, all in range, n numbers -/
/-- going through the rest of p, met has what stood before -/
def ordGo (n : Nat) : List Int → List Bool → Bool
  | [], _ => true
  | x :: xs, met => if inB x 0 ((n : Int) - 1) = true then if met.getD x.toNat false = true then false else ordGo n xs (met.set x.toNat true) else false
theorem specOrder_l0 (p : List Int) (n : Nat) (hn : n ≤ 6) (hp : p.length ≤ 35184372088832) : ∀ d m (met : List Bool), m + d = p.length → met.length = n →
    Ev (fun k => spec_l01Order.l0 k p (n : Int) met (m : Int)) (ordGo n (p.drop m) met && decide (p.length = n)) := by
  have ew1 : wrap64 ((n : Int) - 1) = (n : Int) - 1 := by unfold wrap64; omega
  intro d
  induction d with
  | zero =>
    intro m met hm hl
    have b1 : ¬ (m : Int) < (p.length : Int) := by omega
    rw [List.drop_of_length_le (by omega)]
    refine Ev.step (f := fun _ => some _) (fun k => by rw [spec_l01Order.l0, if_neg b1]) ?_
    have : (((p.length : Int) == (n : Int)) : Bool) = decide (p.length = n) := by
      by_cases h : p.length = n
      · rw [h]; simp
      · rw [decide_eq_false h]; simp; omega
    rw [this]
    exact Ev.now _
  | succ d ih =>
    intro m met hm hl
    have hlt : m < p.length := by omega
    have b1 : (m : Int) < (p.length : Int) := by omega
    have b2 : (0 : Int) ≤ (m : Int) := Int.natCast_nonneg m
    have ew : wrap64 ((m : Int) + 1) = ((m + 1 : Nat) : Int) := by unfold wrap64; omega
    have hd : p.drop m = p[m] :: p.drop (m + 1) := List.drop_eq_getElem_cons hlt
    have e1 : rd p (m : Int) = p[m] := by simp [rd, List.getD, List.getElem?_eq_getElem hlt]
    have ein : spec_l01In.f p[m] 0 ((n : Int) - 1) = some (inB p[m] 0 ((n : Int) - 1)) := in_f3 _ _ _
    rw [hd, ordGo]
    cases q : inB p[m] 0 ((n : Int) - 1)
    · exact Ev.step (f := fun _ => some false) (fun k => by rw [spec_l01Order.l0, if_pos b1, if_pos b2, e1, ew1, ein, q]; rfl) (Ev.now _)
    · have hq := inB_iff.1 q
      have c1 : 0 ≤ p[m] := hq.1
      have c2 : p[m] < (met.length : Int) := by omega
      have er : rdOf false met p[m] = met.getD p[m].toNat false := rfl
      cases q2 : met.getD p[m].toNat false
      · have hi := ih (m + 1) (met.set p[m].toNat true) (by omega) (by simpa using hl)
        refine Ev.step (fun k => ?_) hi
        rw [spec_l01Order.l0, if_pos b1, if_pos b2, e1, ew1, ein, q, Option.bind_some, if_pos rfl, if_pos c1, if_pos c2, er, q2, if_neg (by simp), ew]
      · exact Ev.step (f := fun _ => some false) (fun k => by rw [spec_l01Order.l0, if_pos b1, if_pos b2, e1, ew1, ein, q, Option.bind_some, if_pos rfl, if_pos c1, if_pos c2, er, q2, if_pos rfl]) (Ev.now _)
/-- of n numbers below n, each at most once: each is among them -/
theorem ordGo_iff (n : Nat) : ∀ (p : List Int) (met : List Bool), met.length = n → (ordGo n p met = true ↔ (∀ x ∈ p, inB x 0 ((n : Int) - 1) = true) ∧ p.Nodup ∧ ∀ x ∈ p, met.getD x.toNat false = false) := by
  intro p
  induction p with
  | nil => intro met hl; simp [ordGo]
  | cons x xs ih =>
    intro met hl
    rw [ordGo]
    cases q : inB x 0 ((n : Int) - 1)
    · simp [q]
    · have hx := inB_iff.1 q
      have hxl : x.toNat < met.length := by omega
      cases q2 : met.getD x.toNat false
      · rw [if_pos rfl, if_neg (by simp), ih (met.set x.toNat true) (by simpa using hl)]
        have key : ∀ y ∈ xs, inB y 0 ((n : Int) - 1) = true → ((met.set x.toNat true).getD y.toNat false = false ↔ y ≠ x ∧ met.getD y.toNat false = false) := by
          intro y _ hy
          have hy2 := inB_iff.1 hy
          have hyl : y.toNat < met.length := by omega
          simp only [List.getD_eq_getElem?_getD, List.getElem?_set]
          by_cases e : x.toNat = y.toNat
          · have : y = x := by omega
            subst this
            simp [hxl]
          · have : y ≠ x := fun h => e (by rw [h])
            simp [e, this]
        constructor
        · rintro ⟨h1, h2, h3⟩
          refine ⟨fun y hy => ?_, ?_, fun y hy => ?_⟩
          · rcases List.mem_cons.1 hy with rfl | h
            · exact q
            · exact h1 y h
          · rw [List.nodup_cons]
            exact ⟨fun h => ((key x h q).1 (h3 x h)).1 rfl, h2⟩
          · rcases List.mem_cons.1 hy with rfl | h
            · exact q2
            · exact ((key y h (h1 y h)).1 (h3 y h)).2
        · rintro ⟨h1, h2, h3⟩
          rw [List.nodup_cons] at h2
          refine ⟨fun y hy => h1 y (List.mem_cons_of_mem _ hy), h2.2, fun y hy => (key y hy (h1 y (List.mem_cons_of_mem _ hy))).2 ⟨fun e => h2.1 (e ▸ hy), h3 y (List.mem_cons_of_mem _ hy)⟩⟩
      · rw [if_pos rfl, if_pos rfl]
        constructor
        · intro h; cases h
        · rintro ⟨-, -, h3⟩
          have := h3 x List.mem_cons_self
          rw [q2] at this; cases this
theorem order_eq (n : Nat) (p : List Int) : (ordGo n p (List.replicate n false) && decide (p.length = n)) = orderB n p := by
  unfold orderB
  by_cases hl : p.length = n
  · rw [decide_eq_true hl, Bool.and_true, Bool.and_true]
    apply Bool.eq_iff_iff.2
    rw [ordGo_iff n p _ (List.length_replicate)]
    have h0 : ∀ x ∈ p, (List.replicate n false).getD x.toNat false = false := by
      intro x _
      rw [List.getD_eq_getElem?_getD, List.getElem?_replicate]
      split <;> rfl
    have hp := pigeons (p := p) (upTo_nodup n) (by rw [hl, upTo, List.length_map, List.length_range])
    constructor
    · rintro ⟨h1, h2, -⟩
      rw [List.all_eq_true]
      intro i hi
      rw [List.any_eq_true]
      have := hp.2 ⟨fun x hx => upTo_mem.2 (h1 x hx), h2⟩ (i : Int) (upTo_mem.2 (inB_iff.2 (by have := List.mem_range.1 hi; omega)))
      exact ⟨_, this, decide_eq_true rfl⟩
    · intro h
      rw [List.all_eq_true] at h
      have h2 := hp.1 fun x hx => by
        have hx2 := inB_iff.1 (upTo_mem.1 hx)
        have := h x.toNat (List.mem_range.2 (by omega))
        rw [List.any_eq_true] at this
        obtain ⟨y, hy, e⟩ := this
        have e2 := of_decide_eq_true e
        rw [show x = y by omega]; exact hy
      exact ⟨fun x hx => upTo_mem.1 (h2.1 x hx), h2.2, h0⟩
  · rw [decide_eq_false hl, Bool.and_false, Bool.and_false]
theorem specOrder_ev (p : List Int) (n : Nat) (hn : n ≤ 6) (hp : p.length ≤ 35184372088832) : Ev (fun k => spec_l01Order.f k p (n : Int)) (orderB n p) := by
  have h := specOrder_l0 p n hn hp p.length 0 (List.replicate n false) (by omega) (by rw [List.length_replicate])
  rw [List.drop_zero, order_eq] at h
  exact Ev.congr (fun k => by rw [spec_l01Order.f, if_pos (Int.natCast_nonneg n), Int.toNat_natCast, if_pos (by omega)]; rfl) h
theorem order_len {n : Nat} {p : List Int} (h : orderB n p = true) : p.length = n := by
  rw [orderB, Bool.and_eq_true] at h
  exact of_decide_eq_true h.2
theorem renOne (p : List Int) (a : Int) (h1 : 0 ≤ a) (h2 : a < (p.length : Int)) : impl_RenameColours_2_1.f a p = some (rd p a) := by rw [impl_RenameColours_2_1.f, if_pos h1, if_pos h2]
theorem renTile (p : List Int) (x : STile) (h : (0 ≤ x.f0 ∧ x.f0 < (p.length : Int)) ∧ (0 ≤ x.f1 ∧ x.f1 < (p.length : Int)) ∧ (0 ≤ x.f2 ∧ x.f2 < (p.length : Int)) ∧ (0 ≤ x.f3 ∧ x.f3 < (p.length : Int))) :
    impl_RenameColours_2.f x.f0 x.f1 x.f2 x.f3 p = some ((toS (renT p (toT x))).f0, (toS (renT p (toT x))).f1, (toS (renT p (toT x))).f2, (toS (renT p (toT x))).f3) := by
  obtain ⟨⟨a1, a2⟩, ⟨b1, b2⟩, ⟨c1, c2⟩, ⟨d1, d2⟩⟩ := h
  rw [impl_RenameColours_2.f, impl_Tile_coloured_at_impl_RenameColours_2_1.f, renOne p _ a1 a2, renOne p _ b1 b2, renOne p _ c1 c2, renOne p _ d1 d2]
  rfl
theorem implRenamed_ev (C : Int) (l : List STile) (p : List Int) (hl : l.length ≤ 16) (ht : ∀ x ∈ l, (0 ≤ x.f0 ∧ x.f0 < (p.length : Int)) ∧ (0 ≤ x.f1 ∧ x.f1 < (p.length : Int)) ∧ (0 ≤ x.f2 ∧ x.f2 < (p.length : Int)) ∧ (0 ≤ x.f3 ∧ x.f3 < (p.length : Int))) : ∀ d m (acc : List STile), m + d = l.length → acc.length = m →
    Ev (fun k => impl_changed_at_impl_RenameColours_2.l0 k acc l (l.length : Int) (m : Int) C l p) (flat (limR C (acc.map toT ++ ((l.drop m).map toT).map (renT p)))) := by
  intro d
  induction d with
  | zero =>
    intro m acc hm ha
    have b1 : ¬ (m : Int) < (l.length : Int) := by omega
    refine Ev.step (fun k => ?_) (Ev.now _)
    rw [impl_changed_at_impl_RenameColours_2.l0, if_neg b1, limited_f C acc (by omega), List.drop_of_length_le (by omega)]
    simp [flat]
  | succ d ih =>
    intro m acc hm ha
    have hlt : m < l.length := by omega
    have b1 : (m : Int) < (l.length : Int) := by omega
    have b2 : (0 : Int) ≤ (m : Int) := Int.natCast_nonneg m
    have b3 : acc.length < 4398046511104 := by omega
    have hm9 : m < 1000000000 := by omega
    have hd : l.drop m = l[m] :: l.drop (m + 1) := List.drop_eq_getElem_cons hlt
    have hi := ih (m + 1) (acc ++ [toS (renT p (toT l[m]))]) (by omega) (by simp; omega)
    have e : acc.map toT ++ ((l.drop m).map toT).map (renT p) = (acc ++ [toS (renT p (toT l[m]))]).map toT ++ ((l.drop (m + 1)).map toT).map (renT p) := by
      rw [hd]; simp only [List.map_cons, List.map_append, List.map_nil, List.append_assoc, List.cons_append, List.nil_append, toT_toS]
    rw [e]
    refine Ev.step (fun k => ?_) hi
    rw [impl_changed_at_impl_RenameColours_2.l0, if_pos b1, if_pos b2, if_pos b1, rdT_get l m hlt, renTile p _ (ht _ (List.getElem_mem hlt)), wrap_succ m hm9, Option.bind_some, if_pos b3]
theorem specRenamed_ev (C : Int) (l : List STile) (p : List Int) (hl : l.length ≤ 16) (ht : ∀ x ∈ l, (0 ≤ x.f0 ∧ x.f0 < (p.length : Int)) ∧ (0 ≤ x.f1 ∧ x.f1 < (p.length : Int)) ∧ (0 ≤ x.f2 ∧ x.f2 < (p.length : Int)) ∧ (0 ≤ x.f3 ∧ x.f3 < (p.length : Int))) : ∀ d m (acc : List STile), m + d = l.length → acc.length = m →
    Ev (fun k => spec_l01Renamed.l0 k p acc (m : Int) C l) (C, (sortT (acc.map toT ++ ((l.drop m).map toT).map (renT p))).map toS) := by
  intro d
  induction d with
  | zero =>
    intro m acc hm ha
    have b1 : ¬ (m : Int) < (l.length : Int) := by omega
    refine Ev.step (fun k => ?_) (Ev.now _)
    rw [spec_l01Renamed.l0, if_neg b1, specMade_f C acc (by omega), List.drop_of_length_le (by omega)]
    simp
  | succ d ih =>
    intro m acc hm ha
    have hlt : m < l.length := by omega
    have b1 : (m : Int) < (l.length : Int) := by omega
    have b2 : (0 : Int) ≤ (m : Int) := Int.natCast_nonneg m
    have b3 : acc.length < 4398046511104 := by omega
    have hm9 : m < 1000000000 := by omega
    have hd : l.drop m = l[m] :: l.drop (m + 1) := List.drop_eq_getElem_cons hlt
    have hi := ih (m + 1) (acc ++ [toS (renT p (toT l[m]))]) (by omega) (by simp; omega)
    have e : acc.map toT ++ ((l.drop m).map toT).map (renT p) = (acc ++ [toS (renT p (toT l[m]))]).map toT ++ ((l.drop (m + 1)).map toT).map (renT p) := by
      rw [hd]; simp only [List.map_cons, List.map_append, List.map_nil, List.append_assoc, List.cons_append, List.nil_append, toT_toS]
    rw [e]
    obtain ⟨⟨a1, a2⟩, ⟨c1, c2⟩, ⟨d1, d2⟩, ⟨e1, e2⟩⟩ := ht _ (List.getElem_mem hlt)
    refine Ev.step (fun k => ?_) hi
    rw [spec_l01Renamed.l0, if_pos b1, if_pos b2, rdT_get l m hlt, if_pos a1, if_pos a2, if_pos c1, if_pos c2, if_pos d1, if_pos d2, if_pos e1, if_pos e2, if_pos b3, wrap_succ m hm9]; rfl
theorem nat_of {C : Int} (h : 1 ≤ C) : ((C.toNat : Nat) : Int) = C := by omega
theorem specRename_ev (C : Int) (l : List STile) (p : List Int) (hl : l.length ≤ 35184372088832) (hp : p.length ≤ 35184372088832) : Ev (fun k => spec_RenameColours.f k C l p) (flat (renR C (l.map toT) p)) := by
  have hin : inLim l.length = true := by simpa [inLim] using hl
  have e1 : spec_l01Is.f C l = some (isS C (l.map toT)) := by rw [spec_l01Is.f, if_pos hin]
  unfold renR
  cases hs : isS C (l.map toT)
  · refine Ev.congr (fun k => ?_) (Ev.now _)
    rw [spec_RenameColours.f, e1, hs]; rfl
  · have h1 := isS_lens hs
    rw [List.length_map] at h1
    have ho := specOrder_ev p C.toNat (by omega) hp
    rw [nat_of h1.1] at ho
    refine Ev.congr (f := fun k => (spec_l01Order.f k p C).bind fun t => if t = true then (spec_l01Renamed.f k C l p).bind fun b => some (b.1, b.2, 0) else some (0, [], 2)) (fun k => by rw [spec_RenameColours.f, e1, hs]; rfl) ?_
    refine Ev.bind ho ?_
    cases hb : orderB C.toNat p
    · exact Ev.now _
    · have hpl := order_len hb
      have ht := isS_tiles hs
      have hr := specRenamed_ev C l p (by omega) (fun x hx => by have := ht x hx; omega) l.length 0 [] (by omega) rfl
      rw [List.drop_zero, List.map_nil, List.nil_append] at hr
      refine Ev.congr (fun k => if_pos rfl) ?_
      exact Ev.bind (a := (C, (sortT ((l.map toT).map (renT p))).map toS)) (Ev.congr (fun k => by rw [spec_l01Renamed.f]; rfl) hr) (Ev.now _)
theorem implRename_ev (C : Int) (l : List STile) (p : List Int) (hl : l.length ≤ 35184372088832) (hp : p.length ≤ 35184372088832) : Ev (fun k => impl_RenameColours.f k C l p) (flat (renR C (l.map toT) p)) := by
  have hin : inLim l.length = true := by simpa [inLim] using hl
  have e1 : impl_IsSet.f C l = some (isS C (l.map toT)) := by rw [impl_IsSet.f, if_pos hin]
  unfold renR
  cases hs : isS C (l.map toT)
  · refine Ev.congr (fun k => ?_) (Ev.now _)
    rw [impl_RenameColours.f, impl_setCode_at_impl_RenameColours_1.f, e1, hs]; rfl
  · have h1 := isS_lens hs
    rw [List.length_map] at h1
    have ho := isOrder_ev p C.toNat (by omega) hp
    rw [nat_of h1.1] at ho
    have hcode : Ev (fun k => impl_setCode_at_impl_RenameColours_1.f k C l p C l) (if orderB C.toNat p = true then 0 else 2) := by
      refine Ev.congr (f := fun k => (impl_RenameColours_1.f k p C l).bind fun b => if b = true then some 0 else some 2) (fun k => by rw [impl_setCode_at_impl_RenameColours_1.f, e1, hs]; rfl) ?_
      refine Ev.bind (a := orderB C.toNat p) (Ev.congr (f := fun k => (impl_isOrder.f k p C).bind fun t => some t) (fun k => by rw [impl_RenameColours_1.f]) (Ev.bind ho (Ev.now _))) ?_
      refine Ev.congr (fun k => ?_) (Ev.now _)
      cases orderB C.toNat p <;> rfl
    refine Ev.congr (f := fun k => (impl_setCode_at_impl_RenameColours_1.f k C l p C l).bind fun t => if t = 0 then (impl_changed_at_impl_RenameColours_2.f k C l p).bind fun b => some (b.1, b.2.1, b.2.2) else some (0, [], t)) (fun k => by rw [impl_RenameColours.f]) ?_
    refine Ev.bind hcode ?_
    cases hb : orderB C.toNat p
    · exact Ev.now _
    · have hpl := order_len hb
      have ht := isS_tiles hs
      have hr := implRenamed_ev C l p (by omega) (fun x hx => by have := ht x hx; omega) l.length 0 [] (by omega) rfl
      rw [List.drop_zero, List.map_nil, List.nil_append, limR_in (by omega) (by simp; omega)] at hr
      refine Ev.congr (fun k => if_pos rfl) ?_
      refine Ev.bind (a := flat ((C, sortT ((l.map toT).map (renT p))), 0)) (Ev.congr (fun k => ?_) hr) (Ev.now _)
      rw [impl_changed_at_impl_RenameColours_2.f, e1, hs]; rfl
theorem specRenameColours_any (C : Int) (A : Option Addr) (ts : List T4) (n c : Nat) (A' : Option Addr) (p : List Int) (n' c' : Nat) (w : World) (hn : n = ts.length) (hA : RT w A ts) (hnc : n ≤ c) (hl : n ≤ 35184372088832) (hn' : n' = p.length) (hA' : RI w A' p) (hnc' : n' ≤ c') (hl' : n' ≤ 35184372088832) :
    Calls Try.prog 39 #[.agg #[.int .i64 C, .slice A n c], .slice A' n' c'] w fun e w' => ∃ v xc xs code, renR C ts p = ((xc, xs), code) ∧ e = .returned (.tuple #[.agg #[.int .i64 xc, v], .int .i64 code]) ∧ OW w' w.heap.size w'.heap.size 45 4 v xs.length (tcells xs) ∧ Below w.heap.size w w' := by
  subst hn hn'
  obtain ⟨k, hk⟩ := (specRename_ev C (ts.map toS) p (by simpa using hl) hl').rounds
  rw [map_toTS] at hk
  have h := spec_RenameColours.calls k C A c (ts.map toS) A' c' p _ _ _ w (C_of_rt hA (by omega)) (by simpa using hnc) (C_of_ri hA' (by omega)) hnc' hk
  rw [List.length_map] at h
  exact h.mono fun e w' ⟨v, he, hR, hB⟩ => ⟨v, _, _, _, rfl, he, ow_of_RT hR, hB⟩
theorem implRenameColours_any (C : Int) (A : Option Addr) (ts : List T4) (n c : Nat) (A' : Option Addr) (p : List Int) (n' c' : Nat) (w : World) (hn : n = ts.length) (hA : RT w A ts) (hnc : n ≤ c) (hl : n ≤ 35184372088832) (hn' : n' = p.length) (hA' : RI w A' p) (hnc' : n' ≤ c') (hl' : n' ≤ 35184372088832) :
    Calls Try.prog 41 #[.agg #[.int .i64 C, .slice A n c], .slice A' n' c'] w fun e w' => ∃ v xc xs code, renR C ts p = ((xc, xs), code) ∧ e = .returned (.tuple #[.agg #[.int .i64 xc, v], .int .i64 code]) ∧ OW w' w.heap.size w'.heap.size 45 4 v xs.length (tcells xs) ∧ Below w.heap.size w w' := by
  subst hn hn'
  obtain ⟨k, hk⟩ := (implRename_ev C (ts.map toS) p (by simpa using hl) hl').rounds
  rw [map_toTS] at hk
  have h := impl_RenameColours.calls k C A c (ts.map toS) A' c' p _ _ _ w (C_of_rt hA (by omega)) (by simpa using hnc) (C_of_ri hA' (by omega)) hnc' hk
  rw [List.length_map] at h
  exact h.mono fun e w' ⟨v, he, hR, hB⟩ => ⟨v, _, _, _, rfl, he, ow_of_RT hR, hB⟩
end Go.Proofs.Ytnjmgmdpkogocaa

/-
  The walk of the law FnExactRenameColours.
-/
namespace Go.Proofs.Ytnjmgmdpkogocaa
open Go Go.RowKit Go.Proofs
set_option linter.unusedVariables false
set_option linter.unusedSimpArgs false

set_option maxHeartbeats 16000000 in
set_option maxRecDepth 100000 in
theorem lawRenameColours_any (w : World) (C0 : Int) (A0 : Option Addr) (ts0 : List T4) (n0 c0 : Nat) (hn0 : n0 = ts0.length) (hA0 : RT w A0 ts0) (hnc0 : n0 ≤ c0) (hl0 : n0 ≤ 35184372088832) (hC0 : -9223372036854775808 ≤ C0 ∧ C0 ≤ 9223372036854775807) (A1 : Option Addr) (ts1 : List Int) (n1 c1 : Nat) (hn1 : n1 = ts1.length) (hA1 : RI w A1 ts1) (hnc1 : n1 ≤ c1) (hl1 : n1 ≤ 35184372088832) :
    Calls Try.prog 11 #[.agg #[.int .i64 C0, .slice A0 n0 c0], .slice A1 n1 c1] w fun e w' => e = .returned (.bool true) ∧ Below w.heap.size w w' := by
  subst hn0
  have HA0 := Lib.hid hA0; clear hA0
  subst hn1
  have HA1 := Lib.hid hA1; clear hA1
  by_cases hbig0 : (1048576 : Int) < ((ts1.length : Nat) : Int)
  · go_enter Try.func11, Try.ntmps11
    go_wp2_with fail
    go_ret
    exact ⟨rfl, by simpa using (Below.refl _ _).alloc (Nat.le_refl _) _⟩
  · replace hbig0 : ((ts1.length : Nat) : Int) ≤ 1048576 := by omega
    by_cases hbig1 : (1048576 : Int) < ((ts0.length : Nat) : Int)
    · go_enter Try.func11, Try.ntmps11
      go_wp2_with fail
      refine namec1 ?_
      intro w1 b0 hz hB
      have tw1 : w.heap.size + 1 ≤ w1.heap.size := by omega
      clear hz
      have sw1 : w.heap.size ≤ w1.heap.size := hB.size
      have hE := Lib.hid (hB)
      clear hB
      refine (szSet_any C0 A0 ts0.length c0 (1048576) w1 (by omega) (by omega) (by omega)).mono ?_
      rintro e w2 ⟨rfl, hB⟩
      rw [if_pos (show (1048576 : Int) < (ts0.length : Nat) by omega)]
      replace b0 := b0.below hB b0.lt
      have sw2 : w1.heap.size ≤ w2.heap.size := hB.size
      replace hE := Lib.hid (below_to hE.out hB)
      clear hB
      go_wp2_with fail
      go_ret
      exact ⟨rfl, hE.out⟩
    · replace hbig1 : ((ts0.length : Nat) : Int) ≤ 1048576 := by omega
      obtain ⟨r_, hr_⟩ : ∃ r, renR C0 ts0 ts1 = r := ⟨_, rfl⟩
      obtain ⟨⟨rc1, r1⟩, r2⟩ := r_
      have hb1 : r1.length ≤ 1048576 := by have h_ := renR_len C0 ts0 ts1; rw [hr_] at h_; exact h_
      have HR := Lib.hid hr_; clear hr_
      go_enter Try.func11, Try.ntmps11
      go_wp2_with fail
      refine namec1 ?_
      intro w1 b0 hz hB
      have tw1 : w.heap.size + 1 ≤ w1.heap.size := by omega
      clear hz
      have sw1 : w.heap.size ≤ w1.heap.size := hB.size
      have hE := Lib.hid (hB)
      clear hB
      refine (szSet_any C0 A0 ts0.length c0 (1048576) w1 (by omega) (by omega) (by omega)).mono ?_
      rintro e w2 ⟨rfl, hB⟩
      rw [if_neg (show ¬ (1048576 : Int) < (ts0.length : Nat) by omega)]
      replace b0 := b0.below hB b0.lt
      have sw2 : w1.heap.size ≤ w2.heap.size := hB.size
      replace hE := Lib.hid (below_to hE.out hB)
      clear hB
      have l0 := b0.lt
      have c0_0 : w2.cell? ⟨w.heap.size, 0, none⟩ = some (.int .i64 C0) := b0.cell rfl
      have c0_1 : w2.cell? ⟨w.heap.size, 1, none⟩ = some (.slice A0 ts0.length c0) := b0.cell rfl
      go_wp2_with fail
      clear l0 c0_0 c0_1
      refine (toSet_any C0 A0 ts0 ts0.length c0 w2 rfl (HA0.out.below hE.out) (by omega)).mono ?_
      rintro e w3 ⟨v_, rfl, hO, hB⟩
      obtain ⟨A1_, c1_, rfl, -, -⟩ := hO.reads
      have O1 := Lib.hid (OW.of hO)
      clear hO
      replace b0 := b0.below hB b0.lt
      have sw3 : w2.heap.size ≤ w3.heap.size := hB.size
      replace hE := Lib.hid (below_to hE.out hB)
      clear hB
      have l0 := b0.lt
      have c0_0 : w3.cell? ⟨w.heap.size, 0, none⟩ = some (.int .i64 C0) := b0.cell rfl
      have c0_1 : w3.cell? ⟨w.heap.size, 1, none⟩ = some (.slice A0 ts0.length c0) := b0.cell rfl
      go_wp2_with fail
      clear l0 c0_0 c0_1
      refine (toInt64S_any A1 ts1 ts1.length c1 w3 rfl (HA1.out.below hE.out) (by omega)).mono ?_
      rintro e w4 ⟨v_, rfl, hO, hB⟩
      obtain ⟨A2_, c2_, rfl, -, -⟩ := hO.reads
      have O2 := Lib.hid (OW.of hO)
      clear hO
      replace b0 := b0.below hB b0.lt
      replace O1 := Lib.hid (O1.out.to hB)
      have sw4 : w3.heap.size ≤ w4.heap.size := hB.size
      replace hE := Lib.hid (below_to hE.out hB)
      clear hB
      have l0 := b0.lt
      have c0_0 : w4.cell? ⟨w.heap.size, 0, none⟩ = some (.int .i64 C0) := b0.cell rfl
      have c0_1 : w4.cell? ⟨w.heap.size, 1, none⟩ = some (.slice A0 ts0.length c0) := b0.cell rfl
      go_wp2_with fail
      clear l0 c0_0 c0_1
      refine (specRenameColours_any C0 A1_ ts0 ts0.length c1_ A2_ ts1 ts1.length c2_ w4 rfl (rt_of O1.out rfl) (le_of O1.out) (by omega) rfl (ri_of O2.out rfl) (le_of O2.out) (by omega)).mono ?_
      rintro e w5 ⟨v0_, xc0_, x0_, x1_, hR_, rfl, hO0, hB⟩
      obtain ⟨rfl, rfl, rfl⟩ : rc1 = xc0_ ∧ r1 = x0_ ∧ r2 = x1_ := (by have h_ := HR.out.symm.trans hR_; simpa [and_assoc] using h_)
      clear hR_
      obtain ⟨A3_, c3_, rfl, -⟩ := hO0.form
      have O3 := Lib.hid hO0
      clear hO0
      replace b0 := b0.below hB b0.lt
      replace O1 := Lib.hid (O1.out.to hB)
      replace O2 := Lib.hid (O2.out.to hB)
      have sw5 : w4.heap.size ≤ w5.heap.size := hB.size
      replace hE := Lib.hid (below_to hE.out hB)
      clear hB
      have l0 := b0.lt
      have c0_0 : w5.cell? ⟨w.heap.size, 0, none⟩ = some (.int .i64 C0) := b0.cell rfl
      have c0_1 : w5.cell? ⟨w.heap.size, 1, none⟩ = some (.slice A0 ts0.length c0) := b0.cell rfl
      go_wp2_with fail
      clear l0 c0_0 c0_1
      refine namec1 ?_
      intro w6 b1 hz hB
      have tw6 : w5.heap.size + 1 ≤ w6.heap.size := by omega
      clear hz
      replace b0 := b0.below hB b0.lt
      replace O1 := Lib.hid (O1.out.to hB)
      replace O2 := Lib.hid (O2.out.to hB)
      replace O3 := Lib.hid (O3.out.to hB)
      have sw6 : w5.heap.size ≤ w6.heap.size := hB.size
      replace hE := Lib.hid (below_to hE.out hB)
      clear hB
      refine (toSet_any C0 A0 ts0 ts0.length c0 w6 rfl (HA0.out.below hE.out) (by omega)).mono ?_
      rintro e w7 ⟨v_, rfl, hO, hB⟩
      obtain ⟨A4_, c4_, rfl, -, -⟩ := hO.reads
      have O4 := Lib.hid (OW.of hO)
      clear hO
      replace b0 := b0.below hB b0.lt
      replace b1 := b1.below hB b1.lt
      replace O1 := Lib.hid (O1.out.to hB)
      replace O2 := Lib.hid (O2.out.to hB)
      replace O3 := Lib.hid (O3.out.to hB)
      have sw7 : w6.heap.size ≤ w7.heap.size := hB.size
      replace hE := Lib.hid (below_to hE.out hB)
      clear hB
      have l0 := b0.lt
      have c0_0 : w7.cell? ⟨w.heap.size, 0, none⟩ = some (.int .i64 C0) := b0.cell rfl
      have c0_1 : w7.cell? ⟨w.heap.size, 1, none⟩ = some (.slice A0 ts0.length c0) := b0.cell rfl
      have l1 := b1.lt
      have c1_0 : w7.cell? ⟨w5.heap.size, 0, none⟩ = some (.int .i64 rc1) := b1.cell rfl
      have c1_1 : w7.cell? ⟨w5.heap.size, 1, none⟩ = some (.slice A3_ r1.length c3_) := b1.cell rfl
      go_wp2_with fail
      clear l0 c0_0 c0_1 l1 c1_0 c1_1
      refine namec1 ?_
      intro w8 b2 hz hB
      have tw8 : w7.heap.size + 1 ≤ w8.heap.size := by omega
      clear hz
      replace b0 := b0.below hB b0.lt
      replace b1 := b1.below hB b1.lt
      replace O1 := Lib.hid (O1.out.to hB)
      replace O2 := Lib.hid (O2.out.to hB)
      replace O3 := Lib.hid (O3.out.to hB)
      replace O4 := Lib.hid (O4.out.to hB)
      have sw8 : w7.heap.size ≤ w8.heap.size := hB.size
      replace hE := Lib.hid (below_to hE.out hB)
      clear hB
      refine (toInt64S_any A1 ts1 ts1.length c1 w8 rfl (HA1.out.below hE.out) (by omega)).mono ?_
      rintro e w9 ⟨v_, rfl, hO, hB⟩
      obtain ⟨A5_, c5_, rfl, -, -⟩ := hO.reads
      have O5 := Lib.hid (OW.of hO)
      clear hO
      replace b0 := b0.below hB b0.lt
      replace b1 := b1.below hB b1.lt
      replace b2 := b2.below hB b2.lt
      replace O1 := Lib.hid (O1.out.to hB)
      replace O2 := Lib.hid (O2.out.to hB)
      replace O3 := Lib.hid (O3.out.to hB)
      replace O4 := Lib.hid (O4.out.to hB)
      have sw9 : w8.heap.size ≤ w9.heap.size := hB.size
      replace hE := Lib.hid (below_to hE.out hB)
      clear hB
      have l0 := b0.lt
      have c0_0 : w9.cell? ⟨w.heap.size, 0, none⟩ = some (.int .i64 C0) := b0.cell rfl
      have c0_1 : w9.cell? ⟨w.heap.size, 1, none⟩ = some (.slice A0 ts0.length c0) := b0.cell rfl
      have l1 := b1.lt
      have c1_0 : w9.cell? ⟨w5.heap.size, 0, none⟩ = some (.int .i64 rc1) := b1.cell rfl
      have c1_1 : w9.cell? ⟨w5.heap.size, 1, none⟩ = some (.slice A3_ r1.length c3_) := b1.cell rfl
      have l2 := b2.lt
      have c2_0 : w9.cell? ⟨w7.heap.size, 0, none⟩ = some (.int .i64 C0) := b2.cell rfl
      have c2_1 : w9.cell? ⟨w7.heap.size, 1, none⟩ = some (.slice A4_ ts0.length c4_) := b2.cell rfl
      go_wp2_with fail
      clear l0 c0_0 c0_1 l1 c1_0 c1_1 l2 c2_0 c2_1
      refine (implRenameColours_any C0 A4_ ts0 ts0.length c4_ A5_ ts1 ts1.length c5_ w9 rfl (rt_of O4.out rfl) (le_of O4.out) (by omega) rfl (ri_of O5.out rfl) (le_of O5.out) (by omega)).mono ?_
      rintro e w10 ⟨v0_, xc0_, x0_, x1_, hR_, rfl, hO0, hB⟩
      obtain ⟨rfl, rfl, rfl⟩ : rc1 = xc0_ ∧ r1 = x0_ ∧ r2 = x1_ := (by have h_ := HR.out.symm.trans hR_; simpa [and_assoc] using h_)
      clear hR_
      obtain ⟨A6_, c6_, rfl, -⟩ := hO0.form
      have O6 := Lib.hid hO0
      clear hO0
      replace b0 := b0.below hB b0.lt
      replace b1 := b1.below hB b1.lt
      replace b2 := b2.below hB b2.lt
      replace O1 := Lib.hid (O1.out.to hB)
      replace O2 := Lib.hid (O2.out.to hB)
      replace O3 := Lib.hid (O3.out.to hB)
      replace O4 := Lib.hid (O4.out.to hB)
      replace O5 := Lib.hid (O5.out.to hB)
      have sw10 : w9.heap.size ≤ w10.heap.size := hB.size
      replace hE := Lib.hid (below_to hE.out hB)
      clear hB
      have l0 := b0.lt
      have c0_0 : w10.cell? ⟨w.heap.size, 0, none⟩ = some (.int .i64 C0) := b0.cell rfl
      have c0_1 : w10.cell? ⟨w.heap.size, 1, none⟩ = some (.slice A0 ts0.length c0) := b0.cell rfl
      have l1 := b1.lt
      have c1_0 : w10.cell? ⟨w5.heap.size, 0, none⟩ = some (.int .i64 rc1) := b1.cell rfl
      have c1_1 : w10.cell? ⟨w5.heap.size, 1, none⟩ = some (.slice A3_ r1.length c3_) := b1.cell rfl
      have l2 := b2.lt
      have c2_0 : w10.cell? ⟨w7.heap.size, 0, none⟩ = some (.int .i64 C0) := b2.cell rfl
      have c2_1 : w10.cell? ⟨w7.heap.size, 1, none⟩ = some (.slice A4_ ts0.length c4_) := b2.cell rfl
      go_wp2_with fail
      clear l0 c0_0 c0_1 l1 c1_0 c1_1 l2 c2_0 c2_1
      refine namec1 ?_
      intro w11 b3 hz hB
      have tw11 : w10.heap.size + 1 ≤ w11.heap.size := by omega
      clear hz
      replace b0 := b0.below hB b0.lt
      replace b1 := b1.below hB b1.lt
      replace b2 := b2.below hB b2.lt
      replace O1 := Lib.hid (O1.out.to hB)
      replace O2 := Lib.hid (O2.out.to hB)
      replace O3 := Lib.hid (O3.out.to hB)
      replace O4 := Lib.hid (O4.out.to hB)
      replace O5 := Lib.hid (O5.out.to hB)
      replace O6 := Lib.hid (O6.out.to hB)
      have sw11 : w10.heap.size ≤ w11.heap.size := hB.size
      replace hE := Lib.hid (below_to hE.out hB)
      clear hB
      refine (eqSet_any rc1 rc1 A6_ A3_ r1 r1 r1.length r1.length c6_ c3_ w11 rfl rfl (rt_of O6.out rfl) (rt_of O3.out rfl) (by omega) (by omega)).mono ?_
      rintro e w12 ⟨rfl, hB⟩
      simp only [decide_true, Bool.and_self]
      replace b0 := b0.below hB b0.lt
      replace b1 := b1.below hB b1.lt
      replace b2 := b2.below hB b2.lt
      replace b3 := b3.below hB b3.lt
      replace O1 := Lib.hid (O1.out.to hB)
      replace O2 := Lib.hid (O2.out.to hB)
      replace O3 := Lib.hid (O3.out.to hB)
      replace O4 := Lib.hid (O4.out.to hB)
      replace O5 := Lib.hid (O5.out.to hB)
      replace O6 := Lib.hid (O6.out.to hB)
      have sw12 : w11.heap.size ≤ w12.heap.size := hB.size
      replace hE := Lib.hid (below_to hE.out hB)
      clear hB
      have l0 := b0.lt
      have c0_0 : w12.cell? ⟨w.heap.size, 0, none⟩ = some (.int .i64 C0) := b0.cell rfl
      have c0_1 : w12.cell? ⟨w.heap.size, 1, none⟩ = some (.slice A0 ts0.length c0) := b0.cell rfl
      have l1 := b1.lt
      have c1_0 : w12.cell? ⟨w5.heap.size, 0, none⟩ = some (.int .i64 rc1) := b1.cell rfl
      have c1_1 : w12.cell? ⟨w5.heap.size, 1, none⟩ = some (.slice A3_ r1.length c3_) := b1.cell rfl
      have l2 := b2.lt
      have c2_0 : w12.cell? ⟨w7.heap.size, 0, none⟩ = some (.int .i64 C0) := b2.cell rfl
      have c2_1 : w12.cell? ⟨w7.heap.size, 1, none⟩ = some (.slice A4_ ts0.length c4_) := b2.cell rfl
      have l3 := b3.lt
      have c3_0 : w12.cell? ⟨w10.heap.size, 0, none⟩ = some (.int .i64 rc1) := b3.cell rfl
      have c3_1 : w12.cell? ⟨w10.heap.size, 1, none⟩ = some (.slice A6_ r1.length c6_) := b3.cell rfl
      go_wp2_with fail
      clear l0 c0_0 c0_1 l1 c1_0 c1_1 l2 c2_0 c2_1 l3 c3_0 c3_1
      have hD : Below w12.heap.size w12 w12.drew := (Below.refl _ _).drew
      replace b0 := b0.below hD b0.lt
      replace b1 := b1.below hD b1.lt
      replace b2 := b2.below hD b2.lt
      replace b3 := b3.below hD b3.lt
      replace O1 := Lib.hid (O1.out.to hD)
      replace O2 := Lib.hid (O2.out.to hD)
      replace O3 := Lib.hid (O3.out.to hD)
      replace O4 := Lib.hid (O4.out.to hD)
      replace O5 := Lib.hid (O5.out.to hD)
      replace O6 := Lib.hid (O6.out.to hD)
      replace hE := Lib.hid (below_to hE.out hD)
      clear hD
      have d1_w12 : w12.heap.size ≤ w12.drew.heap.size := Nat.le_refl _
      have d2_w12 : w12.drew.heap.size ≤ w12.heap.size := Nat.le_refl _
      go_region_held3 (fun w_ => w_.cell? ⟨w.heap.size, 0, none⟩ = some (.int .i64 C0) ∧ w_.cell? ⟨w.heap.size, 1, none⟩ = some (.slice A0 ts0.length c0) ∧ w_.cell? ⟨w5.heap.size, 0, none⟩ = some (.int .i64 rc1) ∧ w_.cell? ⟨w5.heap.size, 1, none⟩ = some (.slice A3_ r1.length c3_) ∧ w_.cell? ⟨w7.heap.size, 0, none⟩ = some (.int .i64 C0) ∧ w_.cell? ⟨w7.heap.size, 1, none⟩ = some (.slice A4_ ts0.length c4_) ∧ w_.cell? ⟨w10.heap.size, 0, none⟩ = some (.int .i64 rc1) ∧ w_.cell? ⟨w10.heap.size, 1, none⟩ = some (.slice A6_ r1.length c6_)) (first | exact ⟨b0.cell rfl, b0.cell rfl, b1.cell rfl, b1.cell rfl, b2.cell rfl, b2.cell rfl, b3.cell rfl, b3.cell rfl⟩)
        (first
          | (go_at_call 24; refine (toSet_any C0 A0 ts0 ts0.length c0 w12.drew rfl (HA0.out.below hE.out) (by omega)).mono ?_; rintro e w13 ⟨v_, rfl, hO, hB⟩; obtain ⟨A7_, c7_, rfl, -, -⟩ := hO.reads; have O7 := Lib.hid (OW.of hO); clear hO; replace b0 := b0.below hB b0.lt; replace b1 := b1.below hB b1.lt; replace b2 := b2.below hB b2.lt; replace b3 := b3.below hB b3.lt; replace O1 := Lib.hid (O1.out.to hB); replace O2 := Lib.hid (O2.out.to hB); replace O3 := Lib.hid (O3.out.to hB); replace O4 := Lib.hid (O4.out.to hB); replace O5 := Lib.hid (O5.out.to hB); replace O6 := Lib.hid (O6.out.to hB); have sw13 : w12.drew.heap.size ≤ w13.heap.size := hB.size; replace hE := Lib.hid (below_to hE.out hB); clear hB)
          | (go_at_call 17; refine (eqSet_any C0 C0 A4_ A7_ ts0 ts0 ts0.length ts0.length c4_ c7_ w13 rfl rfl (rt_of O4.out rfl) (rt_of O7.out rfl) (by omega) (by omega)).mono ?_; rintro e w14 ⟨rfl, hB⟩; simp only [decide_true, Bool.and_self]; replace b0 := b0.below hB b0.lt; replace b1 := b1.below hB b1.lt; replace b2 := b2.below hB b2.lt; replace b3 := b3.below hB b3.lt; replace O1 := Lib.hid (O1.out.to hB); replace O2 := Lib.hid (O2.out.to hB); replace O3 := Lib.hid (O3.out.to hB); replace O4 := Lib.hid (O4.out.to hB); replace O5 := Lib.hid (O5.out.to hB); replace O6 := Lib.hid (O6.out.to hB); replace O7 := Lib.hid (O7.out.to hB); have sw14 : w13.heap.size ≤ w14.heap.size := hB.size; replace hE := Lib.hid (below_to hE.out hB); clear hB))
      have l0 := b0.lt
      have c0_0 : w14.cell? ⟨w.heap.size, 0, none⟩ = some (.int .i64 C0) := b0.cell rfl
      have c0_1 : w14.cell? ⟨w.heap.size, 1, none⟩ = some (.slice A0 ts0.length c0) := b0.cell rfl
      have l1 := b1.lt
      have c1_0 : w14.cell? ⟨w5.heap.size, 0, none⟩ = some (.int .i64 rc1) := b1.cell rfl
      have c1_1 : w14.cell? ⟨w5.heap.size, 1, none⟩ = some (.slice A3_ r1.length c3_) := b1.cell rfl
      have l2 := b2.lt
      have c2_0 : w14.cell? ⟨w7.heap.size, 0, none⟩ = some (.int .i64 C0) := b2.cell rfl
      have c2_1 : w14.cell? ⟨w7.heap.size, 1, none⟩ = some (.slice A4_ ts0.length c4_) := b2.cell rfl
      have l3 := b3.lt
      have c3_0 : w14.cell? ⟨w10.heap.size, 0, none⟩ = some (.int .i64 rc1) := b3.cell rfl
      have c3_1 : w14.cell? ⟨w10.heap.size, 1, none⟩ = some (.slice A6_ r1.length c6_) := b3.cell rfl
      go_wp2_with fail
      clear l0 c0_0 c0_1 l1 c1_0 c1_1 l2 c2_0 c2_1 l3 c3_0 c3_1
      refine (toInt64S_any A1 ts1 ts1.length c1 w14 rfl (HA1.out.below hE.out) (by omega)).mono ?_
      rintro e w15 ⟨v_, rfl, hO, hB⟩
      obtain ⟨A8_, c8_, rfl, -, -⟩ := hO.reads
      have O8 := Lib.hid (OW.of hO)
      clear hO
      replace b0 := b0.below hB b0.lt
      replace b1 := b1.below hB b1.lt
      replace b2 := b2.below hB b2.lt
      replace b3 := b3.below hB b3.lt
      replace O1 := Lib.hid (O1.out.to hB)
      replace O2 := Lib.hid (O2.out.to hB)
      replace O3 := Lib.hid (O3.out.to hB)
      replace O4 := Lib.hid (O4.out.to hB)
      replace O5 := Lib.hid (O5.out.to hB)
      replace O6 := Lib.hid (O6.out.to hB)
      replace O7 := Lib.hid (O7.out.to hB)
      have sw15 : w14.heap.size ≤ w15.heap.size := hB.size
      replace hE := Lib.hid (below_to hE.out hB)
      clear hB
      have l0 := b0.lt
      have c0_0 : w15.cell? ⟨w.heap.size, 0, none⟩ = some (.int .i64 C0) := b0.cell rfl
      have c0_1 : w15.cell? ⟨w.heap.size, 1, none⟩ = some (.slice A0 ts0.length c0) := b0.cell rfl
      have l1 := b1.lt
      have c1_0 : w15.cell? ⟨w5.heap.size, 0, none⟩ = some (.int .i64 rc1) := b1.cell rfl
      have c1_1 : w15.cell? ⟨w5.heap.size, 1, none⟩ = some (.slice A3_ r1.length c3_) := b1.cell rfl
      have l2 := b2.lt
      have c2_0 : w15.cell? ⟨w7.heap.size, 0, none⟩ = some (.int .i64 C0) := b2.cell rfl
      have c2_1 : w15.cell? ⟨w7.heap.size, 1, none⟩ = some (.slice A4_ ts0.length c4_) := b2.cell rfl
      have l3 := b3.lt
      have c3_0 : w15.cell? ⟨w10.heap.size, 0, none⟩ = some (.int .i64 rc1) := b3.cell rfl
      have c3_1 : w15.cell? ⟨w10.heap.size, 1, none⟩ = some (.slice A6_ r1.length c6_) := b3.cell rfl
      go_wp2_with fail
      clear l0 c0_0 c0_1 l1 c1_0 c1_1 l2 c2_0 c2_1 l3 c3_0 c3_1
      refine (eqInt64S_any A5_ A8_ ts1 ts1 ts1.length ts1.length c5_ c8_ w15 rfl rfl (ri_of O5.out rfl) (ri_of O8.out rfl) (by omega) (by omega)).mono ?_
      rintro e w16 ⟨rfl, hB⟩
      simp only [decide_true, Bool.and_self]
      replace b0 := b0.below hB b0.lt
      replace b1 := b1.below hB b1.lt
      replace b2 := b2.below hB b2.lt
      replace b3 := b3.below hB b3.lt
      replace O1 := Lib.hid (O1.out.to hB)
      replace O2 := Lib.hid (O2.out.to hB)
      replace O3 := Lib.hid (O3.out.to hB)
      replace O4 := Lib.hid (O4.out.to hB)
      replace O5 := Lib.hid (O5.out.to hB)
      replace O6 := Lib.hid (O6.out.to hB)
      replace O7 := Lib.hid (O7.out.to hB)
      replace O8 := Lib.hid (O8.out.to hB)
      have sw16 : w15.heap.size ≤ w16.heap.size := hB.size
      replace hE := Lib.hid (below_to hE.out hB)
      clear hB
      have l0 := b0.lt
      have c0_0 : w16.cell? ⟨w.heap.size, 0, none⟩ = some (.int .i64 C0) := b0.cell rfl
      have c0_1 : w16.cell? ⟨w.heap.size, 1, none⟩ = some (.slice A0 ts0.length c0) := b0.cell rfl
      have l1 := b1.lt
      have c1_0 : w16.cell? ⟨w5.heap.size, 0, none⟩ = some (.int .i64 rc1) := b1.cell rfl
      have c1_1 : w16.cell? ⟨w5.heap.size, 1, none⟩ = some (.slice A3_ r1.length c3_) := b1.cell rfl
      have l2 := b2.lt
      have c2_0 : w16.cell? ⟨w7.heap.size, 0, none⟩ = some (.int .i64 C0) := b2.cell rfl
      have c2_1 : w16.cell? ⟨w7.heap.size, 1, none⟩ = some (.slice A4_ ts0.length c4_) := b2.cell rfl
      have l3 := b3.lt
      have c3_0 : w16.cell? ⟨w10.heap.size, 0, none⟩ = some (.int .i64 rc1) := b3.cell rfl
      have c3_1 : w16.cell? ⟨w10.heap.size, 1, none⟩ = some (.slice A6_ r1.length c6_) := b3.cell rfl
      go_wp2_with fail
      clear l0 c0_0 c0_1 l1 c1_0 c1_1 l2 c2_0 c2_1 l3 c3_0 c3_1
      obtain ⟨m_O4, hm_O4⟩ : ∃ m, m = ts0.length * 4 := ⟨_, rfl⟩
      have bm_O4 : m_O4 ≤ 40000000 := by omega
      have Hm_O4 := Lib.hid hm_O4; clear hm_O4
      refine (markSet_m w6.heap.size w7.heap.size C0 (.slice A4_ ts0.length c4_) ts0.length m_O4 (tcells ts0) (1) w16 Hm_O4.out O4.out (by omega) (by omega) (by omega)).mono ?_
      rintro e w17 ⟨rfl, hO, hK⟩
      clear O4
      have O4 := Lib.hid hO
      clear hO
      replace b0 := b0.only hK (by omega)
      replace b1 := b1.only hK (by omega)
      replace b2 := b2.only hK (by omega)
      replace b3 := b3.only hK (by omega)
      replace O1 := Lib.hid (O1.out.only hK (by omega))
      replace O2 := Lib.hid (O2.out.only hK (by omega))
      replace O3 := Lib.hid (O3.out.only hK (by omega))
      replace O5 := Lib.hid (O5.out.only hK (by omega))
      replace O6 := Lib.hid (O6.out.only hK (by omega))
      replace O7 := Lib.hid (O7.out.only hK (by omega))
      replace O8 := Lib.hid (O8.out.only hK (by omega))
      have sw17 : w16.heap.size ≤ w17.heap.size := hK.size
      replace hE := Lib.hid (below_only hE.out hK (by omega))
      clear hK
      have l0 := b0.lt
      have c0_0 : w17.cell? ⟨w.heap.size, 0, none⟩ = some (.int .i64 C0) := b0.cell rfl
      have c0_1 : w17.cell? ⟨w.heap.size, 1, none⟩ = some (.slice A0 ts0.length c0) := b0.cell rfl
      have l1 := b1.lt
      have c1_0 : w17.cell? ⟨w5.heap.size, 0, none⟩ = some (.int .i64 rc1) := b1.cell rfl
      have c1_1 : w17.cell? ⟨w5.heap.size, 1, none⟩ = some (.slice A3_ r1.length c3_) := b1.cell rfl
      have l2 := b2.lt
      have c2_0 : w17.cell? ⟨w7.heap.size, 0, none⟩ = some (.int .i64 C0) := b2.cell rfl
      have c2_1 : w17.cell? ⟨w7.heap.size, 1, none⟩ = some (.slice A4_ ts0.length c4_) := b2.cell rfl
      have l3 := b3.lt
      have c3_0 : w17.cell? ⟨w10.heap.size, 0, none⟩ = some (.int .i64 rc1) := b3.cell rfl
      have c3_1 : w17.cell? ⟨w10.heap.size, 1, none⟩ = some (.slice A6_ r1.length c6_) := b3.cell rfl
      go_wp2_with fail
      clear l0 c0_0 c0_1 l1 c1_0 c1_1 l2 c2_0 c2_1 l3 c3_0 c3_1
      obtain ⟨m_O5, hm_O5⟩ : ∃ m, m = ts1.length * 1 := ⟨_, rfl⟩
      have bm_O5 : m_O5 ≤ 40000000 := by omega
      have Hm_O5 := Lib.hid hm_O5; clear hm_O5
      refine (markInt64S_m w8.heap.size w9.heap.size (.slice A5_ ts1.length c5_) ts1.length m_O5 (icells ts1) ((1 + (m_O4 : Int))) w17 Hm_O5.out O5.out (by omega) (by omega) (by omega)).mono ?_
      rintro e w18 ⟨rfl, hO, hK⟩
      clear O5
      have O5 := Lib.hid hO
      clear hO
      replace b0 := b0.only hK (by omega)
      replace b1 := b1.only hK (by omega)
      replace b2 := b2.only hK (by omega)
      replace b3 := b3.only hK (by omega)
      replace O1 := Lib.hid (O1.out.only hK (by omega))
      replace O2 := Lib.hid (O2.out.only hK (by omega))
      replace O3 := Lib.hid (O3.out.only hK (by omega))
      replace O4 := Lib.hid (O4.out.only hK (by omega))
      replace O6 := Lib.hid (O6.out.only hK (by omega))
      replace O7 := Lib.hid (O7.out.only hK (by omega))
      replace O8 := Lib.hid (O8.out.only hK (by omega))
      have sw18 : w17.heap.size ≤ w18.heap.size := hK.size
      replace hE := Lib.hid (below_only hE.out hK (by omega))
      clear hK
      have l0 := b0.lt
      have c0_0 : w18.cell? ⟨w.heap.size, 0, none⟩ = some (.int .i64 C0) := b0.cell rfl
      have c0_1 : w18.cell? ⟨w.heap.size, 1, none⟩ = some (.slice A0 ts0.length c0) := b0.cell rfl
      have l1 := b1.lt
      have c1_0 : w18.cell? ⟨w5.heap.size, 0, none⟩ = some (.int .i64 rc1) := b1.cell rfl
      have c1_1 : w18.cell? ⟨w5.heap.size, 1, none⟩ = some (.slice A3_ r1.length c3_) := b1.cell rfl
      have l2 := b2.lt
      have c2_0 : w18.cell? ⟨w7.heap.size, 0, none⟩ = some (.int .i64 C0) := b2.cell rfl
      have c2_1 : w18.cell? ⟨w7.heap.size, 1, none⟩ = some (.slice A4_ ts0.length c4_) := b2.cell rfl
      have l3 := b3.lt
      have c3_0 : w18.cell? ⟨w10.heap.size, 0, none⟩ = some (.int .i64 rc1) := b3.cell rfl
      have c3_1 : w18.cell? ⟨w10.heap.size, 1, none⟩ = some (.slice A6_ r1.length c6_) := b3.cell rfl
      go_wp2_with fail
      clear l0 c0_0 c0_1 l1 c1_0 c1_1 l2 c2_0 c2_1 l3 c3_0 c3_1
      refine (eqSet_any rc1 rc1 A6_ A3_ r1 r1 r1.length r1.length c6_ c3_ w18 rfl rfl (rt_of O6.out rfl) (rt_of O3.out rfl) (by omega) (by omega)).mono ?_
      rintro e w19 ⟨rfl, hB⟩
      simp only [decide_true, Bool.and_self]
      replace b0 := b0.below hB b0.lt
      replace b1 := b1.below hB b1.lt
      replace b2 := b2.below hB b2.lt
      replace b3 := b3.below hB b3.lt
      replace O1 := Lib.hid (O1.out.to hB)
      replace O2 := Lib.hid (O2.out.to hB)
      replace O3 := Lib.hid (O3.out.to hB)
      replace O4 := Lib.hid (O4.out.to hB)
      replace O5 := Lib.hid (O5.out.to hB)
      replace O6 := Lib.hid (O6.out.to hB)
      replace O7 := Lib.hid (O7.out.to hB)
      replace O8 := Lib.hid (O8.out.to hB)
      have sw19 : w18.heap.size ≤ w19.heap.size := hB.size
      replace hE := Lib.hid (below_to hE.out hB)
      clear hB
      have l0 := b0.lt
      have c0_0 : w19.cell? ⟨w.heap.size, 0, none⟩ = some (.int .i64 C0) := b0.cell rfl
      have c0_1 : w19.cell? ⟨w.heap.size, 1, none⟩ = some (.slice A0 ts0.length c0) := b0.cell rfl
      have l1 := b1.lt
      have c1_0 : w19.cell? ⟨w5.heap.size, 0, none⟩ = some (.int .i64 rc1) := b1.cell rfl
      have c1_1 : w19.cell? ⟨w5.heap.size, 1, none⟩ = some (.slice A3_ r1.length c3_) := b1.cell rfl
      have l2 := b2.lt
      have c2_0 : w19.cell? ⟨w7.heap.size, 0, none⟩ = some (.int .i64 C0) := b2.cell rfl
      have c2_1 : w19.cell? ⟨w7.heap.size, 1, none⟩ = some (.slice A4_ ts0.length c4_) := b2.cell rfl
      have l3 := b3.lt
      have c3_0 : w19.cell? ⟨w10.heap.size, 0, none⟩ = some (.int .i64 rc1) := b3.cell rfl
      have c3_1 : w19.cell? ⟨w10.heap.size, 1, none⟩ = some (.slice A6_ r1.length c6_) := b3.cell rfl
      go_wp2_with fail
      clear l0 c0_0 c0_1 l1 c1_0 c1_1 l2 c2_0 c2_1 l3 c3_0 c3_1
      obtain ⟨m_O6, hm_O6⟩ : ∃ m, m = r1.length * 4 := ⟨_, rfl⟩
      have bm_O6 : m_O6 ≤ 40000000 := by omega
      have Hm_O6 := Lib.hid hm_O6; clear hm_O6
      refine (markSet_m w9.heap.size w10.heap.size rc1 (.slice A6_ r1.length c6_) r1.length m_O6 (tcells r1) (1) w19 Hm_O6.out O6.out (by omega) (by omega) (by omega)).mono ?_
      rintro e w20 ⟨rfl, hO, hK⟩
      clear O6
      have O6 := Lib.hid hO
      clear hO
      replace b0 := b0.only hK (by omega)
      replace b1 := b1.only hK (by omega)
      replace b2 := b2.only hK (by omega)
      replace b3 := b3.only hK (by omega)
      replace O1 := Lib.hid (O1.out.only hK (by omega))
      replace O2 := Lib.hid (O2.out.only hK (by omega))
      replace O3 := Lib.hid (O3.out.only hK (by omega))
      replace O4 := Lib.hid (O4.out.only hK (by omega))
      replace O5 := Lib.hid (O5.out.only hK (by omega))
      replace O7 := Lib.hid (O7.out.only hK (by omega))
      replace O8 := Lib.hid (O8.out.only hK (by omega))
      have sw20 : w19.heap.size ≤ w20.heap.size := hK.size
      replace hE := Lib.hid (below_only hE.out hK (by omega))
      clear hK
      have l0 := b0.lt
      have c0_0 : w20.cell? ⟨w.heap.size, 0, none⟩ = some (.int .i64 C0) := b0.cell rfl
      have c0_1 : w20.cell? ⟨w.heap.size, 1, none⟩ = some (.slice A0 ts0.length c0) := b0.cell rfl
      have l1 := b1.lt
      have c1_0 : w20.cell? ⟨w5.heap.size, 0, none⟩ = some (.int .i64 rc1) := b1.cell rfl
      have c1_1 : w20.cell? ⟨w5.heap.size, 1, none⟩ = some (.slice A3_ r1.length c3_) := b1.cell rfl
      have l2 := b2.lt
      have c2_0 : w20.cell? ⟨w7.heap.size, 0, none⟩ = some (.int .i64 C0) := b2.cell rfl
      have c2_1 : w20.cell? ⟨w7.heap.size, 1, none⟩ = some (.slice A4_ ts0.length c4_) := b2.cell rfl
      have l3 := b3.lt
      have c3_0 : w20.cell? ⟨w10.heap.size, 0, none⟩ = some (.int .i64 rc1) := b3.cell rfl
      have c3_1 : w20.cell? ⟨w10.heap.size, 1, none⟩ = some (.slice A6_ r1.length c6_) := b3.cell rfl
      go_wp2_with fail
      clear l0 c0_0 c0_1 l1 c1_0 c1_1 l2 c2_0 c2_1 l3 c3_0 c3_1
      refine (heldSet_m w9.heap.size w10.heap.size rc1 (.slice A6_ r1.length c6_) r1.length m_O6 (1) w20 Hm_O6.out O6.out (by omega) (by omega) (by omega)).mono ?_
      rintro e w21 ⟨rfl, hB⟩
      replace b0 := b0.below hB b0.lt
      replace b1 := b1.below hB b1.lt
      replace b2 := b2.below hB b2.lt
      replace b3 := b3.below hB b3.lt
      replace O1 := Lib.hid (O1.out.to hB)
      replace O2 := Lib.hid (O2.out.to hB)
      replace O3 := Lib.hid (O3.out.to hB)
      replace O4 := Lib.hid (O4.out.to hB)
      replace O5 := Lib.hid (O5.out.to hB)
      replace O6 := Lib.hid (O6.out.to hB)
      replace O7 := Lib.hid (O7.out.to hB)
      replace O8 := Lib.hid (O8.out.to hB)
      have sw21 : w20.heap.size ≤ w21.heap.size := hB.size
      replace hE := Lib.hid (below_to hE.out hB)
      clear hB
      have l0 := b0.lt
      have c0_0 : w21.cell? ⟨w.heap.size, 0, none⟩ = some (.int .i64 C0) := b0.cell rfl
      have c0_1 : w21.cell? ⟨w.heap.size, 1, none⟩ = some (.slice A0 ts0.length c0) := b0.cell rfl
      have l1 := b1.lt
      have c1_0 : w21.cell? ⟨w5.heap.size, 0, none⟩ = some (.int .i64 rc1) := b1.cell rfl
      have c1_1 : w21.cell? ⟨w5.heap.size, 1, none⟩ = some (.slice A3_ r1.length c3_) := b1.cell rfl
      have l2 := b2.lt
      have c2_0 : w21.cell? ⟨w7.heap.size, 0, none⟩ = some (.int .i64 C0) := b2.cell rfl
      have c2_1 : w21.cell? ⟨w7.heap.size, 1, none⟩ = some (.slice A4_ ts0.length c4_) := b2.cell rfl
      have l3 := b3.lt
      have c3_0 : w21.cell? ⟨w10.heap.size, 0, none⟩ = some (.int .i64 rc1) := b3.cell rfl
      have c3_1 : w21.cell? ⟨w10.heap.size, 1, none⟩ = some (.slice A6_ r1.length c6_) := b3.cell rfl
      go_wp2_with fail
      clear l0 c0_0 c0_1 l1 c1_0 c1_1 l2 c2_0 c2_1 l3 c3_0 c3_1
      refine (toSet_any C0 A0 ts0 ts0.length c0 w21 rfl (HA0.out.below hE.out) (by omega)).mono ?_
      rintro e w22 ⟨v_, rfl, hO, hB⟩
      obtain ⟨A9_, c9_, rfl, -, -⟩ := hO.reads
      have O9 := Lib.hid (OW.of hO)
      clear hO
      replace b0 := b0.below hB b0.lt
      replace b1 := b1.below hB b1.lt
      replace b2 := b2.below hB b2.lt
      replace b3 := b3.below hB b3.lt
      replace O1 := Lib.hid (O1.out.to hB)
      replace O2 := Lib.hid (O2.out.to hB)
      replace O3 := Lib.hid (O3.out.to hB)
      replace O4 := Lib.hid (O4.out.to hB)
      replace O5 := Lib.hid (O5.out.to hB)
      replace O6 := Lib.hid (O6.out.to hB)
      replace O7 := Lib.hid (O7.out.to hB)
      replace O8 := Lib.hid (O8.out.to hB)
      have sw22 : w21.heap.size ≤ w22.heap.size := hB.size
      replace hE := Lib.hid (below_to hE.out hB)
      clear hB
      have l0 := b0.lt
      have c0_0 : w22.cell? ⟨w.heap.size, 0, none⟩ = some (.int .i64 C0) := b0.cell rfl
      have c0_1 : w22.cell? ⟨w.heap.size, 1, none⟩ = some (.slice A0 ts0.length c0) := b0.cell rfl
      have l1 := b1.lt
      have c1_0 : w22.cell? ⟨w5.heap.size, 0, none⟩ = some (.int .i64 rc1) := b1.cell rfl
      have c1_1 : w22.cell? ⟨w5.heap.size, 1, none⟩ = some (.slice A3_ r1.length c3_) := b1.cell rfl
      have l2 := b2.lt
      have c2_0 : w22.cell? ⟨w7.heap.size, 0, none⟩ = some (.int .i64 C0) := b2.cell rfl
      have c2_1 : w22.cell? ⟨w7.heap.size, 1, none⟩ = some (.slice A4_ ts0.length c4_) := b2.cell rfl
      have l3 := b3.lt
      have c3_0 : w22.cell? ⟨w10.heap.size, 0, none⟩ = some (.int .i64 rc1) := b3.cell rfl
      have c3_1 : w22.cell? ⟨w10.heap.size, 1, none⟩ = some (.slice A6_ r1.length c6_) := b3.cell rfl
      go_wp2_with fail
      clear l0 c0_0 c0_1 l1 c1_0 c1_1 l2 c2_0 c2_1 l3 c3_0 c3_1
      refine (toInt64S_any A1 ts1 ts1.length c1 w22 rfl (HA1.out.below hE.out) (by omega)).mono ?_
      rintro e w23 ⟨v_, rfl, hO, hB⟩
      obtain ⟨A10_, c10_, rfl, -, -⟩ := hO.reads
      have O10 := Lib.hid (OW.of hO)
      clear hO
      replace b0 := b0.below hB b0.lt
      replace b1 := b1.below hB b1.lt
      replace b2 := b2.below hB b2.lt
      replace b3 := b3.below hB b3.lt
      replace O1 := Lib.hid (O1.out.to hB)
      replace O2 := Lib.hid (O2.out.to hB)
      replace O3 := Lib.hid (O3.out.to hB)
      replace O4 := Lib.hid (O4.out.to hB)
      replace O5 := Lib.hid (O5.out.to hB)
      replace O6 := Lib.hid (O6.out.to hB)
      replace O7 := Lib.hid (O7.out.to hB)
      replace O8 := Lib.hid (O8.out.to hB)
      replace O9 := Lib.hid (O9.out.to hB)
      have sw23 : w22.heap.size ≤ w23.heap.size := hB.size
      replace hE := Lib.hid (below_to hE.out hB)
      clear hB
      have l0 := b0.lt
      have c0_0 : w23.cell? ⟨w.heap.size, 0, none⟩ = some (.int .i64 C0) := b0.cell rfl
      have c0_1 : w23.cell? ⟨w.heap.size, 1, none⟩ = some (.slice A0 ts0.length c0) := b0.cell rfl
      have l1 := b1.lt
      have c1_0 : w23.cell? ⟨w5.heap.size, 0, none⟩ = some (.int .i64 rc1) := b1.cell rfl
      have c1_1 : w23.cell? ⟨w5.heap.size, 1, none⟩ = some (.slice A3_ r1.length c3_) := b1.cell rfl
      have l2 := b2.lt
      have c2_0 : w23.cell? ⟨w7.heap.size, 0, none⟩ = some (.int .i64 C0) := b2.cell rfl
      have c2_1 : w23.cell? ⟨w7.heap.size, 1, none⟩ = some (.slice A4_ ts0.length c4_) := b2.cell rfl
      have l3 := b3.lt
      have c3_0 : w23.cell? ⟨w10.heap.size, 0, none⟩ = some (.int .i64 rc1) := b3.cell rfl
      have c3_1 : w23.cell? ⟨w10.heap.size, 1, none⟩ = some (.slice A6_ r1.length c6_) := b3.cell rfl
      go_wp2_with fail
      clear l0 c0_0 c0_1 l1 c1_0 c1_1 l2 c2_0 c2_1 l3 c3_0 c3_1
      refine (implRenameColours_any C0 A9_ ts0 ts0.length c9_ A10_ ts1 ts1.length c10_ w23 rfl (rt_of O9.out rfl) (le_of O9.out) (by omega) rfl (ri_of O10.out rfl) (le_of O10.out) (by omega)).mono ?_
      rintro e w24 ⟨v0_, xc0_, x0_, x1_, hR_, rfl, hO0, hB⟩
      obtain ⟨rfl, rfl, rfl⟩ : rc1 = xc0_ ∧ r1 = x0_ ∧ r2 = x1_ := (by have h_ := HR.out.symm.trans hR_; simpa [and_assoc] using h_)
      clear hR_
      obtain ⟨A11_, c11_, rfl, -⟩ := hO0.form
      have O11 := Lib.hid hO0
      clear hO0
      replace b0 := b0.below hB b0.lt
      replace b1 := b1.below hB b1.lt
      replace b2 := b2.below hB b2.lt
      replace b3 := b3.below hB b3.lt
      replace O1 := Lib.hid (O1.out.to hB)
      replace O2 := Lib.hid (O2.out.to hB)
      replace O3 := Lib.hid (O3.out.to hB)
      replace O4 := Lib.hid (O4.out.to hB)
      replace O5 := Lib.hid (O5.out.to hB)
      replace O6 := Lib.hid (O6.out.to hB)
      replace O7 := Lib.hid (O7.out.to hB)
      replace O8 := Lib.hid (O8.out.to hB)
      replace O9 := Lib.hid (O9.out.to hB)
      replace O10 := Lib.hid (O10.out.to hB)
      have sw24 : w23.heap.size ≤ w24.heap.size := hB.size
      replace hE := Lib.hid (below_to hE.out hB)
      clear hB
      have l0 := b0.lt
      have c0_0 : w24.cell? ⟨w.heap.size, 0, none⟩ = some (.int .i64 C0) := b0.cell rfl
      have c0_1 : w24.cell? ⟨w.heap.size, 1, none⟩ = some (.slice A0 ts0.length c0) := b0.cell rfl
      have l1 := b1.lt
      have c1_0 : w24.cell? ⟨w5.heap.size, 0, none⟩ = some (.int .i64 rc1) := b1.cell rfl
      have c1_1 : w24.cell? ⟨w5.heap.size, 1, none⟩ = some (.slice A3_ r1.length c3_) := b1.cell rfl
      have l2 := b2.lt
      have c2_0 : w24.cell? ⟨w7.heap.size, 0, none⟩ = some (.int .i64 C0) := b2.cell rfl
      have c2_1 : w24.cell? ⟨w7.heap.size, 1, none⟩ = some (.slice A4_ ts0.length c4_) := b2.cell rfl
      have l3 := b3.lt
      have c3_0 : w24.cell? ⟨w10.heap.size, 0, none⟩ = some (.int .i64 rc1) := b3.cell rfl
      have c3_1 : w24.cell? ⟨w10.heap.size, 1, none⟩ = some (.slice A6_ r1.length c6_) := b3.cell rfl
      go_wp2_with fail
      clear l0 c0_0 c0_1 l1 c1_0 c1_1 l2 c2_0 c2_1 l3 c3_0 c3_1
      refine namec1 ?_
      intro w25 b4 hz hB
      have tw25 : w24.heap.size + 1 ≤ w25.heap.size := by omega
      clear hz
      replace b0 := b0.below hB b0.lt
      replace b1 := b1.below hB b1.lt
      replace b2 := b2.below hB b2.lt
      replace b3 := b3.below hB b3.lt
      replace O1 := Lib.hid (O1.out.to hB)
      replace O2 := Lib.hid (O2.out.to hB)
      replace O3 := Lib.hid (O3.out.to hB)
      replace O4 := Lib.hid (O4.out.to hB)
      replace O5 := Lib.hid (O5.out.to hB)
      replace O6 := Lib.hid (O6.out.to hB)
      replace O7 := Lib.hid (O7.out.to hB)
      replace O8 := Lib.hid (O8.out.to hB)
      replace O9 := Lib.hid (O9.out.to hB)
      replace O10 := Lib.hid (O10.out.to hB)
      replace O11 := Lib.hid (O11.out.to hB)
      have sw25 : w24.heap.size ≤ w25.heap.size := hB.size
      replace hE := Lib.hid (below_to hE.out hB)
      clear hB
      refine (eqSet_any rc1 rc1 A11_ A3_ r1 r1 r1.length r1.length c11_ c3_ w25 rfl rfl (rt_of O11.out rfl) (rt_of O3.out rfl) (by omega) (by omega)).mono ?_
      rintro e w26 ⟨rfl, hB⟩
      simp only [decide_true, Bool.and_self]
      replace b0 := b0.below hB b0.lt
      replace b1 := b1.below hB b1.lt
      replace b2 := b2.below hB b2.lt
      replace b3 := b3.below hB b3.lt
      replace b4 := b4.below hB b4.lt
      replace O1 := Lib.hid (O1.out.to hB)
      replace O2 := Lib.hid (O2.out.to hB)
      replace O3 := Lib.hid (O3.out.to hB)
      replace O4 := Lib.hid (O4.out.to hB)
      replace O5 := Lib.hid (O5.out.to hB)
      replace O6 := Lib.hid (O6.out.to hB)
      replace O7 := Lib.hid (O7.out.to hB)
      replace O8 := Lib.hid (O8.out.to hB)
      replace O9 := Lib.hid (O9.out.to hB)
      replace O10 := Lib.hid (O10.out.to hB)
      replace O11 := Lib.hid (O11.out.to hB)
      have sw26 : w25.heap.size ≤ w26.heap.size := hB.size
      replace hE := Lib.hid (below_to hE.out hB)
      clear hB
      have l0 := b0.lt
      have c0_0 : w26.cell? ⟨w.heap.size, 0, none⟩ = some (.int .i64 C0) := b0.cell rfl
      have c0_1 : w26.cell? ⟨w.heap.size, 1, none⟩ = some (.slice A0 ts0.length c0) := b0.cell rfl
      have l1 := b1.lt
      have c1_0 : w26.cell? ⟨w5.heap.size, 0, none⟩ = some (.int .i64 rc1) := b1.cell rfl
      have c1_1 : w26.cell? ⟨w5.heap.size, 1, none⟩ = some (.slice A3_ r1.length c3_) := b1.cell rfl
      have l2 := b2.lt
      have c2_0 : w26.cell? ⟨w7.heap.size, 0, none⟩ = some (.int .i64 C0) := b2.cell rfl
      have c2_1 : w26.cell? ⟨w7.heap.size, 1, none⟩ = some (.slice A4_ ts0.length c4_) := b2.cell rfl
      have l3 := b3.lt
      have c3_0 : w26.cell? ⟨w10.heap.size, 0, none⟩ = some (.int .i64 rc1) := b3.cell rfl
      have c3_1 : w26.cell? ⟨w10.heap.size, 1, none⟩ = some (.slice A6_ r1.length c6_) := b3.cell rfl
      have l4 := b4.lt
      have c4_0 : w26.cell? ⟨w24.heap.size, 0, none⟩ = some (.int .i64 rc1) := b4.cell rfl
      have c4_1 : w26.cell? ⟨w24.heap.size, 1, none⟩ = some (.slice A11_ r1.length c11_) := b4.cell rfl
      go_wp2_with fail
      clear l0 c0_0 c0_1 l1 c1_0 c1_1 l2 c2_0 c2_1 l3 c3_0 c3_1 l4 c4_0 c4_1
      refine (heldSet_m w9.heap.size w10.heap.size rc1 (.slice A6_ r1.length c6_) r1.length m_O6 (1) w26 Hm_O6.out O6.out (by omega) (by omega) (by omega)).mono ?_
      rintro e w27 ⟨rfl, hB⟩
      replace b0 := b0.below hB b0.lt
      replace b1 := b1.below hB b1.lt
      replace b2 := b2.below hB b2.lt
      replace b3 := b3.below hB b3.lt
      replace b4 := b4.below hB b4.lt
      replace O1 := Lib.hid (O1.out.to hB)
      replace O2 := Lib.hid (O2.out.to hB)
      replace O3 := Lib.hid (O3.out.to hB)
      replace O4 := Lib.hid (O4.out.to hB)
      replace O5 := Lib.hid (O5.out.to hB)
      replace O6 := Lib.hid (O6.out.to hB)
      replace O7 := Lib.hid (O7.out.to hB)
      replace O8 := Lib.hid (O8.out.to hB)
      replace O9 := Lib.hid (O9.out.to hB)
      replace O10 := Lib.hid (O10.out.to hB)
      replace O11 := Lib.hid (O11.out.to hB)
      have sw27 : w26.heap.size ≤ w27.heap.size := hB.size
      replace hE := Lib.hid (below_to hE.out hB)
      clear hB
      go_wp2_with fail
      go_ret
      exact ⟨rfl, hE.out⟩
end Go.Proofs.Ytnjmgmdpkogocaa

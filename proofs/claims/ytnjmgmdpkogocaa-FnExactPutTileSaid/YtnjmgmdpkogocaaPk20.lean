/-
  Parts of the proof, in their order: ExtS, P4, PTold.
-/
import Derived.Test.YtnjmgmdpkogocaaPk18
import Derived.Test.YtnjmgmdpkogocaaPk16
import Derived.Test.YtnjmgmdpkogocaaPk8
import Derived.Test.YtnjmgmdpkogocaaPk6
import Derived.Test.YtnjmgmdpkogocaaPk11
import Derived.Test.YtnjmgmdpkogocaaWMore
import Derived.Test.YtnjmgmdpkogocaaPk17
/-
  Contracts of functions that make sets, in the form of the printed ones.
-/
namespace Go.Proofs.Ytnjmgmdpkogocaa
open Go Go.RowKit Go.Proofs Go.Proofs.YtnjmgmdpkogocaaW.PrintWords Go.Proofs.Ytnjmgmdpkogocaa.Q
set_option linter.unusedVariables false
set_option linter.unusedSimpArgs false
theorem R_of_OT {w : World} {base : Nat} {e : TypeId} {v : Value} {ts : List T4} (h : OT w base e v ts) : Kd.R k45 e w base (fun _ => True) v (ts.map toS) := by
  refine ⟨fun _ _ => trivial, tcells ts, ?_, ?_, fun j p hp => ?_⟩
  · rw [List.length_map]; exact h
  · rw [tcells_length, List.length_map]; rfl
  · have hj := (List.getElem?_eq_some_iff.1 hp).1
    rw [List.length_map] at hj
    have hp' : p = toS (tk ts j) := by
      rw [List.getElem?_map, List.getElem?_eq_getElem hj] at hp
      simp only [Option.map_some, Option.some.injEq] at hp
      rw [← hp]; simp [tk, List.getD, List.getElem?_eq_getElem hj]
    subst hp'
    have e4 : k45.sz = 4 := rfl
    have hc : ((tcells ts).drop (j * 4)).take 4 = [.int .i64 (toS (tk ts j)).f0, .int .i64 (toS (tk ts j)).f1, .int .i64 (toS (tk ts j)).f2, .int .i64 (toS (tk ts j)).f3] := by
      apply List.ext_getElem?
      intro i
      rw [List.getElem?_take, List.getElem?_drop]
      match i with
      | 0 => rw [if_pos (by omega), tcells_get hj (by omega)]; rfl
      | 1 => rw [if_pos (by omega), tcells_get hj (by omega)]; rfl
      | 2 => rw [if_pos (by omega), tcells_get hj (by omega)]; rfl
      | 3 => rw [if_pos (by omega), tcells_get hj (by omega)]; rfl
      | i + 4 => rw [if_neg (by omega)]; simp
    rw [e4, hc]
    exact k45_mk w (toS (tk ts j))
theorem R_of_OW {w : World} {base hi : Nat} {e : TypeId} {v : Value} {ts : List T4} {n : Nat} (h : OW w base hi e 4 v n (tcells ts)) (hn : n = ts.length) : Kd.R k45 e w base (fun _ => True) v (ts.map toS) := by
  subst hn
  exact R_of_OT h.own
theorem ow_of_RT {w : World} {base : Nat} {e : TypeId} {v : Value} {ts : List T4} {ok : Nat → Prop} (h : Kd.R k45 e w base ok v (ts.map toS)) : OW w base w.heap.size e 4 v ts.length (tcells ts) := by
  obtain ⟨-, inner, ho, hr⟩ := h
  have e4 : k45.sz = 4 := rfl
  rw [List.length_map, e4] at ho
  have hl : inner.length = ts.length * 4 := by have := hr.1; rw [List.length_map, e4] at this; exact this
  have : inner = tcells ts := by
    apply List.ext_getElem?
    intro j
    by_cases hj : j < ts.length * 4
    · obtain ⟨q, r, rfl, hr4⟩ : ∃ q r, j = q * 4 + r ∧ r < 4 := ⟨j / 4, j % 4, by omega, by omega⟩
      have hq : q < ts.length := by omega
      have h2 := hr.2 q (toS (tk ts q)) (by rw [List.getElem?_map, List.getElem?_eq_getElem hq]; simp [tk, List.getD, List.getElem?_eq_getElem hq])
      have h3 := k45_open (k45.K_of_M h2)
      rw [e4] at h3
      have h4 : inner[q * 4 + r]? = ((inner.drop (q * 4)).take 4)[r]? := by rw [List.getElem?_take, if_pos hr4, List.getElem?_drop]
      rw [h4, h3, tcells_get hq hr4]
      have : r = 0 ∨ r = 1 ∨ r = 2 ∨ r = 3 := by omega
      rcases this with rfl | rfl | rfl | rfl <;> rfl
    · rw [List.getElem?_eq_none (by omega), List.getElem?_eq_none (by rw [tcells_length]; omega)]
  subst this
  exact OW.of ho
end Go.Proofs.Ytnjmgmdpkogocaa
namespace Go.Proofs.Ytnjmgmdpkogocaa.Q
open Go Go.RowKit Go.Proofs Go.Proofs.YtnjmgmdpkogocaaW.PrintWords Go.Proofs.Ytnjmgmdpkogocaa
set_option linter.unusedVariables false
set_option linter.unusedSimpArgs false

def lim6 (n : Nat) : Bool := decide (n ≤ 1000000)
def spec_l01Made.f (a0 : Int) (l1 : List STile) : Option (Int × List STile) := if lim6 l1.length = true then some (a0, (sortT (l1.map toT)).map toS) else none
theorem spec_l01Made.calls (a0 : Int) (A1 : Option Addr) (c1 : Nat) (l1 : List STile) (r1 : Int) (r2 : List STile) (w : World) (hr1 : Kd.C k45 w A1 l1.length l1) (hc1 : l1.length ≤ c1) (h : spec_l01Made.f a0 l1 = some (r1, r2)) :
    Calls Try.prog 52 #[.int .i64 a0, .slice A1 l1.length c1] w fun e w' => ∃ v1_ : Value, e = .returned (.agg #[.int .i64 r1, v1_]) ∧ Kd.R k45 45 w' w.heap.size (fun _ => True) v1_ r2 ∧ Below w.heap.size w w' := by
  unfold spec_l01Made.f at h
  split at h
  · rename_i hl
    obtain ⟨rfl, rfl⟩ := Prod.mk.inj (Option.some.inj h)
    refine (l01Made_any a0 A1 (l1.map toT) _ c1 w (by simp) (rt_of_C hr1) (by simpa [lim6] using hl)).mono ?_
    rintro e w' ⟨g, ln, c', rfl, hln, hO, hB⟩
    have e1 : sortK (l1.map toT) l1.length = sortT (l1.map toT) := by unfold sortT; rw [List.length_map]
    rw [e1] at hln hO
    exact ⟨_, rfl, R_of_OW hO hln, hB⟩
  · cases h
def spec_l01Flipped.f (a0_0 : Int) (l0_1 : List STile) : Option (Int × List STile) := if lim6 l0_1.length = true then some (a0_0, (sortT ((l0_1.map toT).map (sidesT 0 3 2 1))).map toS) else none
theorem spec_l01Flipped.calls (a0_0 : Int) (A0_1 : Option Addr) (c0_1 : Nat) (l0_1 : List STile) (r1 : Int) (r2 : List STile) (w : World) (hr0_1 : Kd.C k45 w A0_1 l0_1.length l0_1) (hc0_1 : l0_1.length ≤ c0_1) (h : spec_l01Flipped.f a0_0 l0_1 = some (r1, r2)) :
    Calls Try.prog 64 #[.agg #[.int .i64 a0_0, .slice A0_1 l0_1.length c0_1]] w fun e w' => ∃ v1_ : Value, e = .returned (.agg #[.int .i64 r1, v1_]) ∧ Kd.R k45 45 w' w.heap.size (fun _ => True) v1_ r2 ∧ Below w.heap.size w w' := by
  unfold spec_l01Flipped.f at h
  split at h
  · rename_i hl
    obtain ⟨rfl, rfl⟩ := Prod.mk.inj (Option.some.inj h)
    refine (l01Flipped_any a0_0 A0_1 (l0_1.map toT) _ c0_1 w (by simp) (rt_of_C hr0_1) (by simpa [lim6] using hl)).mono ?_
    rintro e w' ⟨g, ln, c', rfl, hln, hO, hB⟩
    exact ⟨_, rfl, R_of_OW hO hln, hB⟩
  · cases h
def spec_l01Mirrored.f (a0_0 : Int) (l0_1 : List STile) : Option (Int × List STile) := if lim6 l0_1.length = true then some (a0_0, (sortT ((l0_1.map toT).map (sidesT 2 1 0 3))).map toS) else none
theorem spec_l01Mirrored.calls (a0_0 : Int) (A0_1 : Option Addr) (c0_1 : Nat) (l0_1 : List STile) (r1 : Int) (r2 : List STile) (w : World) (hr0_1 : Kd.C k45 w A0_1 l0_1.length l0_1) (hc0_1 : l0_1.length ≤ c0_1) (h : spec_l01Mirrored.f a0_0 l0_1 = some (r1, r2)) :
    Calls Try.prog 67 #[.agg #[.int .i64 a0_0, .slice A0_1 l0_1.length c0_1]] w fun e w' => ∃ v1_ : Value, e = .returned (.agg #[.int .i64 r1, v1_]) ∧ Kd.R k45 45 w' w.heap.size (fun _ => True) v1_ r2 ∧ Below w.heap.size w w' := by
  unfold spec_l01Mirrored.f at h
  split at h
  · rename_i hl
    obtain ⟨rfl, rfl⟩ := Prod.mk.inj (Option.some.inj h)
    refine (l01Mirrored_any a0_0 A0_1 (l0_1.map toT) _ c0_1 w (by simp) (rt_of_C hr0_1) (by simpa [lim6] using hl)).mono ?_
    rintro e w' ⟨g, ln, c', rfl, hln, hO, hB⟩
    exact ⟨_, rfl, R_of_OW hO hln, hB⟩
  · cases h
def spec_l01Turned.f (a0_0 : Int) (l0_1 : List STile) : Option (Int × List STile) := if lim6 l0_1.length = true then some (a0_0, (sortT ((l0_1.map toT).map (sidesT 3 0 1 2))).map toS) else none
theorem spec_l01Turned.calls (a0_0 : Int) (A0_1 : Option Addr) (c0_1 : Nat) (l0_1 : List STile) (r1 : Int) (r2 : List STile) (w : World) (hr0_1 : Kd.C k45 w A0_1 l0_1.length l0_1) (hc0_1 : l0_1.length ≤ c0_1) (h : spec_l01Turned.f a0_0 l0_1 = some (r1, r2)) :
    Calls Try.prog 61 #[.agg #[.int .i64 a0_0, .slice A0_1 l0_1.length c0_1]] w fun e w' => ∃ v1_ : Value, e = .returned (.agg #[.int .i64 r1, v1_]) ∧ Kd.R k45 45 w' w.heap.size (fun _ => True) v1_ r2 ∧ Below w.heap.size w w' := by
  unfold spec_l01Turned.f at h
  split at h
  · rename_i hl
    obtain ⟨rfl, rfl⟩ := Prod.mk.inj (Option.some.inj h)
    refine (l01Turned_any a0_0 A0_1 (l0_1.map toT) _ c0_1 w (by simp) (rt_of_C hr0_1) (by simpa [lim6] using hl)).mono ?_
    rintro e w' ⟨g, ln, c', rfl, hln, hO, hB⟩
    exact ⟨_, rfl, R_of_OW hO hln, hB⟩
  · cases h
def spec_l01Transposed.f (a0_0 : Int) (l0_1 : List STile) : Option (Int × List STile) := if lim6 l0_1.length = true then some (a0_0, (sortT ((l0_1.map toT).map (sidesT 1 0 3 2))).map toS) else none
theorem spec_l01Transposed.calls (a0_0 : Int) (A0_1 : Option Addr) (c0_1 : Nat) (l0_1 : List STile) (r1 : Int) (r2 : List STile) (w : World) (hr0_1 : Kd.C k45 w A0_1 l0_1.length l0_1) (hc0_1 : l0_1.length ≤ c0_1) (h : spec_l01Transposed.f a0_0 l0_1 = some (r1, r2)) :
    Calls Try.prog 69 #[.agg #[.int .i64 a0_0, .slice A0_1 l0_1.length c0_1]] w fun e w' => ∃ v1_ : Value, e = .returned (.agg #[.int .i64 r1, v1_]) ∧ Kd.R k45 45 w' w.heap.size (fun _ => True) v1_ r2 ∧ Below w.heap.size w w' := by
  unfold spec_l01Transposed.f at h
  split at h
  · rename_i hl
    obtain ⟨rfl, rfl⟩ := Prod.mk.inj (Option.some.inj h)
    refine (l01Transposed_any a0_0 A0_1 (l0_1.map toT) _ c0_1 w (by simp) (rt_of_C hr0_1) (by simpa [lim6] using hl)).mono ?_
    rintro e w' ⟨g, ln, c', rfl, hln, hO, hB⟩
    exact ⟨_, rfl, R_of_OW hO hln, hB⟩
  · cases h
def impl_Tile_sides.f (a0_0 a0_1 a0_2 a0_3 a1 a2 a3 a4 : Int) : Option (Int × Int × Int × Int) :=
  if a1 = 0 ∧ a2 = 3 ∧ a3 = 2 ∧ a4 = 1 then some (a0_0, a0_3, a0_2, a0_1) else if a1 = 2 ∧ a2 = 1 ∧ a3 = 0 ∧ a4 = 3 then some (a0_2, a0_1, a0_0, a0_3) else
  if a1 = 3 ∧ a2 = 0 ∧ a3 = 1 ∧ a4 = 2 then some (a0_3, a0_0, a0_1, a0_2) else if a1 = 1 ∧ a2 = 0 ∧ a3 = 3 ∧ a4 = 2 then some (a0_1, a0_0, a0_3, a0_2) else none
theorem impl_Tile_sides.calls (a0_0 a0_1 a0_2 a0_3 a1 a2 a3 a4 : Int) (r1 r2 r3 r4 : Int) (w : World) (h : impl_Tile_sides.f a0_0 a0_1 a0_2 a0_3 a1 a2 a3 a4 = some (r1, r2, r3, r4)) :
    Calls Try.prog 66 #[.agg #[.int .i64 a0_0, .int .i64 a0_1, .int .i64 a0_2, .int .i64 a0_3], .int .i64 a1, .int .i64 a2, .int .i64 a3, .int .i64 a4] w fun e w' => e = .returned (.agg #[.int .i64 r1, .int .i64 r2, .int .i64 r3, .int .i64 r4]) ∧ Below w.heap.size w w' := by
  unfold impl_Tile_sides.f at h
  split at h
  · rename_i hq
    obtain ⟨rfl, rfl, rfl, rfl⟩ := hq
    simp only [Option.some.injEq, Prod.mk.injEq] at h
    obtain ⟨rfl, rfl, rfl, rfl⟩ := h
    exact sides_any a0_0 a0_1 a0_2 a0_3 _ _ _ _ 0 3 2 1 w (by decide) (by decide) (by decide) (by decide) rfl rfl rfl rfl
  · skip
    split at h
    · rename_i hq
      obtain ⟨rfl, rfl, rfl, rfl⟩ := hq
      simp only [Option.some.injEq, Prod.mk.injEq] at h
      obtain ⟨rfl, rfl, rfl, rfl⟩ := h
      exact sides_any a0_0 a0_1 a0_2 a0_3 _ _ _ _ 2 1 0 3 w (by decide) (by decide) (by decide) (by decide) rfl rfl rfl rfl
    · skip
      split at h
      · rename_i hq
        obtain ⟨rfl, rfl, rfl, rfl⟩ := hq
        simp only [Option.some.injEq, Prod.mk.injEq] at h
        obtain ⟨rfl, rfl, rfl, rfl⟩ := h
        exact sides_any a0_0 a0_1 a0_2 a0_3 _ _ _ _ 3 0 1 2 w (by decide) (by decide) (by decide) (by decide) rfl rfl rfl rfl
      · skip
        split at h
        · rename_i hq
          obtain ⟨rfl, rfl, rfl, rfl⟩ := hq
          simp only [Option.some.injEq, Prod.mk.injEq] at h
          obtain ⟨rfl, rfl, rfl, rfl⟩ := h
          exact sides_any a0_0 a0_1 a0_2 a0_3 _ _ _ _ 1 0 3 2 w (by decide) (by decide) (by decide) (by decide) rfl rfl rfl rfl
        · cases h
def impl_limited.f (a0 : Int) (l1 : List STile) : Option (Int × List STile × Int) := if lim6 l1.length = true then some ((limR a0 (l1.map toT)).1.1, (limR a0 (l1.map toT)).1.2.map toS, (limR a0 (l1.map toT)).2) else none
theorem impl_limited.calls (a0 : Int) (A1 : Option Addr) (c1 : Nat) (l1 : List STile) (r1 : Int) (r2 : List STile) (r3 : Int) (w : World) (hr1 : Kd.C k45 w A1 l1.length l1) (hc1 : l1.length ≤ c1) (h : impl_limited.f a0 l1 = some (r1, r2, r3)) :
    Calls Try.prog 57 #[.int .i64 a0, .slice A1 l1.length c1] w fun e w' => ∃ v1_ : Value, e = .returned (.tuple #[.agg #[.int .i64 r1, v1_], .int .i64 r3]) ∧ Kd.R k45 45 w' w.heap.size (fun _ => True) v1_ r2 ∧ Below w.heap.size w w' := by
  unfold impl_limited.f at h
  split at h
  · rename_i hl
    simp only [Option.some.injEq, Prod.mk.injEq] at h
    obtain ⟨rfl, rfl, rfl⟩ := h
    refine (limited_any a0 A1 (l1.map toT) _ c1 w (by simp) (rt_of_C hr1) (by simpa [lim6] using hl)).mono ?_
    rintro e w' ⟨v, xc, xs, code, hR, rfl, hO, hB⟩
    rw [hR]
    exact ⟨_, rfl, R_of_OW hO rfl, hB⟩
  · cases h
def spec_l01Has.f (a0_0 : Int) (l0_1 : List STile) (a1_0 a1_1 a1_2 a1_3 : Int) : Option Bool := if inLim l0_1.length = true then some (hasT (l0_1.map toT) ⟨a1_0, a1_1, a1_2, a1_3⟩) else none
theorem spec_l01Has.calls (a0_0 : Int) (A0_1 : Option Addr) (c0_1 : Nat) (l0_1 : List STile) (a1_0 a1_1 a1_2 a1_3 : Int) (r : Bool) (w : World) (hr0_1 : Kd.C k45 w A0_1 l0_1.length l0_1) (hc0_1 : l0_1.length ≤ c0_1) (h : spec_l01Has.f a0_0 l0_1 a1_0 a1_1 a1_2 a1_3 = some r) :
    Calls Try.prog 76 #[.agg #[.int .i64 a0_0, .slice A0_1 l0_1.length c0_1], .agg #[.int .i64 a1_0, .int .i64 a1_1, .int .i64 a1_2, .int .i64 a1_3]] w fun e w' => e = .returned (.bool r) ∧ Below w.heap.size w w' := by
  unfold spec_l01Has.f at h
  split at h
  · rename_i hl
    obtain rfl := Option.some.inj h
    exact l01Has_any a0_0 A0_1 (l0_1.map toT) _ c0_1 ⟨a1_0, a1_1, a1_2, a1_3⟩ w (by simp) (rt_of_C hr0_1) (by simpa [inLim] using hl)
  · cases h
def slices_Contains_impl_Tile_impl_Tile.f (l0 : List STile) (a1_0 a1_1 a1_2 a1_3 : Int) : Option Bool := if inLim l0.length = true then some (hasT (l0.map toT) ⟨a1_0, a1_1, a1_2, a1_3⟩) else none
theorem slices_Contains_impl_Tile_impl_Tile.calls (A0 : Option Addr) (c0 : Nat) (l0 : List STile) (a1_0 a1_1 a1_2 a1_3 : Int) (r : Bool) (w : World) (hr0 : Kd.C k45 w A0 l0.length l0) (hc0 : l0.length ≤ c0) (h : slices_Contains_impl_Tile_impl_Tile.f l0 a1_0 a1_1 a1_2 a1_3 = some r) :
    Calls Try.prog 79 #[.slice A0 l0.length c0, .agg #[.int .i64 a1_0, .int .i64 a1_1, .int .i64 a1_2, .int .i64 a1_3]] w fun e w' => e = .returned (.bool r) ∧ Below w.heap.size w w' := by
  unfold slices_Contains_impl_Tile_impl_Tile.f at h
  split at h
  · rename_i hl
    obtain rfl := Option.some.inj h
    exact ContainsT_any A0 (l0.map toT) _ c0 ⟨a1_0, a1_1, a1_2, a1_3⟩ w (by simp) (rt_of_C hr0) (by simpa [inLim] using hl)
  · cases h
theorem CloneNil_any (c : Nat) (w : World) : Calls Try.prog 72 #[.slice none 0 c] w fun e w' => e = .returned (.slice none 0 0) ∧ Below w.heap.size w w' := by
  have hEQ := fun w => Lib.run_eql_slice_nil (P := Try.prog) w 24 45 none 0 c 0 0 Try.underlying24
  simp only [Option.isNone_none] at hEQ
  go_enter Try.func72, Try.ntmps72
  go_wp2_with fail
  go_ret
  exact ⟨rfl, Below.refl _ _⟩
def slices_Clone_impl_Tile_impl_Tile.f (l0 : List STile) : Option (List STile) := if lim6 l0.length = true then some l0 else none
theorem slices_Clone_impl_Tile_impl_Tile.calls (A0 : Option Addr) (c0 : Nat) (l0 : List STile) (r : List STile) (w : World) (hr0 : Kd.C k45 w A0 l0.length l0) (hc0 : l0.length ≤ c0) (h : slices_Clone_impl_Tile_impl_Tile.f l0 = some r) :
    Calls Try.prog 72 #[.slice A0 l0.length c0] w fun e w' => ∃ v, e = .returned v ∧ Kd.R k45 45 w' w.heap.size (fun _ => True) v r ∧ Below w.heap.size w w' := by
  unfold slices_Clone_impl_Tile_impl_Tile.f at h
  split at h
  · rename_i hl
    obtain rfl := Option.some.inj h
    cases A0 with
    | none =>
      have hn : l0.length = 0 := by
        rcases Nat.eq_zero_or_pos l0.length with h0 | h0
        · exact h0
        · obtain ⟨ad, e, -⟩ := hr0.2.2 h0
          cases e
      obtain rfl := List.eq_nil_of_length_eq_zero hn
      refine (CloneNil_any c0 w).mono ?_
      rintro e w' ⟨rfl, hB⟩
      exact ⟨_, rfl, Kd.R_nil _ _ _ _ _, hB⟩
    | some ad =>
      refine (CloneT_any ad (l0.map toT) _ c0 w (by simp) (rt_of_C hr0) (by simpa [lim6] using hl)).mono ?_
      rintro e w' ⟨g, c', rfl, hO, hB⟩
      have := R_of_OT hO
      rw [map_toST] at this
      exact ⟨_, rfl, this, hB⟩
  · cases h
end Go.Proofs.Ytnjmgmdpkogocaa.Q

/-
  Plain: sets whose tiles are laid in another way.
-/
namespace Go.Proofs.Ytnjmgmdpkogocaa
open Go Go.RowKit Go.Proofs Go.Proofs.YtnjmgmdpkogocaaW.PrintWords Go.Proofs.YtnjmgmdpkogocaaW.PrintMore Go.Proofs.Ytnjmgmdpkogocaa.Q
set_option linter.unusedVariables false
set_option linter.unusedSimpArgs false

theorem wrap_succ (m : Nat) (h : m < 1000000000) : wrap64 ((m : Int) + 1) = ((m + 1 : Nat) : Int) := by unfold wrap64; omega
theorem rdT_get (l : List STile) (i : Nat) (h : i < l.length) : rd_T45 l (i : Int) = l[i] := by simp [rd_T45, List.getD, List.getElem?_eq_getElem h]
theorem sortT_len (ts : List T4) : (sortT ts).length ≤ ts.length := sortK_len ts ts.length
theorem isS_lens {C : Int} {ts : List T4} (h : isS C ts = true) : 1 ≤ C ∧ C ≤ 6 ∧ ts.length ≤ 16 := by
  simp only [isS, Bool.and_eq_true, inB, decide_eq_true_eq] at h
  omega
/-- a set's tiles laid in another way -/
def wayR (p : T4 → T4) (C : Int) (ts : List T4) : (Int × List T4) × Int := if isS C ts = true then ((C, sortT (ts.map p)), 0) else ((0, []), 1)
/-- a result in the form of the printed ones -/
def flat (r : (Int × List T4) × Int) : Int × List STile × Int := (r.1.1, r.1.2.map toS, r.2)
theorem limR_in {C : Int} {ts : List T4} (hC : C ≤ 6) (h : ts.length ≤ 16) : limR C ts = ((C, sortT ts), 0) := by
  have := sortT_len ts
  unfold limR
  rw [if_pos (by simp; omega)]
theorem limited_f (C : Int) (l : List STile) (h : l.length ≤ 1000000) : impl_limited.f C l = some (flat (limR C (l.map toT))) := by
  unfold impl_limited.f flat
  rw [if_pos (by simpa [lim6] using h)]
theorem wayR_len (p : T4 → T4) (C : Int) (ts : List T4) : (wayR p C ts).1.2.length ≤ 1048576 := by
  unfold wayR
  split
  · rename_i h
    have h1 := isS_lens h
    have h2 := sortT_len (ts.map p)
    rw [List.length_map] at h2
    show (sortT (ts.map p)).length ≤ _
    omega
  · simp
end Go.Proofs.Ytnjmgmdpkogocaa

/-
  Plain: sets made by the reference, within the limits or not.
-/
namespace Go.Proofs.Ytnjmgmdpkogocaa
open Go Go.RowKit Go.Proofs Go.Proofs.YtnjmgmdpkogocaaW.PrintWords Go.Proofs.YtnjmgmdpkogocaaW.PrintMore Go.Proofs.Ytnjmgmdpkogocaa.Q
set_option linter.unusedVariables false
set_option linter.unusedSimpArgs false

theorem told_f (C : Int) (us : List T4) : spec_l01Told.f C (us.map toS) = some (flat (if (decide (C ≤ 6) && decide (us.length ≤ 16)) = true then ((C, us), 0) else ((0, []), 3))) := by
  unfold spec_l01Told.f flat
  rw [List.length_map]
  by_cases h1 : C ≤ 6
  · rw [if_neg (show ¬ C > 6 by omega)]
    by_cases h2 : us.length ≤ 16
    · rw [if_neg (show ¬ (us.length : Int) > 16 by omega), if_pos (by simp [h1, h2])]
    · rw [if_pos (show (us.length : Int) > 16 by omega), if_neg (by simp [h2])]; rfl
  · rw [if_pos (show C > 6 by omega), if_neg (by simp [h1])]; rfl
theorem specMade_f (C : Int) (l : List STile) (h : l.length ≤ 1000000) : spec_l01Made.f C l = some (C, (sortT (l.map toT)).map toS) := by
  unfold spec_l01Made.f
  rw [if_pos (by simpa [lim6] using h)]
end Go.Proofs.Ytnjmgmdpkogocaa

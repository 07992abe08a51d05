/-
  Parts of the proof, in their order: Bridge, Ext, Sides, ColR, QImplRenameColours2, QImplSetCodeAtImplRenameColours1.
-/
import Derived.Test.YtnjmgmdpkogocaaPk17
import Derived.Test.YtnjmgmdpkogocaaPk5
import Derived.Test.YtnjmgmdpkogocaaPk3
import Derived.Deep.RegionHeld3
/-
  Words: what the printed contracts tell of memory, as our own words tell it, and the other way about.
-/
namespace Go.Proofs.Ytnjmgmdpkogocaa
open Go Go.RowKit Go.Proofs Go.Proofs.YtnjmgmdpkogocaaW.PrintWords Go.Proofs.Ytnjmgmdpkogocaa.Q
set_option linter.unusedVariables false
set_option linter.unusedSimpArgs false

abbrev STile := Q.S45
def toT (s : STile) : T4 := ⟨s.f0, s.f1, s.f2, s.f3⟩
def toS (t : T4) : STile := ⟨t.a, t.b, t.c, t.d⟩
theorem toT_toS (t : T4) : toT (toS t) = t := rfl
theorem toS_toT (s : STile) : toS (toT s) = s := rfl
theorem map_toTS (l : List T4) : (l.map toS).map toT = l := by simp [List.map_map, Function.comp_def, toT_toS]
theorem map_toST (l : List STile) : (l.map toT).map toS = l := by simp [List.map_map, Function.comp_def, toS_toT]
theorem spot_none {w : World} {a : Addr} {v : Value} (h : w.cell? a = some v) : a.spot = none := by
  unfold World.cell? at h
  split at h
  · split at h
    · exact absurd h (by simp)
    · rename_i hn
      cases hs : a.spot with
      | none => rfl
      | some x => rw [hs] at hn; simp at hn
  · exact absurd h (by simp)
theorem tk_map (l : List STile) (k : Nat) (h : k < l.length) : tk (l.map toT) k = toT l[k] := by
  simp [tk, List.getD, List.getElem?_map, List.getElem?_eq_getElem h]
theorem rt_of_C {w : World} {A : Option Addr} {l : List STile} (h : Kd.C k45 w A l.length l) : RT w A (l.map toT) := by
  intro k hk
  rw [List.length_map] at hk
  obtain ⟨ad, e, hc⟩ := h.2.2 (by omega)
  have g : ∀ j (hj : j < l.length) i v, ([.int .i64 l[j].f0, .int .i64 l[j].f1, .int .i64 l[j].f2, .int .i64 l[j].f3] : List Value)[i]? = some v → w.cell? (ad.add (j * 4 + i)) = some v := by
    intro j hj i v hv
    obtain ⟨c, hcl, hK, hcell⟩ := hc j l[j] (List.getElem?_eq_getElem hj)
    rw [k45_open hK] at hcell
    exact hcell i v hv
  have h0 := g 0 (by omega) 0 _ rfl
  have hs : ad.spot = none := by
    have := spot_none h0
    simpa [Addr.add] using this
  obtain ⟨b, o, s⟩ := ad
  simp only at hs
  subst hs
  have hb : b < w.heap.size := by
    have := World.block_lt_of_cell? w _ h0
    simpa [Addr.add] using this
  refine ⟨b, o, e, hb, ?_, ?_, ?_, ?_⟩ <;> rw [tk_map _ _ hk]
  · have := g k hk 0 _ rfl; rwa [add_off] at this
  · have := g k hk 1 _ rfl; rwa [add_off, ← Nat.add_assoc] at this
  · have := g k hk 2 _ rfl; rwa [add_off, ← Nat.add_assoc] at this
  · have := g k hk 3 _ rfl; rwa [add_off, ← Nat.add_assoc] at this
theorem C_of_rt {w : World} {A : Option Addr} {ts : List T4} (h : RT w A ts) (hl : ts.length ≤ 9223372036854775807) : Kd.C k45 w A (ts.map toS).length (ts.map toS) := by
  refine ⟨rfl, by simpa using hl, fun hn => ?_⟩
  rw [List.length_map] at hn
  obtain ⟨b, o, e, hb, -⟩ := h 0 hn
  refine ⟨_, e, fun j p hj => ?_⟩
  have hjl : j < ts.length := by have := (List.getElem?_eq_some_iff.1 hj).1; simpa using this
  have hp : p = toS (tk ts j) := by
    rw [List.getElem?_map, List.getElem?_eq_getElem hjl] at hj
    simp only [Option.map_some, Option.some.injEq] at hj
    rw [← hj]; simp [tk, List.getD, List.getElem?_eq_getElem hjl]
  subst hp
  obtain ⟨b', o', e', -, c0, c1, c2, c3⟩ := h j hjl
  rw [e] at e'
  injection e' with e'; injection e' with e1 e2; subst e1 e2
  refine ⟨_, rfl, k45_mk w (toS (tk ts j)), fun i u hu => ?_⟩
  rw [add_off, ← Nat.add_assoc]
  match i, hu with
  | 0, hu => simp at hu; subst hu; exact c0
  | 1, hu => simp at hu; subst hu; exact c1
  | 2, hu => simp at hu; subst hu; exact c2
  | 3, hu => simp at hu; subst hu; exact c3
  | i + 4, hu => simp at hu
theorem ri_of_C {w : World} {A : Option Addr} {l : List Int} (h : Kd.C (Kd.int .i64) w A l.length l) : RI w A l := by
  intro k hk
  obtain ⟨ad, e, hc⟩ := h.2.2 (by omega)
  have g : ∀ j (hj : j < l.length), w.cell? (ad.add j) = some (.int .i64 l[j]) := by
    intro j hj
    obtain ⟨c, hcl, hK, hcell⟩ := hc j l[j] (List.getElem?_eq_getElem hj)
    have hK' : c = [.int .i64 l[j]] := hK
    subst hK'
    have := hcell 0 _ rfl
    have e1 : (Kd.int IntKind.i64).sz = 1 := rfl
    rwa [e1, Nat.mul_one, Nat.add_zero] at this
  have h0 := g 0 (by omega)
  have hs : ad.spot = none := by
    have := spot_none h0
    simpa [Addr.add] using this
  obtain ⟨b, o, s⟩ := ad
  simp only at hs
  subst hs
  have hb : b < w.heap.size := by
    have := World.block_lt_of_cell? w _ h0
    simpa [Addr.add] using this
  refine ⟨b, o, e, hb, ?_⟩
  have := g k hk
  rw [add_off] at this
  rw [this]
  simp [ik, List.getD, List.getElem?_eq_getElem hk]
theorem C_of_ri {w : World} {A : Option Addr} {xs : List Int} (h : RI w A xs) (hl : xs.length ≤ 9223372036854775807) : Kd.C (Kd.int .i64) w A xs.length xs := by
  refine ⟨rfl, hl, fun hn => ?_⟩
  obtain ⟨b, o, e, hb, -⟩ := h 0 hn
  refine ⟨_, e, fun j p hj => ?_⟩
  have hjl := (List.getElem?_eq_some_iff.1 hj).1
  have hp : p = ik xs j := by
    rw [List.getElem?_eq_getElem hjl] at hj
    simp only [Option.some.injEq] at hj
    rw [← hj]; simp [ik, List.getD, List.getElem?_eq_getElem hjl]
  subst hp
  obtain ⟨b', o', e', -, c0⟩ := h j hjl
  rw [e] at e'
  injection e' with e'; injection e' with e1 e2; subst e1 e2
  refine ⟨[.int .i64 (ik xs j)], rfl, rfl, fun i u hu => ?_⟩
  have e1 : (Kd.int IntKind.i64).sz = 1 := rfl
  match i, hu with
  | 0, hu => simp at hu; subst hu; rw [e1, Nat.mul_one, Nat.add_zero, add_off]; exact c0
  | i + 1, hu => simp at hu
/-- a row of numbers that a printed contract tells -/
theorem ow_of_R {w : World} {base : Nat} {e : TypeId} {v : Value} {xs : List Int} {ok : Nat → Prop} (h : Kd.R (Kd.int .i64) e w base ok v xs) : OW w base w.heap.size e 1 v xs.length (icells xs) := by
  obtain ⟨-, inner, ho, hr⟩ := h
  have e1 : (Kd.int IntKind.i64).sz = 1 := rfl
  have : inner = icells xs := by
    apply List.ext_getElem?
    intro j
    by_cases hj : j < xs.length
    · have h2 := hr.2 j _ (List.getElem?_eq_getElem hj)
      have hl : j < inner.length := by rw [hr.1, e1]; omega
      rw [e1, Nat.mul_one, List.drop_eq_getElem_cons hl, List.take_succ_cons, List.take_zero] at h2
      have h3 : [inner[j]] = [Value.int .i64 xs[j]] := h2
      rw [List.getElem?_eq_getElem hl, icells, List.getElem?_map, List.getElem?_eq_getElem hj]
      simpa using h3
    · rw [List.getElem?_eq_none (by rw [hr.1, e1]; omega), List.getElem?_eq_none (by rw [icells_length]; omega)]
  subst this
  exact OW.of ho
end Go.Proofs.Ytnjmgmdpkogocaa

/-
  Contracts of functions on tiles and sets, in the form of the printed ones.
-/
namespace Go.Proofs.Ytnjmgmdpkogocaa.Q
open Go Go.RowKit Go.Proofs Go.Proofs.YtnjmgmdpkogocaaW.PrintWords Go.Proofs.Ytnjmgmdpkogocaa
set_option linter.unusedVariables false
set_option linter.unusedSimpArgs false

def inLim (n : Nat) : Bool := decide (n ≤ 35184372088832)
def spec_l01Tile.f (a0 a1_0 a1_1 a1_2 a1_3 : Int) : Option Bool := some (tileB ⟨a1_0, a1_1, a1_2, a1_3⟩ (wrap64 (a0 - 1)))
theorem spec_l01Tile.calls (a0 a1_0 a1_1 a1_2 a1_3 : Int) (r : Bool) (w : World) (h : spec_l01Tile.f a0 a1_0 a1_1 a1_2 a1_3 = some r) :
    Calls Try.prog 50 #[.int .i64 a0, .agg #[.int .i64 a1_0, .int .i64 a1_1, .int .i64 a1_2, .int .i64 a1_3]] w fun e w' => e = .returned (.bool r) ∧ Below w.heap.size w w' := by
  obtain rfl := Option.some.inj h
  exact l01Tile_any a0 ⟨a1_0, a1_1, a1_2, a1_3⟩ w
def spec_l01Before.f (a0_0 a0_1 a0_2 a0_3 a1_0 a1_1 a1_2 a1_3 : Int) : Option Bool := some (ltT ⟨a0_0, a0_1, a0_2, a0_3⟩ ⟨a1_0, a1_1, a1_2, a1_3⟩)
theorem spec_l01Before.calls (a0_0 a0_1 a0_2 a0_3 a1_0 a1_1 a1_2 a1_3 : Int) (r : Bool) (w : World) (h : spec_l01Before.f a0_0 a0_1 a0_2 a0_3 a1_0 a1_1 a1_2 a1_3 = some r) :
    Calls Try.prog 94 #[.agg #[.int .i64 a0_0, .int .i64 a0_1, .int .i64 a0_2, .int .i64 a0_3], .agg #[.int .i64 a1_0, .int .i64 a1_1, .int .i64 a1_2, .int .i64 a1_3]] w fun e w' => e = .returned (.bool r) ∧ Below w.heap.size w w' := by
  obtain rfl := Option.some.inj h
  exact l01Before_any ⟨a0_0, a0_1, a0_2, a0_3⟩ ⟨a1_0, a1_1, a1_2, a1_3⟩ w
def spec_l01Is.f (a0_0 : Int) (l0_1 : List STile) : Option Bool := if inLim l0_1.length = true then some (isS a0_0 (l0_1.map toT)) else none
theorem spec_l01Is.calls (a0_0 : Int) (A0_1 : Option Addr) (c0_1 : Nat) (l0_1 : List STile) (r : Bool) (w : World) (hr0_1 : Kd.C k45 w A0_1 l0_1.length l0_1) (hc0_1 : l0_1.length ≤ c0_1) (h : spec_l01Is.f a0_0 l0_1 = some r) :
    Calls Try.prog 60 #[.agg #[.int .i64 a0_0, .slice A0_1 l0_1.length c0_1]] w fun e w' => e = .returned (.bool r) ∧ Below w.heap.size w w' := by
  unfold spec_l01Is.f at h
  split at h
  · rename_i hl
    obtain rfl := Option.some.inj h
    exact l01Is_any a0_0 A0_1 (l0_1.map toT) _ c0_1 w (by simp) (rt_of_C hr0_1) (by simpa [inLim] using hl)
  · cases h
def impl_isTile.f (a0_0 a0_1 a0_2 a0_3 a1 : Int) : Option Bool := some (tileB ⟨a0_0, a0_1, a0_2, a0_3⟩ (wrap64 (a1 - 1)))
theorem impl_isTile.calls (a0_0 a0_1 a0_2 a0_3 a1 : Int) (r : Bool) (w : World) (h : impl_isTile.f a0_0 a0_1 a0_2 a0_3 a1 = some r) :
    Calls Try.prog 56 #[.agg #[.int .i64 a0_0, .int .i64 a0_1, .int .i64 a0_2, .int .i64 a0_3], .int .i64 a1] w fun e w' => e = .returned (.bool r) ∧ Below w.heap.size w w' := by
  obtain rfl := Option.some.inj h
  exact isTile_any ⟨a0_0, a0_1, a0_2, a0_3⟩ a1 w
def impl_IsSet.f (a0_0 : Int) (l0_1 : List STile) : Option Bool := if inLim l0_1.length = true then some (isS a0_0 (l0_1.map toT)) else none
theorem impl_IsSet.calls (a0_0 : Int) (A0_1 : Option Addr) (c0_1 : Nat) (l0_1 : List STile) (r : Bool) (w : World) (hr0_1 : Kd.C k45 w A0_1 l0_1.length l0_1) (hc0_1 : l0_1.length ≤ c0_1) (h : impl_IsSet.f a0_0 l0_1 = some r) :
    Calls Try.prog 96 #[.agg #[.int .i64 a0_0, .slice A0_1 l0_1.length c0_1]] w fun e w' => e = .returned (.bool r) ∧ Below w.heap.size w w' := by
  unfold impl_IsSet.f at h
  split at h
  · rename_i hl
    obtain rfl := Option.some.inj h
    exact IsSet_any a0_0 A0_1 (l0_1.map toT) _ c0_1 w (by simp) (rt_of_C hr0_1) (by simpa [inLim] using hl)
  · cases h
end Go.Proofs.Ytnjmgmdpkogocaa.Q

/-
  Contracts: a tile with its sides in other places.
-/
namespace Go.Proofs.Ytnjmgmdpkogocaa
open Go Go.RowKit Go.Proofs
set_option linter.unusedVariables false
set_option linter.unusedSimpArgs false

theorem iszT : (Try.prog.info? 45).map (·.size) = some 4 := by kernel_rfl
set_option maxHeartbeats 2000000 in
set_option maxRecDepth 100000 in
theorem sides_any (x0 x1 x2 x3 ya yb yc yd : Int) (a b c d : Nat) (w : World) (ia : (a : Int) < 4) (ib : (b : Int) < 4) (ic : (c : Int) < 4) (id : (d : Int) < 4)
    (ga : (#[.int .i64 x0, .int .i64 x1, .int .i64 x2, .int .i64 x3] : Array Value)[a]? = some (.int .i64 ya)) (gb : (#[.int .i64 x0, .int .i64 x1, .int .i64 x2, .int .i64 x3] : Array Value)[b]? = some (.int .i64 yb))
    (gc : (#[.int .i64 x0, .int .i64 x1, .int .i64 x2, .int .i64 x3] : Array Value)[c]? = some (.int .i64 yc)) (gd : (#[.int .i64 x0, .int .i64 x1, .int .i64 x2, .int .i64 x3] : Array Value)[d]? = some (.int .i64 yd)) :
    Calls Try.prog 66 #[.agg #[.int .i64 x0, .int .i64 x1, .int .i64 x2, .int .i64 x3], .int .i64 a, .int .i64 b, .int .i64 c, .int .i64 d] w fun e w' => e = .returned (.agg #[.int .i64 ya, .int .i64 yb, .int .i64 yc, .int .i64 yd]) ∧ Below w.heap.size w w' := by
  have GA := Lib.hid ga; have GB := Lib.hid gb; have GC := Lib.hid gc; have GD := Lib.hid gd
  clear ga gb gc gd
  go_enter Try.func66, Try.ntmps66
  go_wp2_with fail
  refine name2 ?_
  intro W b1 b2 hz hb0
  have HB := Lib.hid hb0; have HZ := Lib.hid hz; clear hb0 hz
  have q0 : W.cell? ⟨w.heap.size, a, none⟩ = some (.int .i64 ya) := b1.cell GA.out
  have q1 : W.cell? ⟨w.heap.size, b, none⟩ = some (.int .i64 yb) := b1.cell GB.out
  have q2 : W.cell? ⟨w.heap.size, c, none⟩ = some (.int .i64 yc) := b1.cell GC.out
  have q3 : W.cell? ⟨w.heap.size, d, none⟩ = some (.int .i64 yd) := b1.cell GD.out
  have l1 := b1.lt
  have z0 : W.cell? ⟨w.heap.size + 1, 0, none⟩ = some (.int .i64 0) := b2.cell rfl
  have z1 : W.cell? ⟨w.heap.size + 1, 1, none⟩ = some (.int .i64 0) := b2.cell rfl
  have z2 : W.cell? ⟨w.heap.size + 1, 2, none⟩ = some (.int .i64 0) := b2.cell rfl
  have z3 : W.cell? ⟨w.heap.size + 1, 3, none⟩ = some (.int .i64 0) := b2.cell rfl
  have f0 := b2.frozen 0; have f1 := b2.frozen 1; have f2 := b2.frozen 2; have f3 := b2.frozen 3
  have l2 := b2.lt
  go_wp2_with fail
  have hW := (Below.refl W.heap.size W).drew
  have hK : ∀ v0 v1 v2 v3, Only (w.heap.size + 1) (w.heap.size + 2) W ((((W.setCell ⟨w.heap.size + 1, 0, none⟩ v0).setCell ⟨w.heap.size + 1, 1, none⟩ v1).setCell ⟨w.heap.size + 1, 2, none⟩ v2).setCell ⟨w.heap.size + 1, 3, none⟩ v3) := fun v0 v1 v2 v3 =>
    ((((Only.refl _ _ _).setCell (Nat.le_refl _) (by omega) _ _).setCell (Nat.le_refl _) (by omega) _ _).setCell (Nat.le_refl _) (by omega) _ _).setCell (Nat.le_refl _) (by omega) _ _
  have hX : ∀ v0 v1 v2 v3, BK ((((W.setCell ⟨w.heap.size + 1, 0, none⟩ v0).setCell ⟨w.heap.size + 1, 1, none⟩ v1).setCell ⟨w.heap.size + 1, 2, none⟩ v2).setCell ⟨w.heap.size + 1, 3, none⟩ v3).drew w.heap.size #[.int .i64 x0, .int .i64 x1, .int .i64 x2, .int .i64 x3] 45 := by
    intro v0 v1 v2 v3
    have b := b1.only (hK v0 v1 v2 v3) (.inl (by omega))
    exact b.below ((Below.refl _ _).drew) b.lt
  go_region_held3 (fun w_ => w_.cell? ⟨w.heap.size, a, none⟩ = some (.int .i64 ya) ∧ w_.cell? ⟨w.heap.size, b, none⟩ = some (.int .i64 yb) ∧ w_.cell? ⟨w.heap.size, c, none⟩ = some (.int .i64 yc) ∧ w_.cell? ⟨w.heap.size, d, none⟩ = some (.int .i64 yd))
    (first | exact ⟨b1.cell GA.out, b1.cell GB.out, b1.cell GC.out, b1.cell GD.out⟩ | exact ⟨(b1.below hW b1.lt).cell GA.out, (b1.below hW b1.lt).cell GB.out, (b1.below hW b1.lt).cell GC.out, (b1.below hW b1.lt).cell GD.out⟩ | exact ⟨(hX _ _ _ _).cell GA.out, (hX _ _ _ _).cell GB.out, (hX _ _ _ _).cell GC.out, (hX _ _ _ _).cell GD.out⟩ | fail)
    (fail)
  go_wp2_with fail
  have hbk : BK ((((W.setCell ⟨w.heap.size + 1, 0, none⟩ (.int .i64 ya)).setCell ⟨w.heap.size + 1, 1, none⟩ (.int .i64 yb)).setCell ⟨w.heap.size + 1, 2, none⟩ (.int .i64 yc)).setCell ⟨w.heap.size + 1, 3, none⟩ (.int .i64 yd)).drew (w.heap.size + 1) #[.int .i64 ya, .int .i64 yb, .int .i64 yc, .int .i64 yd] 45 := by
    have h := (((b2.set 0 (.int .i64 ya)).set 1 (.int .i64 yb)).set 2 (.int .i64 yc)).set 3 (.int .i64 yd)
    exact h.below ((Below.refl _ _).drew) h.lt
  ((try simp only [Exit.inBlock, Exit.then]); refine bodyPost_ret (results_cell_row rfl _ _ _ _ _ _ _ rfl hbk Try.underlying45 rfl iszT) rfl ?_)
  exact ⟨rfl, below_to (below_only HB.out (hK _ _ _ _) (by omega)) ((Below.refl _ _).drew)⟩
end Go.Proofs.Ytnjmgmdpkogocaa

/-
  Contracts: a tile coloured anew by a closure.
-/
namespace Go.Proofs.Ytnjmgmdpkogocaa
open Go Go.RowKit Go.Proofs Go.Proofs.YtnjmgmdpkogocaaW.PrintWords Go.Proofs.Ytnjmgmdpkogocaa.Q
set_option linter.unusedVariables false
set_option linter.unusedSimpArgs false

set_option maxHeartbeats 4000000 in
set_option maxRecDepth 100000 in
theorem ColR_any (x0 x1 x2 x3 y0 y1 y2 y3 : Int) (g : Nat) (A : Option Addr) (c : Nat) (l : List Int) (w : World) (hr : Kd.C (Kd.int .i64) w A l.length l) (hc : l.length ≤ c) (hb : w.heap[g]? = some (.cells #[.slice A l.length c] 48 (0, 0))) (h0 : impl_RenameColours_2_1.f x0 l = some y0) (h1 : impl_RenameColours_2_1.f x1 l = some y1) (h2 : impl_RenameColours_2_1.f x2 l = some y2) (h3 : impl_RenameColours_2_1.f x3 l = some y3) :
    Calls Try.prog 73 #[.agg #[.int .i64 x0, .int .i64 x1, .int .i64 x2, .int .i64 x3], .func (.func 85) #[] #[.pointer (some ⟨g, 0, none⟩)]] w fun e w' => e = .returned (.agg #[.int .i64 y0, .int .i64 y1, .int .i64 y2, .int .i64 y3]) ∧ Below w.heap.size w w' := by
  have H0 := Lib.hid h0; have H1 := Lib.hid h1; have H2 := Lib.hid h2; have H3 := Lib.hid h3; have HR := Lib.hid hr; have hb2 : BK w g #[.slice A l.length c] 48 := hb; have HBG := Lib.hid hb2; clear h0 h1 h2 h3 hr hb hb2
  have hgl : g < w.heap.size := HBG.out.lt
  go_enter Try.func73, Try.ntmps73
  go_wp2_with fail
  refine name2 ?_
  intro W b1 b2 hz hb0
  have HZ := Lib.hid hz; have hs0 := hb0.size; clear hz
  have hW := (Below.refl W.heap.size W).drew
  have HE := Lib.hid (below_to hb0 hW); have HLO := Lib.hid (show w.heap.size + 2 ≤ W.heap.size by have := HZ.out; omega)
  replace b1 := b1.below hW b1.lt; replace b2 := b2.below hW b2.lt
  have l1 := b1.lt
  have z0 := b2.cell (k := 0) (v := .int .i64 0) rfl; have z1 := b2.cell (k := 1) (v := .int .i64 0) rfl; have z2 := b2.cell (k := 2) (v := .int .i64 0) rfl; have z3 := b2.cell (k := 3) (v := .int .i64 0) rfl
  have f0 := b2.frozen 0; have f1 := b2.frozen 1; have f2 := b2.frozen 2; have f3 := b2.frozen 3
  have l2 := b2.lt
  clear hb0
  have hX : ∀ (W2 : World) v0 v1 v2 v3, BK W2 w.heap.size #[.int .i64 x0, .int .i64 x1, .int .i64 x2, .int .i64 x3] 45 → BK ((((W2.setCell ⟨w.heap.size + 1, 0, none⟩ v0).setCell ⟨w.heap.size + 1, 1, none⟩ v1).setCell ⟨w.heap.size + 1, 2, none⟩ v2).setCell ⟨w.heap.size + 1, 3, none⟩ v3) w.heap.size #[.int .i64 x0, .int .i64 x1, .int .i64 x2, .int .i64 x3] 45 := by
    intro W2 v0 v1 v2 v3 b
    exact b.only (((((Only.refl (w.heap.size + 1) (w.heap.size + 2) W2).setCell (Nat.le_refl _) (by omega) _ _).setCell (Nat.le_refl _) (by omega) _ _).setCell (Nat.le_refl _) (by omega) _ _).setCell (Nat.le_refl _) (by omega) _ _) (.inl (by omega))
  go_region_held3 (fun w_ => w_.cell? ⟨w.heap.size, 0, none⟩ = some (.int .i64 x0) ∧ w_.cell? ⟨w.heap.size, 1, none⟩ = some (.int .i64 x1) ∧ w_.cell? ⟨w.heap.size, 2, none⟩ = some (.int .i64 x2) ∧ w_.cell? ⟨w.heap.size, 3, none⟩ = some (.int .i64 x3))
    (first | exact ⟨b1.cell rfl, b1.cell rfl, b1.cell rfl, b1.cell rfl⟩ | exact ⟨(hX _ _ _ _ _ b1).cell rfl, (hX _ _ _ _ _ b1).cell rfl, (hX _ _ _ _ _ b1).cell rfl, (hX _ _ _ _ _ b1).cell rfl⟩ | fail)
    (first
      | (go_at_call 85; refine (impl_RenameColours_2_1.calls x0 g A c l y0 _ (Kd.C_below HR.out HE.out) hc (HBG.out.below HE.out HBG.out.lt) H0.out).mono ?_; rintro e w3 ⟨rfl, hD⟩; have hB3 := hD.below; replace b1 := b1.below hB3 b1.lt; replace b2 := b2.below hB3 b2.lt; replace HE := Lib.hid (below_to HE.out hB3); clear z0 z1 z2 z3 f0 f1 f2 f3 l2; have z0 := b2.cell (k := 0) (v := .int .i64 0) rfl; have z1 := b2.cell (k := 1) (v := .int .i64 0) rfl; have z2 := b2.cell (k := 2) (v := .int .i64 0) rfl; have z3 := b2.cell (k := 3) (v := .int .i64 0) rfl; have f0 := b2.frozen 0; have f1 := b2.frozen 1; have f2 := b2.frozen 2; have f3 := b2.frozen 3; have l2 := b2.lt; clear hD hB3)
      | (go_at_call 85; refine (impl_RenameColours_2_1.calls x1 g A c l y1 _ (Kd.C_below HR.out HE.out) hc (HBG.out.below HE.out HBG.out.lt) H1.out).mono ?_; rintro e w3 ⟨rfl, hD⟩; have hB3 := hD.below; replace b1 := b1.below hB3 b1.lt; replace b2 := b2.below hB3 b2.lt; replace HE := Lib.hid (below_to HE.out hB3); clear z0 z1 z2 z3 f0 f1 f2 f3 l2; have z0 := b2.cell (k := 0) (v := .int .i64 0) rfl; have z1 := b2.cell (k := 1) (v := .int .i64 0) rfl; have z2 := b2.cell (k := 2) (v := .int .i64 0) rfl; have z3 := b2.cell (k := 3) (v := .int .i64 0) rfl; have f0 := b2.frozen 0; have f1 := b2.frozen 1; have f2 := b2.frozen 2; have f3 := b2.frozen 3; have l2 := b2.lt; clear hD hB3)
      | (go_at_call 85; refine (impl_RenameColours_2_1.calls x2 g A c l y2 _ (Kd.C_below HR.out HE.out) hc (HBG.out.below HE.out HBG.out.lt) H2.out).mono ?_; rintro e w3 ⟨rfl, hD⟩; have hB3 := hD.below; replace b1 := b1.below hB3 b1.lt; replace b2 := b2.below hB3 b2.lt; replace HE := Lib.hid (below_to HE.out hB3); clear z0 z1 z2 z3 f0 f1 f2 f3 l2; have z0 := b2.cell (k := 0) (v := .int .i64 0) rfl; have z1 := b2.cell (k := 1) (v := .int .i64 0) rfl; have z2 := b2.cell (k := 2) (v := .int .i64 0) rfl; have z3 := b2.cell (k := 3) (v := .int .i64 0) rfl; have f0 := b2.frozen 0; have f1 := b2.frozen 1; have f2 := b2.frozen 2; have f3 := b2.frozen 3; have l2 := b2.lt; clear hD hB3)
      | (go_at_call 85; refine (impl_RenameColours_2_1.calls x3 g A c l y3 _ (Kd.C_below HR.out HE.out) hc (HBG.out.below HE.out HBG.out.lt) H3.out).mono ?_; rintro e w3 ⟨rfl, hD⟩; have hB3 := hD.below; replace b1 := b1.below hB3 b1.lt; replace b2 := b2.below hB3 b2.lt; replace HE := Lib.hid (below_to HE.out hB3); clear z0 z1 z2 z3 f0 f1 f2 f3 l2; have z0 := b2.cell (k := 0) (v := .int .i64 0) rfl; have z1 := b2.cell (k := 1) (v := .int .i64 0) rfl; have z2 := b2.cell (k := 2) (v := .int .i64 0) rfl; have z3 := b2.cell (k := 3) (v := .int .i64 0) rfl; have f0 := b2.frozen 0; have f1 := b2.frozen 1; have f2 := b2.frozen 2; have f3 := b2.frozen 3; have l2 := b2.lt; clear hD hB3))
  go_wp2_with fail
  have hbk : BK ((((w3.setCell ⟨w.heap.size + 1, 0, none⟩ (.int .i64 y0)).setCell ⟨w.heap.size + 1, 1, none⟩ (.int .i64 y1)).setCell ⟨w.heap.size + 1, 2, none⟩ (.int .i64 y2)).setCell ⟨w.heap.size + 1, 3, none⟩ (.int .i64 y3)) (w.heap.size + 1) #[.int .i64 y0, .int .i64 y1, .int .i64 y2, .int .i64 y3] 45 := (((b2.set 0 _).set 1 _).set 2 _).set 3 _
  ((try simp only [Exit.inBlock, Exit.then]); refine bodyPost_ret (results_cell_row rfl _ _ _ _ _ _ _ rfl hbk Try.underlying45 rfl iszT) rfl ?_)
  exact ⟨rfl, below_only HE.out (((((Only.refl (w.heap.size + 1) (w.heap.size + 2) w3).setCell (Nat.le_refl _) (by omega) _ _).setCell (Nat.le_refl _) (by omega) _ _).setCell (Nat.le_refl _) (by omega) _ _).setCell (Nat.le_refl _) (by omega) _ _) (by omega)⟩
end Go.Proofs.Ytnjmgmdpkogocaa
namespace Go.Proofs.Ytnjmgmdpkogocaa.Q
open Go Go.RowKit Go.Proofs Go.Proofs.YtnjmgmdpkogocaaW.PrintWords Go.Proofs.Ytnjmgmdpkogocaa
def impl_Tile_coloured_at_impl_RenameColours_2_1.f (a0_0 a0_1 a0_2 a0_3 : Int) (l1_0_0 : List Int) : Option (Int × Int × Int × Int) :=
  (impl_RenameColours_2_1.f a0_0 l1_0_0).bind fun y0 => (impl_RenameColours_2_1.f a0_1 l1_0_0).bind fun y1 => (impl_RenameColours_2_1.f a0_2 l1_0_0).bind fun y2 => (impl_RenameColours_2_1.f a0_3 l1_0_0).bind fun y3 => some (y0, y1, y2, y3)
theorem impl_Tile_coloured_at_impl_RenameColours_2_1.calls (a0_0 a0_1 a0_2 a0_3 : Int) (g1_0_ : Nat) (A1_0_0 : Option Addr) (c1_0_0 : Nat) (l1_0_0 : List Int) (r1 r2 r3 r4 : Int) (w : World) (hr1_0_0 : Kd.C (Kd.int .i64) w A1_0_0 l1_0_0.length l1_0_0) (hc1_0_0 : l1_0_0.length ≤ c1_0_0) (hb1_0_ : w.heap[g1_0_]? = some (.cells #[.slice A1_0_0 l1_0_0.length c1_0_0] 48 (0, 0))) (h : impl_Tile_coloured_at_impl_RenameColours_2_1.f a0_0 a0_1 a0_2 a0_3 l1_0_0 = some (r1, r2, r3, r4)) :
    Calls Try.prog 73 #[.agg #[.int .i64 a0_0, .int .i64 a0_1, .int .i64 a0_2, .int .i64 a0_3], .func (.func 85) #[] #[.pointer (some ⟨g1_0_, 0, none⟩)]] w fun e w' => e = .returned (.agg #[.int .i64 r1, .int .i64 r2, .int .i64 r3, .int .i64 r4]) ∧ Below w.heap.size w w' := by
  unfold impl_Tile_coloured_at_impl_RenameColours_2_1.f at h
  obtain ⟨y0, h0, h⟩ := Option.bind_eq_some_iff.1 h
  obtain ⟨y1, h1, h⟩ := Option.bind_eq_some_iff.1 h
  obtain ⟨y2, h2, h⟩ := Option.bind_eq_some_iff.1 h
  obtain ⟨y3, h3, h⟩ := Option.bind_eq_some_iff.1 h
  simp only [Option.some.injEq, Prod.mk.injEq] at h
  obtain ⟨rfl, rfl, rfl, rfl⟩ := h
  exact ColR_any a0_0 a0_1 a0_2 a0_3 y0 y1 y2 y3 g1_0_ A1_0_0 c1_0_0 l1_0_0 w hr1_0_0 hc1_0_0 hb1_0_ h0 h1 h2 h3
end Go.Proofs.Ytnjmgmdpkogocaa.Q

-- Printed by a program of this session (the kit's print, turned: printpatch.py) out of Lean's print of the translation. Lean checks it.
namespace Go.Proofs.Ytnjmgmdpkogocaa.Q
open Go.RowKit Go.Proofs.YtnjmgmdpkogocaaW.PrintWords Go.Proofs.YtnjmgmdpkogocaaW.PrintLast Go.Proofs.YtnjmgmdpkogocaaW.PrintMore
attribute [local go_sem] max2_int min2_int max_two min_two max_three min_three max_four min_four   -- for this text's walks alone
set_option linter.unusedVariables false
set_option linter.unusedSimpArgs false

/-! ### impl_RenameColours_2: function 84 -/
def impl_RenameColours_2.f (a0_0 : Int) (a0_1 : Int) (a0_2 : Int) (a0_3 : Int) (l1_0 : List Int) : Option (Int × Int × Int × Int) := (impl_Tile_coloured_at_impl_RenameColours_2_1.f a0_0 a0_1 a0_2 a0_3 l1_0).bind fun bt497 => (some (bt497.1, bt497.2.1, bt497.2.2.1, bt497.2.2.2))
set_option maxHeartbeats 8000000 in
set_option maxRecDepth 100000 in
theorem impl_RenameColours_2.calls (a0_0 : Int) (a0_1 : Int) (a0_2 : Int) (a0_3 : Int) (g1_ : Nat) (A1_0 : Option Addr) (c1_0 : Nat) (l1_0 : List Int) (r1 : Int) (r2 : Int) (r3 : Int) (r4 : Int) (w : World) (hr1_0 : Kd.C (Kd.int .i64) w A1_0 l1_0.length l1_0) (hc1_0 : l1_0.length ≤ c1_0) (hb1_ : w.heap[g1_]? = some (.cells #[.slice A1_0 l1_0.length c1_0] 48 (0, 0))) (h : impl_RenameColours_2.f a0_0 a0_1 a0_2 a0_3 l1_0 = some (r1, r2, r3, r4)) :
  Calls Try.prog 84 #[.agg #[.int .i64 a0_0, .int .i64 a0_1, .int .i64 a0_2, .int .i64 a0_3], .pointer (some ⟨g1_, 0, none⟩)] w fun e w' => e = .returned (.agg #[.int .i64 r1, .int .i64 r2, .int .i64 r3, .int .i64 r4]) ∧ Below w.heap.size w w' := by
 have hu45 := Try.underlying45
 have HR1_0 := Aside0.mk hr1_0
 have HC1_0 := Aside0.mk hc1_0
 clear hr1_0 hc1_0
 have BK1 := Aside0.mk hb1_
 clear hb1_
 have HB := Aside0.mk (Below.refl w.heap.size w)
 have H : ((impl_Tile_coloured_at_impl_RenameColours_2_1.f a0_0 a0_1 a0_2 a0_3 l1_0).bind fun bt497 => (some (bt497.1, bt497.2.1, bt497.2.2.1, bt497.2.2.2))) = some (r1, r2, r3, r4) := h
 clear h
 replace H := Option.bind_eq_some_iff.mp H
 obtain ⟨⟨t497, t498, t499, t500⟩, A30, H⟩ := H
 replace H : (some (t497, t498, t499, t500)) = some (r1, r2, r3, r4) := H
 have A3 := Aside0.mk A30
 clear A30
 simp only [Option.some.injEq, Prod.mk.injEq] at H
 obtain ⟨rfl, rfl, rfl, rfl⟩ := H
 go_enter Try.func84, Try.ntmps84
 go_wp2_with (first | ((with_reducible refine gate_dst (N := 2) rfl ?_); refine box_event ?hg (N := 2) ?hd (cs := #[.int .i64 a0_0, .int .i64 a0_1, .int .i64 a0_2, .int .i64 a0_3]) (t := 45) ?hr ?_; (case hd => rfl); (case hg => rfl); (case hr => first | (go_simp; done) | (go_simp; rfl)); intro gb495 hg w4 hbox hb; have n0_ := Aside0.mk (blk_below (g := g1_) (o := .cells #[.slice A1_0 l1_0.length c1_0] 48 (0, 0)) (by (with_reducible repeat (first | refine blk_drewN ?_ _ | refine blk_drew ?_ | refine blk_alloc ?_ _)); exact BK1.out) hb); have n1_ := Aside0.mk (below_step (by repeat (first | (with_reducible first | exact HB.out | apply below_alloc | apply pw_below_drewN | apply below_drew1) | exact HB.out)) hb); have n2_ := Aside0.mk (hbox); have n3_ := Aside0.mk ((by rw [hg]; exact (below_size (by repeat (first | (with_reducible first | exact HB.out | apply below_alloc | apply pw_below_drewN | apply below_drew1) | exact HB.out))) : w.heap.size ≤ gb495)); have n4_ := Aside0.mk ((by rw [hg]; exact (below_size (by repeat (first | (with_reducible first | exact HB.out | apply below_alloc | apply pw_below_drewN | apply below_drew1) | exact HB.out))) : w.heap.size ≤ gb495)); have n5_ := Aside0.mk ((by rw [hg]; exact Nat.ne_of_lt (blk_lt (g := g1_) (o := .cells #[.slice A1_0 l1_0.length c1_0] 48 (0, 0)) (by (with_reducible repeat (first | refine blk_drewN ?_ _ | refine blk_drew ?_ | refine blk_alloc ?_ _)); exact BK1.out)) : g1_ ≠ gb495)); have n6_ := Aside0.mk ((by rw [hg]; exact Nat.ne_of_gt (blk_lt (g := g1_) (o := .cells #[.slice A1_0 l1_0.length c1_0] 48 (0, 0)) (by (with_reducible repeat (first | refine blk_drewN ?_ _ | refine blk_drew ?_ | refine blk_alloc ?_ _)); exact BK1.out)) : gb495 ≠ g1_)); clear BK1; clear HB; have BK1 := n0_; have HB := n1_; have BK495 := n2_; have GW495 := n3_; have GE495 := n4_; have NB1_495 := n5_; have NB495_1 := n6_; clear n0_ n1_ n2_ n3_ n4_ n5_ n6_; clear hb hbox hg) | ((with_reducible refine gate_dst (N := 3) rfl ?_); refine box_event ?hg (N := 3) ?hd (cs := #[.int .i64 0, .int .i64 0, .int .i64 0, .int .i64 0]) (t := 45) ?hr ?_; (case hd => rfl); (case hg => rfl); (case hr => first | (go_simp; done) | (go_simp; rfl)); intro gb496 hg w5 hbox hb; have n0_ := Aside0.mk (blk_below (g := g1_) (o := .cells #[.slice A1_0 l1_0.length c1_0] 48 (0, 0)) (by (with_reducible repeat (first | refine blk_drewN ?_ _ | refine blk_drew ?_ | refine blk_alloc ?_ _)); exact BK1.out) hb); have n1_ := Aside0.mk (blk_below (g := gb495) (o := .cells #[.int .i64 a0_0, .int .i64 a0_1, .int .i64 a0_2, .int .i64 a0_3] 45 (0, 0)) (by (with_reducible repeat (first | refine blk_drewN ?_ _ | refine blk_drew ?_ | refine blk_alloc ?_ _)); exact BK495.out) hb); have n2_ := Aside0.mk (below_step (by repeat (first | (with_reducible first | exact HB.out | apply below_alloc | apply pw_below_drewN | apply below_drew1 | refine below_set ?_ GE495.out) | exact HB.out)) hb); have n3_ := Aside0.mk (hbox); have n4_ := Aside0.mk ((by rw [hg]; exact (below_size (by repeat (first | (with_reducible first | exact HB.out | apply below_alloc | apply pw_below_drewN | apply below_drew1 | refine below_set ?_ GE495.out) | exact HB.out))) : w.heap.size ≤ gb496)); have n5_ := Aside0.mk ((by rw [hg]; exact (below_size (by repeat (first | (with_reducible first | exact HB.out | apply below_alloc | apply pw_below_drewN | apply below_drew1 | refine below_set ?_ GE495.out) | exact HB.out))) : w.heap.size ≤ gb496)); have n6_ := Aside0.mk ((by rw [hg]; exact Nat.ne_of_lt (blk_lt (g := g1_) (o := .cells #[.slice A1_0 l1_0.length c1_0] 48 (0, 0)) (by (with_reducible repeat (first | refine blk_drewN ?_ _ | refine blk_drew ?_ | refine blk_alloc ?_ _)); exact BK1.out)) : g1_ ≠ gb496)); have n7_ := Aside0.mk ((by rw [hg]; exact Nat.ne_of_gt (blk_lt (g := g1_) (o := .cells #[.slice A1_0 l1_0.length c1_0] 48 (0, 0)) (by (with_reducible repeat (first | refine blk_drewN ?_ _ | refine blk_drew ?_ | refine blk_alloc ?_ _)); exact BK1.out)) : gb496 ≠ g1_)); have n8_ := Aside0.mk ((by rw [hg]; exact Nat.ne_of_lt (blk_lt (g := gb495) (o := .cells #[.int .i64 a0_0, .int .i64 a0_1, .int .i64 a0_2, .int .i64 a0_3] 45 (0, 0)) (by (with_reducible repeat (first | refine blk_drewN ?_ _ | refine blk_drew ?_ | refine blk_alloc ?_ _)); exact BK495.out)) : gb495 ≠ gb496)); have n9_ := Aside0.mk ((by rw [hg]; exact Nat.ne_of_gt (blk_lt (g := gb495) (o := .cells #[.int .i64 a0_0, .int .i64 a0_1, .int .i64 a0_2, .int .i64 a0_3] 45 (0, 0)) (by (with_reducible repeat (first | refine blk_drewN ?_ _ | refine blk_drew ?_ | refine blk_alloc ?_ _)); exact BK495.out)) : gb496 ≠ gb495)); clear BK1; clear BK495; clear HB; have BK1 := n0_; have BK495 := n1_; have HB := n2_; have BK496 := n3_; have GW496 := n4_; have GE496 := n5_; have NB1_496 := n6_; have NB496_1 := n7_; have NB495_496 := n8_; have NB496_495 := n9_; clear n0_ n1_ n2_ n3_ n4_ n5_ n6_ n7_ n8_ n9_; clear hb hbox hg; have hnb6 := NB495_1.out; have hnc6 := NB1_495.out; have hnb7 := NB495_496.out; have hnc7 := NB496_495.out; have hcz8_0 : w5.cell? ⟨gb495, 0, none⟩ = some (.int .i64 a0_0) := (blk_cell BK495.out 0).trans rfl; have hcz8_1 : w5.cell? ⟨gb495, 1, none⟩ = some (.int .i64 a0_1) := (blk_cell BK495.out 1).trans rfl; have hcz8_2 : w5.cell? ⟨gb495, 2, none⟩ = some (.int .i64 a0_2) := (blk_cell BK495.out 2).trans rfl; have hcz8_3 : w5.cell? ⟨gb495, 3, none⟩ = some (.int .i64 a0_3) := (blk_cell BK495.out 3).trans rfl; have hfz8_0 := blk_frozen BK495.out 0; have hfz8_1 := blk_frozen BK495.out 1; have hfz8_2 := blk_frozen BK495.out 2; have hfz8_3 := blk_frozen BK495.out 3) | ((with_reducible refine gate_callee (f := 73) rfl ?_); refine goesL_ (some 6) rfl rfl Try.func73 (by kernel_rfl) rfl #[.agg #[.int .i64 a0_0, .int .i64 a0_1, .int .i64 a0_2, .int .i64 a0_3], .func (.func 85) #[] #[.pointer (some ⟨g1_, 0, none⟩)]] rfl (by (try simp only [List.map_toArray, List.map_cons, List.map_nil]); first | done | rfl | (simp only [List.length_drop, List.length_take]; rfl)) ?_; (with_reducible refine (impl_Tile_coloured_at_impl_RenameColours_2_1.calls a0_0 a0_1 a0_2 a0_3 g1_ A1_0 c1_0 l1_0 t497 t498 t499 t500 _ ?side1 ?side2 ?side3 A3.out).mono ?_); (case side1 => repeat (first | exact (Kd.C_below HR1_0.out HB.out) | (with_reducible refine Kd.C_alloc ?_ _) | (with_reducible refine Kd.C_drewN ?_ _) | (with_reducible refine Kd.C_drew ?_))); (case side2 => exact HC1_0.out); (case side3 => exact (by (with_reducible repeat (first | refine blk_drewN ?_ _ | refine blk_drew ?_ | refine blk_alloc ?_ _)); exact BK1.out)); rintro e w9 ⟨rfl, hb⟩; refine ⟨_, rfl, ?_⟩; have n0_ := Aside0.mk (blk_below (g := g1_) (o := .cells #[.slice A1_0 l1_0.length c1_0] 48 (0, 0)) (by (with_reducible repeat (first | refine blk_drewN ?_ _ | refine blk_drew ?_ | refine blk_alloc ?_ _)); exact BK1.out) hb); have n1_ := Aside0.mk (blk_below (g := gb495) (o := .cells #[.int .i64 a0_0, .int .i64 a0_1, .int .i64 a0_2, .int .i64 a0_3] 45 (0, 0)) (by (with_reducible repeat (first | refine blk_drewN ?_ _ | refine blk_drew ?_ | refine blk_alloc ?_ _)); exact BK495.out) hb); have n2_ := Aside0.mk (blk_below (g := gb496) (o := .cells #[.int .i64 0, .int .i64 0, .int .i64 0, .int .i64 0] 45 (0, 0)) (by (with_reducible repeat (first | refine blk_drewN ?_ _ | refine blk_drew ?_ | refine blk_alloc ?_ _)); exact BK496.out) hb); have n3_ := Aside0.mk (below_step (by repeat (first | (with_reducible first | exact HB.out | apply below_alloc | apply pw_below_drewN | apply below_drew1 | refine below_set ?_ GE495.out | refine below_set ?_ GE496.out) | exact HB.out)) hb); clear BK1; clear BK495; clear BK496; clear HB; have BK1 := n0_; have BK495 := n1_; have BK496 := n2_; have HB := n3_; clear n0_ n1_ n2_ n3_; (try clear hb); (try clear hb2); (try clear hk); (try clear hi); have hnb10 := NB496_1.out; have hnc10 := NB1_496.out; have hcz11_0 : w9.cell? ⟨gb496, 0, none⟩ = some (.int .i64 0) := (blk_cell BK496.out 0).trans rfl; have hcz11_1 : w9.cell? ⟨gb496, 1, none⟩ = some (.int .i64 0) := (blk_cell BK496.out 1).trans rfl; have hcz11_2 : w9.cell? ⟨gb496, 2, none⟩ = some (.int .i64 0) := (blk_cell BK496.out 2).trans rfl; have hcz11_3 : w9.cell? ⟨gb496, 3, none⟩ = some (.int .i64 0) := (blk_cell BK496.out 3).trans rfl; have hfz11_0 := blk_frozen BK496.out 0; have hfz11_1 := blk_frozen BK496.out 1; have hfz11_2 := blk_frozen BK496.out 2; have hfz11_3 := blk_frozen BK496.out 3))
 refine bodyPost_ret (results_cell_row rfl _ _ gb496 45 #[.int .i64 t497, .int .i64 t498, .int .i64 t499, .int .i64 t500] (0, 0) _ rfl (by (with_reducible repeat (first | refine blk_drewN ?_ _ | refine blk_drew ?_ | refine blk_alloc ?_ _)); refine blk_put (cs := #[.int .i64 t497, .int .i64 t498, .int .i64 t499, .int .i64 0]) ?_ 3 _ rfl; (with_reducible repeat (first | refine blk_drewN ?_ _ | refine blk_drew ?_ | refine blk_alloc ?_ _)); refine blk_put (cs := #[.int .i64 t497, .int .i64 t498, .int .i64 0, .int .i64 0]) ?_ 2 _ rfl; (with_reducible repeat (first | refine blk_drewN ?_ _ | refine blk_drew ?_ | refine blk_alloc ?_ _)); refine blk_put (cs := #[.int .i64 t497, .int .i64 0, .int .i64 0, .int .i64 0]) ?_ 1 _ rfl; (with_reducible repeat (first | refine blk_drewN ?_ _ | refine blk_drew ?_ | refine blk_alloc ?_ _)); refine blk_put (cs := #[.int .i64 0, .int .i64 0, .int .i64 0, .int .i64 0]) ?_ 0 _ rfl; (with_reducible repeat (first | refine blk_drewN ?_ _ | refine blk_drew ?_ | refine blk_alloc ?_ _)); exact BK496.out) Try.underlying45 rfl (by kernel_rfl)) rfl ?_
 exact ⟨by first | rfl | (simp [errW_none, errW_some] <;> rfl) | (simp [*, errW_none, errW_some] <;> rfl), by repeat (first | (with_reducible first | exact HB.out | apply below_alloc | apply pw_below_drewN | apply below_drew1 | refine below_set ?_ GE495.out | refine below_set ?_ GE496.out) | exact HB.out)⟩

end Go.Proofs.Ytnjmgmdpkogocaa.Q

-- Printed by a program of this session (the kit's print, turned: printpatch.py) out of Lean's print of the translation. Lean checks it.
namespace Go.Proofs.Ytnjmgmdpkogocaa.Q
open Go.RowKit Go.Proofs.YtnjmgmdpkogocaaW.PrintWords Go.Proofs.YtnjmgmdpkogocaaW.PrintLast Go.Proofs.YtnjmgmdpkogocaaW.PrintMore
attribute [local go_sem] max2_int min2_int max_two min_two max_three min_three max_four min_four   -- for this text's walks alone
set_option linter.unusedVariables false
set_option linter.unusedSimpArgs false

/-! ### impl_setCode_at_impl_RenameColours_1: function 179 -/
def impl_setCode_at_impl_RenameColours_1.f (k : Nat) (a0_0 : Int) (l0_1 : List (S45)) (l1_0_0 : List Int) (a1_1_0 : Int) (l1_1_1 : List (S45)) : Option (Int) := (impl_IsSet.f a0_0 l0_1).bind fun t499 => (if t499 = true then ((impl_RenameColours_1.f k l1_0_0 a1_1_0 l1_1_1).bind fun t500 => (if t500 = true then (some 0) else (some 2))) else (some 1))
theorem impl_setCode_at_impl_RenameColours_1.mono : ∀ a0 a1 a2 a3 a4 k, LeO (impl_setCode_at_impl_RenameColours_1.f k a0 a1 a2 a3 a4) (impl_setCode_at_impl_RenameColours_1.f (k + 1) a0 a1 a2 a3 a4) := by
 intro a0 a1 a2 a3 a4 k
 unfold impl_setCode_at_impl_RenameColours_1.f
 repeat' first
   | (with_reducible exact impl_RenameColours_1.mono _ _ _ _)
   | (with_reducible exact LeO.refl _)
   | (with_reducible exact LeO.none _)
   | (with_reducible refine LeO.ite ?_ ?_)
   | (with_reducible refine LeO.bind ?_ (fun _ => ?_))
   | exact impl_RenameColours_1.mono _ _ _ _
   | exact LeO.none _
   | refine LeO.ite ?_ ?_
   | refine LeO.bind ?_ (fun _ => ?_)
set_option maxHeartbeats 8000000 in
set_option maxRecDepth 100000 in
theorem impl_setCode_at_impl_RenameColours_1.calls (k : Nat) (a0_0 : Int) (A0_1 : Option Addr) (c0_1 : Nat) (l0_1 : List (S45)) (g1_0_ : Nat) (A1_0_0 : Option Addr) (c1_0_0 : Nat) (l1_0_0 : List Int) (g1_1_ : Nat) (a1_1_0 : Int) (A1_1_1 : Option Addr) (c1_1_1 : Nat) (l1_1_1 : List (S45)) (r : Int) (w : World) (hr0_1 : Kd.C k45 w A0_1 l0_1.length l0_1) (hc0_1 : l0_1.length ≤ c0_1) (hr1_0_0 : Kd.C (Kd.int .i64) w A1_0_0 l1_0_0.length l1_0_0) (hc1_0_0 : l1_0_0.length ≤ c1_0_0) (hr1_1_1 : Kd.C k45 w A1_1_1 l1_1_1.length l1_1_1) (hc1_1_1 : l1_1_1.length ≤ c1_1_1) (hb1_0_ : w.heap[g1_0_]? = some (.cells #[.slice A1_0_0 l1_0_0.length c1_0_0] 48 (0, 0))) (hb1_1_ : w.heap[g1_1_]? = some (.cells #[.int .i64 a1_1_0, .slice A1_1_1 l1_1_1.length c1_1_1] 26 (0, 0))) (h : impl_setCode_at_impl_RenameColours_1.f k a0_0 l0_1 l1_0_0 a1_1_0 l1_1_1 = some r) :
  Calls Try.prog 77 #[.agg #[.int .i64 a0_0, .slice A0_1 l0_1.length c0_1], .func (.func 82) #[] #[.pointer (some ⟨g1_0_, 0, none⟩), .pointer (some ⟨g1_1_, 0, none⟩)]] w fun e w' => e = .returned (.int .i64 r) ∧ Below w.heap.size w w' := by
 have hu26 := Try.underlying26
 have HR0_1 := Aside0.mk hr0_1
 have HC0_1 := Aside0.mk hc0_1
 clear hr0_1 hc0_1
 have HR1_0_0 := Aside0.mk hr1_0_0
 have HC1_0_0 := Aside0.mk hc1_0_0
 clear hr1_0_0 hc1_0_0
 have HR1_1_1 := Aside0.mk hr1_1_1
 have HC1_1_1 := Aside0.mk hc1_1_1
 clear hr1_1_1 hc1_1_1
 have BK90020 := Aside0.mk hb1_0_
 clear hb1_0_
 have BK90021 := Aside0.mk hb1_1_
 clear hb1_1_
 have HB := Aside0.mk (Below.refl w.heap.size w)
 have H : ((impl_IsSet.f a0_0 l0_1).bind fun t499 => (if t499 = true then ((impl_RenameColours_1.f k l1_0_0 a1_1_0 l1_1_1).bind fun t500 => (if t500 = true then (some 0) else (some 2))) else (some 1))) = some r := h
 clear h
 replace H := Option.bind_eq_some_iff.mp H
 obtain ⟨t499, A30, H⟩ := H
 replace H : (if t499 = true then ((impl_RenameColours_1.f k l1_0_0 a1_1_0 l1_1_1).bind fun t500 => (if t500 = true then (some 0) else (some 2))) else (some 1)) = some r := H
 have A3 := Aside0.mk A30
 clear A30
 by_cases c4 : t499 = true
 ·subst c4
  have H1 : ((impl_RenameColours_1.f k l1_0_0 a1_1_0 l1_1_1).bind fun t500 => (if t500 = true then (some 0) else (some 2))) = some r := by rw [if_pos rfl] at H; exact H
  clear H
  have H := H1
  clear H1
  replace H := Option.bind_eq_some_iff.mp H
  obtain ⟨t500, A50, H⟩ := H
  replace H : (if t500 = true then (some 0) else (some 2)) = some r := H
  have A5 := Aside0.mk A50
  clear A50
  by_cases c6 : t500 = true
  ·subst c6
   have H1 : (some 0) = some r := by rw [if_pos rfl] at H; exact H
   clear H
   have H := H1
   clear H1
   obtain rfl := Option.some.inj H
   go_enter Try.func77, Try.ntmps77
   go_wp2_with (first | ((with_reducible refine gate_dst (N := 2) rfl ?_); refine box_event ?hg (N := 2) ?hd (cs := #[.int .i64 a0_0, .slice A0_1 l0_1.length c0_1]) (t := 26) ?hr ?_; (case hd => rfl); (case hg => rfl); (case hr => first | (go_simp; done) | (go_simp; rfl)); intro gb498 hg w7 hbox hb; have n0_ := Aside0.mk (blk_below (g := g1_0_) (o := .cells #[.slice A1_0_0 l1_0_0.length c1_0_0] 48 (0, 0)) (by (with_reducible repeat (first | refine blk_drewN ?_ _ | refine blk_drew ?_ | refine blk_alloc ?_ _)); exact BK90020.out) hb); have n1_ := Aside0.mk (blk_below (g := g1_1_) (o := .cells #[.int .i64 a1_1_0, .slice A1_1_1 l1_1_1.length c1_1_1] 26 (0, 0)) (by (with_reducible repeat (first | refine blk_drewN ?_ _ | refine blk_drew ?_ | refine blk_alloc ?_ _)); exact BK90021.out) hb); have n2_ := Aside0.mk (below_step (by repeat (first | (with_reducible first | exact HB.out | apply below_alloc | apply pw_below_drewN | apply below_drew1) | exact HB.out)) hb); have n3_ := Aside0.mk (hbox); have n4_ := Aside0.mk ((by rw [hg]; exact (below_size (by repeat (first | (with_reducible first | exact HB.out | apply below_alloc | apply pw_below_drewN | apply below_drew1) | exact HB.out))) : w.heap.size ≤ gb498)); have n5_ := Aside0.mk ((by rw [hg]; exact (below_size (by repeat (first | (with_reducible first | exact HB.out | apply below_alloc | apply pw_below_drewN | apply below_drew1) | exact HB.out))) : w.heap.size ≤ gb498)); have n6_ := Aside0.mk ((by rw [hg]; exact Nat.ne_of_lt (blk_lt (g := g1_0_) (o := .cells #[.slice A1_0_0 l1_0_0.length c1_0_0] 48 (0, 0)) (by (with_reducible repeat (first | refine blk_drewN ?_ _ | refine blk_drew ?_ | refine blk_alloc ?_ _)); exact BK90020.out)) : g1_0_ ≠ gb498)); have n7_ := Aside0.mk ((by rw [hg]; exact Nat.ne_of_gt (blk_lt (g := g1_0_) (o := .cells #[.slice A1_0_0 l1_0_0.length c1_0_0] 48 (0, 0)) (by (with_reducible repeat (first | refine blk_drewN ?_ _ | refine blk_drew ?_ | refine blk_alloc ?_ _)); exact BK90020.out)) : gb498 ≠ g1_0_)); have n8_ := Aside0.mk ((by rw [hg]; exact Nat.ne_of_lt (blk_lt (g := g1_1_) (o := .cells #[.int .i64 a1_1_0, .slice A1_1_1 l1_1_1.length c1_1_1] 26 (0, 0)) (by (with_reducible repeat (first | refine blk_drewN ?_ _ | refine blk_drew ?_ | refine blk_alloc ?_ _)); exact BK90021.out)) : g1_1_ ≠ gb498)); have n9_ := Aside0.mk ((by rw [hg]; exact Nat.ne_of_gt (blk_lt (g := g1_1_) (o := .cells #[.int .i64 a1_1_0, .slice A1_1_1 l1_1_1.length c1_1_1] 26 (0, 0)) (by (with_reducible repeat (first | refine blk_drewN ?_ _ | refine blk_drew ?_ | refine blk_alloc ?_ _)); exact BK90021.out)) : gb498 ≠ g1_1_)); clear BK90020; clear BK90021; clear HB; have BK90020 := n0_; have BK90021 := n1_; have HB := n2_; have BK498 := n3_; have GW498 := n4_; have GE498 := n5_; have NB90020_498 := n6_; have NB498_90020 := n7_; have NB90021_498 := n8_; have NB498_90021 := n9_; clear n0_ n1_ n2_ n3_ n4_ n5_ n6_ n7_ n8_ n9_; clear hb hbox hg; have hnb8 := NB498_90020.out; have hnc8 := NB90020_498.out; have hnb9 := NB498_90021.out; have hnc9 := NB90021_498.out; have hcz10_0 : w7.cell? ⟨gb498, 0, none⟩ = some (.int .i64 a0_0) := (blk_cell BK498.out 0).trans rfl; have hcz10_1 : w7.cell? ⟨gb498, 1, none⟩ = some (.slice A0_1 l0_1.length c0_1) := (blk_cell BK498.out 1).trans rfl; have hfz10_0 := blk_frozen BK498.out 0; have hfz10_1 := blk_frozen BK498.out 1) | ((with_reducible refine gate_callee (f := 96) rfl ?_); refine goesL_ (some 7) rfl rfl Try.func96 (by kernel_rfl) rfl #[.agg #[.int .i64 a0_0, .slice A0_1 l0_1.length c0_1]] rfl (by (try simp only [List.map_toArray, List.map_cons, List.map_nil]); first | done | rfl | (simp only [List.length_drop, List.length_take]; rfl)) ?_; (with_reducible refine (impl_IsSet.calls a0_0 _ _ l0_1 true _ ?side1 ?side2 A3.out).mono ?_); (case side1 => repeat (first | exact (Kd.C_below HR0_1.out HB.out) | (with_reducible refine Kd.C_alloc ?_ _) | (with_reducible refine Kd.C_drewN ?_ _) | (with_reducible refine Kd.C_drew ?_))); (case side2 => exact HC0_1.out); rintro e w11 ⟨rfl, hb⟩; refine ⟨_, rfl, ?_⟩; have n0_ := Aside0.mk (blk_below (g := g1_0_) (o := .cells #[.slice A1_0_0 l1_0_0.length c1_0_0] 48 (0, 0)) (by (with_reducible repeat (first | refine blk_drewN ?_ _ | refine blk_drew ?_ | refine blk_alloc ?_ _)); exact BK90020.out) hb); have n1_ := Aside0.mk (blk_below (g := g1_1_) (o := .cells #[.int .i64 a1_1_0, .slice A1_1_1 l1_1_1.length c1_1_1] 26 (0, 0)) (by (with_reducible repeat (first | refine blk_drewN ?_ _ | refine blk_drew ?_ | refine blk_alloc ?_ _)); exact BK90021.out) hb); have n2_ := Aside0.mk (blk_below (g := gb498) (o := .cells #[.int .i64 a0_0, .slice A0_1 l0_1.length c0_1] 26 (0, 0)) (by (with_reducible repeat (first | refine blk_drewN ?_ _ | refine blk_drew ?_ | refine blk_alloc ?_ _)); exact BK498.out) hb); have n3_ := Aside0.mk (below_step (by repeat (first | (with_reducible first | exact HB.out | apply below_alloc | apply pw_below_drewN | apply below_drew1 | refine below_set ?_ GE498.out) | exact HB.out)) hb); clear BK90020; clear BK90021; clear BK498; clear HB; have BK90020 := n0_; have BK90021 := n1_; have BK498 := n2_; have HB := n3_; clear n0_ n1_ n2_ n3_; (try clear hb); (try clear hb2); (try clear hk); (try clear hi)))
   (with_reducible refine (impl_RenameColours_1.calls k g1_0_ A1_0_0 c1_0_0 l1_0_0 g1_1_ a1_1_0 A1_1_1 c1_1_1 l1_1_1 true _ ?side1_q12 ?side2_q12 ?side3_q12 ?side4_q12 ?side5_q12 ?side6_q12 A5.out).mono ?_); (case side1_q12 => repeat (first | exact (Kd.C_below HR1_0_0.out HB.out) | (with_reducible refine Kd.C_alloc ?_ _) | (with_reducible refine Kd.C_drewN ?_ _) | (with_reducible refine Kd.C_drew ?_))); (case side2_q12 => exact HC1_0_0.out); (case side3_q12 => repeat (first | exact (Kd.C_below HR1_1_1.out HB.out) | (with_reducible refine Kd.C_alloc ?_ _) | (with_reducible refine Kd.C_drewN ?_ _) | (with_reducible refine Kd.C_drew ?_))); (case side4_q12 => exact HC1_1_1.out); (case side5_q12 => exact (by (with_reducible repeat (first | refine blk_drewN ?_ _ | refine blk_drew ?_ | refine blk_alloc ?_ _)); exact BK90020.out)); (case side6_q12 => exact (by (with_reducible repeat (first | refine blk_drewN ?_ _ | refine blk_drew ?_ | refine blk_alloc ?_ _)); exact BK90021.out))
   rintro e w' ⟨rfl, ⟨nd, rfl⟩⟩
   go_wp2_with fail
   go_ret
   exact ⟨by first | rfl | (simp [errW_none, errW_some] <;> rfl) | (simp [*, errW_none, errW_some] <;> rfl), by repeat (first | (with_reducible first | exact HB.out | apply below_alloc | apply pw_below_drewN | apply below_drew1 | refine below_set ?_ GE498.out) | exact HB.out)⟩
  ·replace c6 := Bool.eq_false_iff.mpr c6
   subst c6
   have H1 : (some 2) = some r := by rw [if_neg (show ¬ (false = true) by decide)] at H; exact H
   clear H
   have H := H1
   clear H1
   obtain rfl := Option.some.inj H
   go_enter Try.func77, Try.ntmps77
   go_wp2_with (first | ((with_reducible refine gate_dst (N := 2) rfl ?_); refine box_event ?hg (N := 2) ?hd (cs := #[.int .i64 a0_0, .slice A0_1 l0_1.length c0_1]) (t := 26) ?hr ?_; (case hd => rfl); (case hg => rfl); (case hr => first | (go_simp; done) | (go_simp; rfl)); intro gb498 hg w13 hbox hb; have n0_ := Aside0.mk (blk_below (g := g1_0_) (o := .cells #[.slice A1_0_0 l1_0_0.length c1_0_0] 48 (0, 0)) (by (with_reducible repeat (first | refine blk_drewN ?_ _ | refine blk_drew ?_ | refine blk_alloc ?_ _)); exact BK90020.out) hb); have n1_ := Aside0.mk (blk_below (g := g1_1_) (o := .cells #[.int .i64 a1_1_0, .slice A1_1_1 l1_1_1.length c1_1_1] 26 (0, 0)) (by (with_reducible repeat (first | refine blk_drewN ?_ _ | refine blk_drew ?_ | refine blk_alloc ?_ _)); exact BK90021.out) hb); have n2_ := Aside0.mk (below_step (by repeat (first | (with_reducible first | exact HB.out | apply below_alloc | apply pw_below_drewN | apply below_drew1) | exact HB.out)) hb); have n3_ := Aside0.mk (hbox); have n4_ := Aside0.mk ((by rw [hg]; exact (below_size (by repeat (first | (with_reducible first | exact HB.out | apply below_alloc | apply pw_below_drewN | apply below_drew1) | exact HB.out))) : w.heap.size ≤ gb498)); have n5_ := Aside0.mk ((by rw [hg]; exact (below_size (by repeat (first | (with_reducible first | exact HB.out | apply below_alloc | apply pw_below_drewN | apply below_drew1) | exact HB.out))) : w.heap.size ≤ gb498)); have n6_ := Aside0.mk ((by rw [hg]; exact Nat.ne_of_lt (blk_lt (g := g1_0_) (o := .cells #[.slice A1_0_0 l1_0_0.length c1_0_0] 48 (0, 0)) (by (with_reducible repeat (first | refine blk_drewN ?_ _ | refine blk_drew ?_ | refine blk_alloc ?_ _)); exact BK90020.out)) : g1_0_ ≠ gb498)); have n7_ := Aside0.mk ((by rw [hg]; exact Nat.ne_of_gt (blk_lt (g := g1_0_) (o := .cells #[.slice A1_0_0 l1_0_0.length c1_0_0] 48 (0, 0)) (by (with_reducible repeat (first | refine blk_drewN ?_ _ | refine blk_drew ?_ | refine blk_alloc ?_ _)); exact BK90020.out)) : gb498 ≠ g1_0_)); have n8_ := Aside0.mk ((by rw [hg]; exact Nat.ne_of_lt (blk_lt (g := g1_1_) (o := .cells #[.int .i64 a1_1_0, .slice A1_1_1 l1_1_1.length c1_1_1] 26 (0, 0)) (by (with_reducible repeat (first | refine blk_drewN ?_ _ | refine blk_drew ?_ | refine blk_alloc ?_ _)); exact BK90021.out)) : g1_1_ ≠ gb498)); have n9_ := Aside0.mk ((by rw [hg]; exact Nat.ne_of_gt (blk_lt (g := g1_1_) (o := .cells #[.int .i64 a1_1_0, .slice A1_1_1 l1_1_1.length c1_1_1] 26 (0, 0)) (by (with_reducible repeat (first | refine blk_drewN ?_ _ | refine blk_drew ?_ | refine blk_alloc ?_ _)); exact BK90021.out)) : gb498 ≠ g1_1_)); clear BK90020; clear BK90021; clear HB; have BK90020 := n0_; have BK90021 := n1_; have HB := n2_; have BK498 := n3_; have GW498 := n4_; have GE498 := n5_; have NB90020_498 := n6_; have NB498_90020 := n7_; have NB90021_498 := n8_; have NB498_90021 := n9_; clear n0_ n1_ n2_ n3_ n4_ n5_ n6_ n7_ n8_ n9_; clear hb hbox hg; have hnb14 := NB498_90020.out; have hnc14 := NB90020_498.out; have hnb15 := NB498_90021.out; have hnc15 := NB90021_498.out; have hcz16_0 : w13.cell? ⟨gb498, 0, none⟩ = some (.int .i64 a0_0) := (blk_cell BK498.out 0).trans rfl; have hcz16_1 : w13.cell? ⟨gb498, 1, none⟩ = some (.slice A0_1 l0_1.length c0_1) := (blk_cell BK498.out 1).trans rfl; have hfz16_0 := blk_frozen BK498.out 0; have hfz16_1 := blk_frozen BK498.out 1) | ((with_reducible refine gate_callee (f := 96) rfl ?_); refine goesL_ (some 7) rfl rfl Try.func96 (by kernel_rfl) rfl #[.agg #[.int .i64 a0_0, .slice A0_1 l0_1.length c0_1]] rfl (by (try simp only [List.map_toArray, List.map_cons, List.map_nil]); first | done | rfl | (simp only [List.length_drop, List.length_take]; rfl)) ?_; (with_reducible refine (impl_IsSet.calls a0_0 _ _ l0_1 true _ ?side1 ?side2 A3.out).mono ?_); (case side1 => repeat (first | exact (Kd.C_below HR0_1.out HB.out) | (with_reducible refine Kd.C_alloc ?_ _) | (with_reducible refine Kd.C_drewN ?_ _) | (with_reducible refine Kd.C_drew ?_))); (case side2 => exact HC0_1.out); rintro e w17 ⟨rfl, hb⟩; refine ⟨_, rfl, ?_⟩; have n0_ := Aside0.mk (blk_below (g := g1_0_) (o := .cells #[.slice A1_0_0 l1_0_0.length c1_0_0] 48 (0, 0)) (by (with_reducible repeat (first | refine blk_drewN ?_ _ | refine blk_drew ?_ | refine blk_alloc ?_ _)); exact BK90020.out) hb); have n1_ := Aside0.mk (blk_below (g := g1_1_) (o := .cells #[.int .i64 a1_1_0, .slice A1_1_1 l1_1_1.length c1_1_1] 26 (0, 0)) (by (with_reducible repeat (first | refine blk_drewN ?_ _ | refine blk_drew ?_ | refine blk_alloc ?_ _)); exact BK90021.out) hb); have n2_ := Aside0.mk (blk_below (g := gb498) (o := .cells #[.int .i64 a0_0, .slice A0_1 l0_1.length c0_1] 26 (0, 0)) (by (with_reducible repeat (first | refine blk_drewN ?_ _ | refine blk_drew ?_ | refine blk_alloc ?_ _)); exact BK498.out) hb); have n3_ := Aside0.mk (below_step (by repeat (first | (with_reducible first | exact HB.out | apply below_alloc | apply pw_below_drewN | apply below_drew1 | refine below_set ?_ GE498.out) | exact HB.out)) hb); clear BK90020; clear BK90021; clear BK498; clear HB; have BK90020 := n0_; have BK90021 := n1_; have BK498 := n2_; have HB := n3_; clear n0_ n1_ n2_ n3_; (try clear hb); (try clear hb2); (try clear hk); (try clear hi)))
   (with_reducible refine (impl_RenameColours_1.calls k g1_0_ A1_0_0 c1_0_0 l1_0_0 g1_1_ a1_1_0 A1_1_1 c1_1_1 l1_1_1 false _ ?side1_q18 ?side2_q18 ?side3_q18 ?side4_q18 ?side5_q18 ?side6_q18 A5.out).mono ?_); (case side1_q18 => repeat (first | exact (Kd.C_below HR1_0_0.out HB.out) | (with_reducible refine Kd.C_alloc ?_ _) | (with_reducible refine Kd.C_drewN ?_ _) | (with_reducible refine Kd.C_drew ?_))); (case side2_q18 => exact HC1_0_0.out); (case side3_q18 => repeat (first | exact (Kd.C_below HR1_1_1.out HB.out) | (with_reducible refine Kd.C_alloc ?_ _) | (with_reducible refine Kd.C_drewN ?_ _) | (with_reducible refine Kd.C_drew ?_))); (case side4_q18 => exact HC1_1_1.out); (case side5_q18 => exact (by (with_reducible repeat (first | refine blk_drewN ?_ _ | refine blk_drew ?_ | refine blk_alloc ?_ _)); exact BK90020.out)); (case side6_q18 => exact (by (with_reducible repeat (first | refine blk_drewN ?_ _ | refine blk_drew ?_ | refine blk_alloc ?_ _)); exact BK90021.out))
   rintro e w' ⟨rfl, ⟨nd, rfl⟩⟩
   go_wp2_with fail
   go_ret
   exact ⟨by first | rfl | (simp [errW_none, errW_some] <;> rfl) | (simp [*, errW_none, errW_some] <;> rfl), by repeat (first | (with_reducible first | exact HB.out | apply below_alloc | apply pw_below_drewN | apply below_drew1 | refine below_set ?_ GE498.out) | exact HB.out)⟩
 ·replace c4 := Bool.eq_false_iff.mpr c4
  subst c4
  have H1 : (some 1) = some r := by rw [if_neg (show ¬ (false = true) by decide)] at H; exact H
  clear H
  have H := H1
  clear H1
  obtain rfl := Option.some.inj H
  go_enter Try.func77, Try.ntmps77
  go_wp2_with (first | ((with_reducible refine gate_dst (N := 2) rfl ?_); refine box_event ?hg (N := 2) ?hd (cs := #[.int .i64 a0_0, .slice A0_1 l0_1.length c0_1]) (t := 26) ?hr ?_; (case hd => rfl); (case hg => rfl); (case hr => first | (go_simp; done) | (go_simp; rfl)); intro gb498 hg w19 hbox hb; have n0_ := Aside0.mk (blk_below (g := g1_0_) (o := .cells #[.slice A1_0_0 l1_0_0.length c1_0_0] 48 (0, 0)) (by (with_reducible repeat (first | refine blk_drewN ?_ _ | refine blk_drew ?_ | refine blk_alloc ?_ _)); exact BK90020.out) hb); have n1_ := Aside0.mk (blk_below (g := g1_1_) (o := .cells #[.int .i64 a1_1_0, .slice A1_1_1 l1_1_1.length c1_1_1] 26 (0, 0)) (by (with_reducible repeat (first | refine blk_drewN ?_ _ | refine blk_drew ?_ | refine blk_alloc ?_ _)); exact BK90021.out) hb); have n2_ := Aside0.mk (below_step (by repeat (first | (with_reducible first | exact HB.out | apply below_alloc | apply pw_below_drewN | apply below_drew1) | exact HB.out)) hb); have n3_ := Aside0.mk (hbox); have n4_ := Aside0.mk ((by rw [hg]; exact (below_size (by repeat (first | (with_reducible first | exact HB.out | apply below_alloc | apply pw_below_drewN | apply below_drew1) | exact HB.out))) : w.heap.size ≤ gb498)); have n5_ := Aside0.mk ((by rw [hg]; exact (below_size (by repeat (first | (with_reducible first | exact HB.out | apply below_alloc | apply pw_below_drewN | apply below_drew1) | exact HB.out))) : w.heap.size ≤ gb498)); have n6_ := Aside0.mk ((by rw [hg]; exact Nat.ne_of_lt (blk_lt (g := g1_0_) (o := .cells #[.slice A1_0_0 l1_0_0.length c1_0_0] 48 (0, 0)) (by (with_reducible repeat (first | refine blk_drewN ?_ _ | refine blk_drew ?_ | refine blk_alloc ?_ _)); exact BK90020.out)) : g1_0_ ≠ gb498)); have n7_ := Aside0.mk ((by rw [hg]; exact Nat.ne_of_gt (blk_lt (g := g1_0_) (o := .cells #[.slice A1_0_0 l1_0_0.length c1_0_0] 48 (0, 0)) (by (with_reducible repeat (first | refine blk_drewN ?_ _ | refine blk_drew ?_ | refine blk_alloc ?_ _)); exact BK90020.out)) : gb498 ≠ g1_0_)); have n8_ := Aside0.mk ((by rw [hg]; exact Nat.ne_of_lt (blk_lt (g := g1_1_) (o := .cells #[.int .i64 a1_1_0, .slice A1_1_1 l1_1_1.length c1_1_1] 26 (0, 0)) (by (with_reducible repeat (first | refine blk_drewN ?_ _ | refine blk_drew ?_ | refine blk_alloc ?_ _)); exact BK90021.out)) : g1_1_ ≠ gb498)); have n9_ := Aside0.mk ((by rw [hg]; exact Nat.ne_of_gt (blk_lt (g := g1_1_) (o := .cells #[.int .i64 a1_1_0, .slice A1_1_1 l1_1_1.length c1_1_1] 26 (0, 0)) (by (with_reducible repeat (first | refine blk_drewN ?_ _ | refine blk_drew ?_ | refine blk_alloc ?_ _)); exact BK90021.out)) : gb498 ≠ g1_1_)); clear BK90020; clear BK90021; clear HB; have BK90020 := n0_; have BK90021 := n1_; have HB := n2_; have BK498 := n3_; have GW498 := n4_; have GE498 := n5_; have NB90020_498 := n6_; have NB498_90020 := n7_; have NB90021_498 := n8_; have NB498_90021 := n9_; clear n0_ n1_ n2_ n3_ n4_ n5_ n6_ n7_ n8_ n9_; clear hb hbox hg; have hnb20 := NB498_90020.out; have hnc20 := NB90020_498.out; have hnb21 := NB498_90021.out; have hnc21 := NB90021_498.out; have hcz22_0 : w19.cell? ⟨gb498, 0, none⟩ = some (.int .i64 a0_0) := (blk_cell BK498.out 0).trans rfl; have hcz22_1 : w19.cell? ⟨gb498, 1, none⟩ = some (.slice A0_1 l0_1.length c0_1) := (blk_cell BK498.out 1).trans rfl; have hfz22_0 := blk_frozen BK498.out 0; have hfz22_1 := blk_frozen BK498.out 1) | ((with_reducible refine gate_callee (f := 96) rfl ?_); refine goesL_ (some 7) rfl rfl Try.func96 (by kernel_rfl) rfl #[.agg #[.int .i64 a0_0, .slice A0_1 l0_1.length c0_1]] rfl (by (try simp only [List.map_toArray, List.map_cons, List.map_nil]); first | done | rfl | (simp only [List.length_drop, List.length_take]; rfl)) ?_; (with_reducible refine (impl_IsSet.calls a0_0 _ _ l0_1 false _ ?side1 ?side2 A3.out).mono ?_); (case side1 => repeat (first | exact (Kd.C_below HR0_1.out HB.out) | (with_reducible refine Kd.C_alloc ?_ _) | (with_reducible refine Kd.C_drewN ?_ _) | (with_reducible refine Kd.C_drew ?_))); (case side2 => exact HC0_1.out); rintro e w23 ⟨rfl, hb⟩; refine ⟨_, rfl, ?_⟩; have n0_ := Aside0.mk (blk_below (g := g1_0_) (o := .cells #[.slice A1_0_0 l1_0_0.length c1_0_0] 48 (0, 0)) (by (with_reducible repeat (first | refine blk_drewN ?_ _ | refine blk_drew ?_ | refine blk_alloc ?_ _)); exact BK90020.out) hb); have n1_ := Aside0.mk (blk_below (g := g1_1_) (o := .cells #[.int .i64 a1_1_0, .slice A1_1_1 l1_1_1.length c1_1_1] 26 (0, 0)) (by (with_reducible repeat (first | refine blk_drewN ?_ _ | refine blk_drew ?_ | refine blk_alloc ?_ _)); exact BK90021.out) hb); have n2_ := Aside0.mk (blk_below (g := gb498) (o := .cells #[.int .i64 a0_0, .slice A0_1 l0_1.length c0_1] 26 (0, 0)) (by (with_reducible repeat (first | refine blk_drewN ?_ _ | refine blk_drew ?_ | refine blk_alloc ?_ _)); exact BK498.out) hb); have n3_ := Aside0.mk (below_step (by repeat (first | (with_reducible first | exact HB.out | apply below_alloc | apply pw_below_drewN | apply below_drew1 | refine below_set ?_ GE498.out) | exact HB.out)) hb); clear BK90020; clear BK90021; clear BK498; clear HB; have BK90020 := n0_; have BK90021 := n1_; have BK498 := n2_; have HB := n3_; clear n0_ n1_ n2_ n3_; (try clear hb); (try clear hb2); (try clear hk); (try clear hi)))
  go_ret
  exact ⟨by first | rfl | (simp [errW_none, errW_some] <;> rfl) | (simp [*, errW_none, errW_some] <;> rfl), by repeat (first | (with_reducible first | exact HB.out | apply below_alloc | apply pw_below_drewN | apply below_drew1 | refine below_set ?_ GE498.out) | exact HB.out)⟩

end Go.Proofs.Ytnjmgmdpkogocaa.Q

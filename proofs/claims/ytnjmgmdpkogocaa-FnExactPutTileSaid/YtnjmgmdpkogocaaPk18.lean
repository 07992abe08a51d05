/-
  Parts of the proof, in their order: Bridge, Ext, Sides, QImplPutTile1, QImplSetCodeAtImplPutTile1, Law2.
-/
import Derived.Test.YtnjmgmdpkogocaaPk17
import Derived.Test.YtnjmgmdpkogocaaPk5
import Derived.Test.YtnjmgmdpkogocaaPk3
import Derived.Deep.RegionHeld3
import Derived.Test.YtnjmgmdpkogocaaPk6
/-
  Words: what the printed contracts tell of memory, as our own words tell it, and the other way about.
-/
namespace Go.Proofs.Ytnjmgmdpkogocaa
open Go Go.RowKit Go.Proofs Go.Proofs.YtnjmgmdpkogocaaW.PrintWords Go.Proofs.Ytnjmgmdpkogocaa.Q
set_option linter.unusedVariables false
set_option linter.unusedSimpArgs false

abbrev STile := Q.S45
def toT (s : STile) : T4 := ⟨s.f0, s.f1, s.f2, s.f3⟩
def toS (t : T4) : STile := ⟨t.a, t.b, t.c, t.d⟩
theorem toT_toS (t : T4) : toT (toS t) = t := rfl
theorem toS_toT (s : STile) : toS (toT s) = s := rfl
theorem map_toTS (l : List T4) : (l.map toS).map toT = l := by simp [List.map_map, Function.comp_def, toT_toS]
theorem map_toST (l : List STile) : (l.map toT).map toS = l := by simp [List.map_map, Function.comp_def, toS_toT]
theorem spot_none {w : World} {a : Addr} {v : Value} (h : w.cell? a = some v) : a.spot = none := by
  unfold World.cell? at h
  split at h
  · split at h
    · exact absurd h (by simp)
    · rename_i hn
      cases hs : a.spot with
      | none => rfl
      | some x => rw [hs] at hn; simp at hn
  · exact absurd h (by simp)
theorem tk_map (l : List STile) (k : Nat) (h : k < l.length) : tk (l.map toT) k = toT l[k] := by
  simp [tk, List.getD, List.getElem?_map, List.getElem?_eq_getElem h]
theorem rt_of_C {w : World} {A : Option Addr} {l : List STile} (h : Kd.C k45 w A l.length l) : RT w A (l.map toT) := by
  intro k hk
  rw [List.length_map] at hk
  obtain ⟨ad, e, hc⟩ := h.2.2 (by omega)
  have g : ∀ j (hj : j < l.length) i v, ([.int .i64 l[j].f0, .int .i64 l[j].f1, .int .i64 l[j].f2, .int .i64 l[j].f3] : List Value)[i]? = some v → w.cell? (ad.add (j * 4 + i)) = some v := by
    intro j hj i v hv
    obtain ⟨c, hcl, hK, hcell⟩ := hc j l[j] (List.getElem?_eq_getElem hj)
    rw [k45_open hK] at hcell
    exact hcell i v hv
  have h0 := g 0 (by omega) 0 _ rfl
  have hs : ad.spot = none := by
    have := spot_none h0
    simpa [Addr.add] using this
  obtain ⟨b, o, s⟩ := ad
  simp only at hs
  subst hs
  have hb : b < w.heap.size := by
    have := World.block_lt_of_cell? w _ h0
    simpa [Addr.add] using this
  refine ⟨b, o, e, hb, ?_, ?_, ?_, ?_⟩ <;> rw [tk_map _ _ hk]
  · have := g k hk 0 _ rfl; rwa [add_off] at this
  · have := g k hk 1 _ rfl; rwa [add_off, ← Nat.add_assoc] at this
  · have := g k hk 2 _ rfl; rwa [add_off, ← Nat.add_assoc] at this
  · have := g k hk 3 _ rfl; rwa [add_off, ← Nat.add_assoc] at this
theorem C_of_rt {w : World} {A : Option Addr} {ts : List T4} (h : RT w A ts) (hl : ts.length ≤ 9223372036854775807) : Kd.C k45 w A (ts.map toS).length (ts.map toS) := by
  refine ⟨rfl, by simpa using hl, fun hn => ?_⟩
  rw [List.length_map] at hn
  obtain ⟨b, o, e, hb, -⟩ := h 0 hn
  refine ⟨_, e, fun j p hj => ?_⟩
  have hjl : j < ts.length := by have := (List.getElem?_eq_some_iff.1 hj).1; simpa using this
  have hp : p = toS (tk ts j) := by
    rw [List.getElem?_map, List.getElem?_eq_getElem hjl] at hj
    simp only [Option.map_some, Option.some.injEq] at hj
    rw [← hj]; simp [tk, List.getD, List.getElem?_eq_getElem hjl]
  subst hp
  obtain ⟨b', o', e', -, c0, c1, c2, c3⟩ := h j hjl
  rw [e] at e'
  injection e' with e'; injection e' with e1 e2; subst e1 e2
  refine ⟨_, rfl, k45_mk w (toS (tk ts j)), fun i u hu => ?_⟩
  rw [add_off, ← Nat.add_assoc]
  match i, hu with
  | 0, hu => simp at hu; subst hu; exact c0
  | 1, hu => simp at hu; subst hu; exact c1
  | 2, hu => simp at hu; subst hu; exact c2
  | 3, hu => simp at hu; subst hu; exact c3
  | i + 4, hu => simp at hu
theorem ri_of_C {w : World} {A : Option Addr} {l : List Int} (h : Kd.C (Kd.int .i64) w A l.length l) : RI w A l := by
  intro k hk
  obtain ⟨ad, e, hc⟩ := h.2.2 (by omega)
  have g : ∀ j (hj : j < l.length), w.cell? (ad.add j) = some (.int .i64 l[j]) := by
    intro j hj
    obtain ⟨c, hcl, hK, hcell⟩ := hc j l[j] (List.getElem?_eq_getElem hj)
    have hK' : c = [.int .i64 l[j]] := hK
    subst hK'
    have := hcell 0 _ rfl
    have e1 : (Kd.int IntKind.i64).sz = 1 := rfl
    rwa [e1, Nat.mul_one, Nat.add_zero] at this
  have h0 := g 0 (by omega)
  have hs : ad.spot = none := by
    have := spot_none h0
    simpa [Addr.add] using this
  obtain ⟨b, o, s⟩ := ad
  simp only at hs
  subst hs
  have hb : b < w.heap.size := by
    have := World.block_lt_of_cell? w _ h0
    simpa [Addr.add] using this
  refine ⟨b, o, e, hb, ?_⟩
  have := g k hk
  rw [add_off] at this
  rw [this]
  simp [ik, List.getD, List.getElem?_eq_getElem hk]
theorem C_of_ri {w : World} {A : Option Addr} {xs : List Int} (h : RI w A xs) (hl : xs.length ≤ 9223372036854775807) : Kd.C (Kd.int .i64) w A xs.length xs := by
  refine ⟨rfl, hl, fun hn => ?_⟩
  obtain ⟨b, o, e, hb, -⟩ := h 0 hn
  refine ⟨_, e, fun j p hj => ?_⟩
  have hjl := (List.getElem?_eq_some_iff.1 hj).1
  have hp : p = ik xs j := by
    rw [List.getElem?_eq_getElem hjl] at hj
    simp only [Option.some.injEq] at hj
    rw [← hj]; simp [ik, List.getD, List.getElem?_eq_getElem hjl]
  subst hp
  obtain ⟨b', o', e', -, c0⟩ := h j hjl
  rw [e] at e'
  injection e' with e'; injection e' with e1 e2; subst e1 e2
  refine ⟨[.int .i64 (ik xs j)], rfl, rfl, fun i u hu => ?_⟩
  have e1 : (Kd.int IntKind.i64).sz = 1 := rfl
  match i, hu with
  | 0, hu => simp at hu; subst hu; rw [e1, Nat.mul_one, Nat.add_zero, add_off]; exact c0
  | i + 1, hu => simp at hu
/-- a row of numbers that a printed contract tells -/
theorem ow_of_R {w : World} {base : Nat} {e : TypeId} {v : Value} {xs : List Int} {ok : Nat → Prop} (h : Kd.R (Kd.int .i64) e w base ok v xs) : OW w base w.heap.size e 1 v xs.length (icells xs) := by
  obtain ⟨-, inner, ho, hr⟩ := h
  have e1 : (Kd.int IntKind.i64).sz = 1 := rfl
  have : inner = icells xs := by
    apply List.ext_getElem?
    intro j
    by_cases hj : j < xs.length
    · have h2 := hr.2 j _ (List.getElem?_eq_getElem hj)
      have hl : j < inner.length := by rw [hr.1, e1]; omega
      rw [e1, Nat.mul_one, List.drop_eq_getElem_cons hl, List.take_succ_cons, List.take_zero] at h2
      have h3 : [inner[j]] = [Value.int .i64 xs[j]] := h2
      rw [List.getElem?_eq_getElem hl, icells, List.getElem?_map, List.getElem?_eq_getElem hj]
      simpa using h3
    · rw [List.getElem?_eq_none (by rw [hr.1, e1]; omega), List.getElem?_eq_none (by rw [icells_length]; omega)]
  subst this
  exact OW.of ho
end Go.Proofs.Ytnjmgmdpkogocaa

/-
  Contracts of functions on tiles and sets, in the form of the printed ones.
-/
namespace Go.Proofs.Ytnjmgmdpkogocaa.Q
open Go Go.RowKit Go.Proofs Go.Proofs.YtnjmgmdpkogocaaW.PrintWords Go.Proofs.Ytnjmgmdpkogocaa
set_option linter.unusedVariables false
set_option linter.unusedSimpArgs false

def inLim (n : Nat) : Bool := decide (n ≤ 35184372088832)
def spec_l01Tile.f (a0 a1_0 a1_1 a1_2 a1_3 : Int) : Option Bool := some (tileB ⟨a1_0, a1_1, a1_2, a1_3⟩ (wrap64 (a0 - 1)))
theorem spec_l01Tile.calls (a0 a1_0 a1_1 a1_2 a1_3 : Int) (r : Bool) (w : World) (h : spec_l01Tile.f a0 a1_0 a1_1 a1_2 a1_3 = some r) :
    Calls Try.prog 50 #[.int .i64 a0, .agg #[.int .i64 a1_0, .int .i64 a1_1, .int .i64 a1_2, .int .i64 a1_3]] w fun e w' => e = .returned (.bool r) ∧ Below w.heap.size w w' := by
  obtain rfl := Option.some.inj h
  exact l01Tile_any a0 ⟨a1_0, a1_1, a1_2, a1_3⟩ w
def spec_l01Before.f (a0_0 a0_1 a0_2 a0_3 a1_0 a1_1 a1_2 a1_3 : Int) : Option Bool := some (ltT ⟨a0_0, a0_1, a0_2, a0_3⟩ ⟨a1_0, a1_1, a1_2, a1_3⟩)
theorem spec_l01Before.calls (a0_0 a0_1 a0_2 a0_3 a1_0 a1_1 a1_2 a1_3 : Int) (r : Bool) (w : World) (h : spec_l01Before.f a0_0 a0_1 a0_2 a0_3 a1_0 a1_1 a1_2 a1_3 = some r) :
    Calls Try.prog 94 #[.agg #[.int .i64 a0_0, .int .i64 a0_1, .int .i64 a0_2, .int .i64 a0_3], .agg #[.int .i64 a1_0, .int .i64 a1_1, .int .i64 a1_2, .int .i64 a1_3]] w fun e w' => e = .returned (.bool r) ∧ Below w.heap.size w w' := by
  obtain rfl := Option.some.inj h
  exact l01Before_any ⟨a0_0, a0_1, a0_2, a0_3⟩ ⟨a1_0, a1_1, a1_2, a1_3⟩ w
def spec_l01Is.f (a0_0 : Int) (l0_1 : List STile) : Option Bool := if inLim l0_1.length = true then some (isS a0_0 (l0_1.map toT)) else none
theorem spec_l01Is.calls (a0_0 : Int) (A0_1 : Option Addr) (c0_1 : Nat) (l0_1 : List STile) (r : Bool) (w : World) (hr0_1 : Kd.C k45 w A0_1 l0_1.length l0_1) (hc0_1 : l0_1.length ≤ c0_1) (h : spec_l01Is.f a0_0 l0_1 = some r) :
    Calls Try.prog 60 #[.agg #[.int .i64 a0_0, .slice A0_1 l0_1.length c0_1]] w fun e w' => e = .returned (.bool r) ∧ Below w.heap.size w w' := by
  unfold spec_l01Is.f at h
  split at h
  · rename_i hl
    obtain rfl := Option.some.inj h
    exact l01Is_any a0_0 A0_1 (l0_1.map toT) _ c0_1 w (by simp) (rt_of_C hr0_1) (by simpa [inLim] using hl)
  · cases h
def impl_isTile.f (a0_0 a0_1 a0_2 a0_3 a1 : Int) : Option Bool := some (tileB ⟨a0_0, a0_1, a0_2, a0_3⟩ (wrap64 (a1 - 1)))
theorem impl_isTile.calls (a0_0 a0_1 a0_2 a0_3 a1 : Int) (r : Bool) (w : World) (h : impl_isTile.f a0_0 a0_1 a0_2 a0_3 a1 = some r) :
    Calls Try.prog 56 #[.agg #[.int .i64 a0_0, .int .i64 a0_1, .int .i64 a0_2, .int .i64 a0_3], .int .i64 a1] w fun e w' => e = .returned (.bool r) ∧ Below w.heap.size w w' := by
  obtain rfl := Option.some.inj h
  exact isTile_any ⟨a0_0, a0_1, a0_2, a0_3⟩ a1 w
def impl_IsSet.f (a0_0 : Int) (l0_1 : List STile) : Option Bool := if inLim l0_1.length = true then some (isS a0_0 (l0_1.map toT)) else none
theorem impl_IsSet.calls (a0_0 : Int) (A0_1 : Option Addr) (c0_1 : Nat) (l0_1 : List STile) (r : Bool) (w : World) (hr0_1 : Kd.C k45 w A0_1 l0_1.length l0_1) (hc0_1 : l0_1.length ≤ c0_1) (h : impl_IsSet.f a0_0 l0_1 = some r) :
    Calls Try.prog 96 #[.agg #[.int .i64 a0_0, .slice A0_1 l0_1.length c0_1]] w fun e w' => e = .returned (.bool r) ∧ Below w.heap.size w w' := by
  unfold impl_IsSet.f at h
  split at h
  · rename_i hl
    obtain rfl := Option.some.inj h
    exact IsSet_any a0_0 A0_1 (l0_1.map toT) _ c0_1 w (by simp) (rt_of_C hr0_1) (by simpa [inLim] using hl)
  · cases h
end Go.Proofs.Ytnjmgmdpkogocaa.Q

/-
  Contracts: a tile with its sides in other places.
-/
namespace Go.Proofs.Ytnjmgmdpkogocaa
open Go Go.RowKit Go.Proofs
set_option linter.unusedVariables false
set_option linter.unusedSimpArgs false

theorem iszT : (Try.prog.info? 45).map (·.size) = some 4 := by kernel_rfl
set_option maxHeartbeats 2000000 in
set_option maxRecDepth 100000 in
theorem sides_any (x0 x1 x2 x3 ya yb yc yd : Int) (a b c d : Nat) (w : World) (ia : (a : Int) < 4) (ib : (b : Int) < 4) (ic : (c : Int) < 4) (id : (d : Int) < 4)
    (ga : (#[.int .i64 x0, .int .i64 x1, .int .i64 x2, .int .i64 x3] : Array Value)[a]? = some (.int .i64 ya)) (gb : (#[.int .i64 x0, .int .i64 x1, .int .i64 x2, .int .i64 x3] : Array Value)[b]? = some (.int .i64 yb))
    (gc : (#[.int .i64 x0, .int .i64 x1, .int .i64 x2, .int .i64 x3] : Array Value)[c]? = some (.int .i64 yc)) (gd : (#[.int .i64 x0, .int .i64 x1, .int .i64 x2, .int .i64 x3] : Array Value)[d]? = some (.int .i64 yd)) :
    Calls Try.prog 66 #[.agg #[.int .i64 x0, .int .i64 x1, .int .i64 x2, .int .i64 x3], .int .i64 a, .int .i64 b, .int .i64 c, .int .i64 d] w fun e w' => e = .returned (.agg #[.int .i64 ya, .int .i64 yb, .int .i64 yc, .int .i64 yd]) ∧ Below w.heap.size w w' := by
  have GA := Lib.hid ga; have GB := Lib.hid gb; have GC := Lib.hid gc; have GD := Lib.hid gd
  clear ga gb gc gd
  go_enter Try.func66, Try.ntmps66
  go_wp2_with fail
  refine name2 ?_
  intro W b1 b2 hz hb0
  have HB := Lib.hid hb0; have HZ := Lib.hid hz; clear hb0 hz
  have q0 : W.cell? ⟨w.heap.size, a, none⟩ = some (.int .i64 ya) := b1.cell GA.out
  have q1 : W.cell? ⟨w.heap.size, b, none⟩ = some (.int .i64 yb) := b1.cell GB.out
  have q2 : W.cell? ⟨w.heap.size, c, none⟩ = some (.int .i64 yc) := b1.cell GC.out
  have q3 : W.cell? ⟨w.heap.size, d, none⟩ = some (.int .i64 yd) := b1.cell GD.out
  have l1 := b1.lt
  have z0 : W.cell? ⟨w.heap.size + 1, 0, none⟩ = some (.int .i64 0) := b2.cell rfl
  have z1 : W.cell? ⟨w.heap.size + 1, 1, none⟩ = some (.int .i64 0) := b2.cell rfl
  have z2 : W.cell? ⟨w.heap.size + 1, 2, none⟩ = some (.int .i64 0) := b2.cell rfl
  have z3 : W.cell? ⟨w.heap.size + 1, 3, none⟩ = some (.int .i64 0) := b2.cell rfl
  have f0 := b2.frozen 0; have f1 := b2.frozen 1; have f2 := b2.frozen 2; have f3 := b2.frozen 3
  have l2 := b2.lt
  go_wp2_with fail
  have hW := (Below.refl W.heap.size W).drew
  have hK : ∀ v0 v1 v2 v3, Only (w.heap.size + 1) (w.heap.size + 2) W ((((W.setCell ⟨w.heap.size + 1, 0, none⟩ v0).setCell ⟨w.heap.size + 1, 1, none⟩ v1).setCell ⟨w.heap.size + 1, 2, none⟩ v2).setCell ⟨w.heap.size + 1, 3, none⟩ v3) := fun v0 v1 v2 v3 =>
    ((((Only.refl _ _ _).setCell (Nat.le_refl _) (by omega) _ _).setCell (Nat.le_refl _) (by omega) _ _).setCell (Nat.le_refl _) (by omega) _ _).setCell (Nat.le_refl _) (by omega) _ _
  have hX : ∀ v0 v1 v2 v3, BK ((((W.setCell ⟨w.heap.size + 1, 0, none⟩ v0).setCell ⟨w.heap.size + 1, 1, none⟩ v1).setCell ⟨w.heap.size + 1, 2, none⟩ v2).setCell ⟨w.heap.size + 1, 3, none⟩ v3).drew w.heap.size #[.int .i64 x0, .int .i64 x1, .int .i64 x2, .int .i64 x3] 45 := by
    intro v0 v1 v2 v3
    have b := b1.only (hK v0 v1 v2 v3) (.inl (by omega))
    exact b.below ((Below.refl _ _).drew) b.lt
  go_region_held3 (fun w_ => w_.cell? ⟨w.heap.size, a, none⟩ = some (.int .i64 ya) ∧ w_.cell? ⟨w.heap.size, b, none⟩ = some (.int .i64 yb) ∧ w_.cell? ⟨w.heap.size, c, none⟩ = some (.int .i64 yc) ∧ w_.cell? ⟨w.heap.size, d, none⟩ = some (.int .i64 yd))
    (first | exact ⟨b1.cell GA.out, b1.cell GB.out, b1.cell GC.out, b1.cell GD.out⟩ | exact ⟨(b1.below hW b1.lt).cell GA.out, (b1.below hW b1.lt).cell GB.out, (b1.below hW b1.lt).cell GC.out, (b1.below hW b1.lt).cell GD.out⟩ | exact ⟨(hX _ _ _ _).cell GA.out, (hX _ _ _ _).cell GB.out, (hX _ _ _ _).cell GC.out, (hX _ _ _ _).cell GD.out⟩ | fail)
    (fail)
  go_wp2_with fail
  have hbk : BK ((((W.setCell ⟨w.heap.size + 1, 0, none⟩ (.int .i64 ya)).setCell ⟨w.heap.size + 1, 1, none⟩ (.int .i64 yb)).setCell ⟨w.heap.size + 1, 2, none⟩ (.int .i64 yc)).setCell ⟨w.heap.size + 1, 3, none⟩ (.int .i64 yd)).drew (w.heap.size + 1) #[.int .i64 ya, .int .i64 yb, .int .i64 yc, .int .i64 yd] 45 := by
    have h := (((b2.set 0 (.int .i64 ya)).set 1 (.int .i64 yb)).set 2 (.int .i64 yc)).set 3 (.int .i64 yd)
    exact h.below ((Below.refl _ _).drew) h.lt
  ((try simp only [Exit.inBlock, Exit.then]); refine bodyPost_ret (results_cell_row rfl _ _ _ _ _ _ _ rfl hbk Try.underlying45 rfl iszT) rfl ?_)
  exact ⟨rfl, below_to (below_only HB.out (hK _ _ _ _) (by omega)) ((Below.refl _ _).drew)⟩
end Go.Proofs.Ytnjmgmdpkogocaa

-- Printed by a program of this session (the kit's print, turned: printpatch.py) out of Lean's print of the translation. Lean checks it.
namespace Go.Proofs.Ytnjmgmdpkogocaa.Q
open Go.RowKit Go.Proofs.YtnjmgmdpkogocaaW.PrintWords Go.Proofs.YtnjmgmdpkogocaaW.PrintLast Go.Proofs.YtnjmgmdpkogocaaW.PrintMore
attribute [local go_sem] max2_int min2_int max_two min_two max_three min_three max_four min_four   -- for this text's walks alone
set_option linter.unusedVariables false
set_option linter.unusedSimpArgs false

/-! ### impl_PutTile_1: function 78 -/
def impl_PutTile_1.f (a0_0 : Int) (a0_1 : Int) (a0_2 : Int) (a0_3 : Int) (a1_0 : Int) (l1_1 : List (S45)) : Option (Bool) := (impl_isTile.f a0_0 a0_1 a0_2 a0_3 a1_0).bind fun t435 => (some t435)
set_option maxHeartbeats 8000000 in
set_option maxRecDepth 100000 in
theorem impl_PutTile_1.calls (g0_ : Nat) (a0_0 : Int) (a0_1 : Int) (a0_2 : Int) (a0_3 : Int) (g1_ : Nat) (a1_0 : Int) (A1_1 : Option Addr) (c1_1 : Nat) (l1_1 : List (S45)) (r : Bool) (w : World) (hr1_1 : Kd.C k45 w A1_1 l1_1.length l1_1) (hc1_1 : l1_1.length ≤ c1_1) (hb0_ : w.heap[g0_]? = some (.cells #[.int .i64 a0_0, .int .i64 a0_1, .int .i64 a0_2, .int .i64 a0_3] 45 (0, 0))) (hb1_ : w.heap[g1_]? = some (.cells #[.int .i64 a1_0, .slice A1_1 l1_1.length c1_1] 26 (0, 0))) (h : impl_PutTile_1.f a0_0 a0_1 a0_2 a0_3 a1_0 l1_1 = some r) :
  Calls Try.prog 78 #[.pointer (some ⟨g0_, 0, none⟩), .pointer (some ⟨g1_, 0, none⟩)] w fun e w' => e = .returned (.bool r) ∧ Below w.heap.size w w' := by
 have hu45 := Try.underlying45
 have HR1_1 := Aside0.mk hr1_1
 have HC1_1 := Aside0.mk hc1_1
 clear hr1_1 hc1_1
 have BK0 := Aside0.mk hb0_
 clear hb0_
 have BK1 := Aside0.mk hb1_
 clear hb1_
 have HB := Aside0.mk (Below.refl w.heap.size w)
 have H : ((impl_isTile.f a0_0 a0_1 a0_2 a0_3 a1_0).bind fun t435 => (some t435)) = some r := h
 clear h
 replace H := Option.bind_eq_some_iff.mp H
 obtain ⟨t435, A30, H⟩ := H
 replace H : (some t435) = some r := H
 have A3 := Aside0.mk A30
 clear A30
 obtain rfl := Option.some.inj H
 have hcz4_0 : w.cell? ⟨g0_, 0, none⟩ = some (.int .i64 a0_0) := (blk_cell BK0.out 0).trans rfl
 have hcz4_1 : w.cell? ⟨g0_, 1, none⟩ = some (.int .i64 a0_1) := (blk_cell BK0.out 1).trans rfl
 have hcz4_2 : w.cell? ⟨g0_, 2, none⟩ = some (.int .i64 a0_2) := (blk_cell BK0.out 2).trans rfl
 have hcz4_3 : w.cell? ⟨g0_, 3, none⟩ = some (.int .i64 a0_3) := (blk_cell BK0.out 3).trans rfl
 have hfz4_0 := blk_frozen BK0.out 0
 have hfz4_1 := blk_frozen BK0.out 1
 have hfz4_2 := blk_frozen BK0.out 2
 have hfz4_3 := blk_frozen BK0.out 3
 have hcz5_0 : w.cell? ⟨g1_, 0, none⟩ = some (.int .i64 a1_0) := (blk_cell BK1.out 0).trans rfl
 have hcz5_1 : w.cell? ⟨g1_, 1, none⟩ = some (.slice A1_1 l1_1.length c1_1) := (blk_cell BK1.out 1).trans rfl
 have hfz5_0 := blk_frozen BK1.out 0
 have hfz5_1 := blk_frozen BK1.out 1
 go_enter Try.func78, Try.ntmps78
 go_wp2_with (first | ((with_reducible refine gate_callee (f := 56) rfl ?_); refine goesL_ (some 6) rfl rfl Try.func56 (by kernel_rfl) rfl #[.agg #[.int .i64 a0_0, .int .i64 a0_1, .int .i64 a0_2, .int .i64 a0_3], .int .i64 a1_0] rfl (by (try simp only [List.map_toArray, List.map_cons, List.map_nil]); first | done | rfl | (simp only [List.length_drop, List.length_take]; rfl)) ?_; (with_reducible refine (impl_isTile.calls a0_0 a0_1 a0_2 a0_3 a1_0 t435 _ A3.out).mono ?_); rintro e w6 ⟨rfl, hb⟩; refine ⟨_, rfl, ?_⟩; have n0_ := Aside0.mk (blk_below (g := g0_) (o := .cells #[.int .i64 a0_0, .int .i64 a0_1, .int .i64 a0_2, .int .i64 a0_3] 45 (0, 0)) (by (with_reducible repeat (first | refine blk_drewN ?_ _ | refine blk_drew ?_ | refine blk_alloc ?_ _)); exact BK0.out) hb); have n1_ := Aside0.mk (blk_below (g := g1_) (o := .cells #[.int .i64 a1_0, .slice A1_1 l1_1.length c1_1] 26 (0, 0)) (by (with_reducible repeat (first | refine blk_drewN ?_ _ | refine blk_drew ?_ | refine blk_alloc ?_ _)); exact BK1.out) hb); have n2_ := Aside0.mk (below_step (by repeat (first | (with_reducible first | exact HB.out | apply below_alloc | apply pw_below_drewN | apply below_drew1) | exact HB.out)) hb); clear BK0; clear BK1; clear HB; have BK0 := n0_; have BK1 := n1_; have HB := n2_; clear n0_ n1_ n2_; (try clear hb); (try clear hb2); (try clear hk); (try clear hi)))
 go_ret
 exact ⟨by first | rfl | (simp [errW_none, errW_some] <;> rfl) | (simp [*, errW_none, errW_some] <;> rfl), by repeat (first | (with_reducible first | exact HB.out | apply below_alloc | apply pw_below_drewN | apply below_drew1) | exact HB.out)⟩

end Go.Proofs.Ytnjmgmdpkogocaa.Q

-- Printed by a program of this session (the kit's print, turned: printpatch.py) out of Lean's print of the translation. Lean checks it.
namespace Go.Proofs.Ytnjmgmdpkogocaa.Q
open Go.RowKit Go.Proofs.YtnjmgmdpkogocaaW.PrintWords Go.Proofs.YtnjmgmdpkogocaaW.PrintLast Go.Proofs.YtnjmgmdpkogocaaW.PrintMore
attribute [local go_sem] max2_int min2_int max_two min_two max_three min_three max_four min_four   -- for this text's walks alone
set_option linter.unusedVariables false
set_option linter.unusedSimpArgs false

/-! ### impl_setCode_at_impl_PutTile_1: function 178 -/
def impl_setCode_at_impl_PutTile_1.f (a0_0 : Int) (l0_1 : List (S45)) (a1_0_0 : Int) (a1_0_1 : Int) (a1_0_2 : Int) (a1_0_3 : Int) (a1_1_0 : Int) (l1_1_1 : List (S45)) : Option (Int) := (impl_IsSet.f a0_0 l0_1).bind fun t437 => (if t437 = true then ((impl_PutTile_1.f a1_0_0 a1_0_1 a1_0_2 a1_0_3 a1_1_0 l1_1_1).bind fun t438 => (if t438 = true then (some 0) else (some 2))) else (some 1))
set_option maxHeartbeats 8000000 in
set_option maxRecDepth 100000 in
theorem impl_setCode_at_impl_PutTile_1.calls (a0_0 : Int) (A0_1 : Option Addr) (c0_1 : Nat) (l0_1 : List (S45)) (g1_0_ : Nat) (a1_0_0 : Int) (a1_0_1 : Int) (a1_0_2 : Int) (a1_0_3 : Int) (g1_1_ : Nat) (a1_1_0 : Int) (A1_1_1 : Option Addr) (c1_1_1 : Nat) (l1_1_1 : List (S45)) (r : Int) (w : World) (hr0_1 : Kd.C k45 w A0_1 l0_1.length l0_1) (hc0_1 : l0_1.length ≤ c0_1) (hr1_1_1 : Kd.C k45 w A1_1_1 l1_1_1.length l1_1_1) (hc1_1_1 : l1_1_1.length ≤ c1_1_1) (hb1_0_ : w.heap[g1_0_]? = some (.cells #[.int .i64 a1_0_0, .int .i64 a1_0_1, .int .i64 a1_0_2, .int .i64 a1_0_3] 45 (0, 0))) (hb1_1_ : w.heap[g1_1_]? = some (.cells #[.int .i64 a1_1_0, .slice A1_1_1 l1_1_1.length c1_1_1] 26 (0, 0))) (h : impl_setCode_at_impl_PutTile_1.f a0_0 l0_1 a1_0_0 a1_0_1 a1_0_2 a1_0_3 a1_1_0 l1_1_1 = some r) :
  Calls Try.prog 77 #[.agg #[.int .i64 a0_0, .slice A0_1 l0_1.length c0_1], .func (.func 78) #[] #[.pointer (some ⟨g1_0_, 0, none⟩), .pointer (some ⟨g1_1_, 0, none⟩)]] w fun e w' => e = .returned (.int .i64 r) ∧ Below w.heap.size w w' := by
 have hu26 := Try.underlying26
 have HR0_1 := Aside0.mk hr0_1
 have HC0_1 := Aside0.mk hc0_1
 clear hr0_1 hc0_1
 have HR1_1_1 := Aside0.mk hr1_1_1
 have HC1_1_1 := Aside0.mk hc1_1_1
 clear hr1_1_1 hc1_1_1
 have BK90020 := Aside0.mk hb1_0_
 clear hb1_0_
 have BK90021 := Aside0.mk hb1_1_
 clear hb1_1_
 have HB := Aside0.mk (Below.refl w.heap.size w)
 have H : ((impl_IsSet.f a0_0 l0_1).bind fun t437 => (if t437 = true then ((impl_PutTile_1.f a1_0_0 a1_0_1 a1_0_2 a1_0_3 a1_1_0 l1_1_1).bind fun t438 => (if t438 = true then (some 0) else (some 2))) else (some 1))) = some r := h
 clear h
 replace H := Option.bind_eq_some_iff.mp H
 obtain ⟨t437, A30, H⟩ := H
 replace H : (if t437 = true then ((impl_PutTile_1.f a1_0_0 a1_0_1 a1_0_2 a1_0_3 a1_1_0 l1_1_1).bind fun t438 => (if t438 = true then (some 0) else (some 2))) else (some 1)) = some r := H
 have A3 := Aside0.mk A30
 clear A30
 by_cases c4 : t437 = true
 ·subst c4
  have H1 : ((impl_PutTile_1.f a1_0_0 a1_0_1 a1_0_2 a1_0_3 a1_1_0 l1_1_1).bind fun t438 => (if t438 = true then (some 0) else (some 2))) = some r := by rw [if_pos rfl] at H; exact H
  clear H
  have H := H1
  clear H1
  replace H := Option.bind_eq_some_iff.mp H
  obtain ⟨t438, A50, H⟩ := H
  replace H : (if t438 = true then (some 0) else (some 2)) = some r := H
  have A5 := Aside0.mk A50
  clear A50
  by_cases c6 : t438 = true
  ·subst c6
   have H1 : (some 0) = some r := by rw [if_pos rfl] at H; exact H
   clear H
   have H := H1
   clear H1
   obtain rfl := Option.some.inj H
   go_enter Try.func77, Try.ntmps77
   go_wp2_with (first | ((with_reducible refine gate_dst (N := 2) rfl ?_); refine box_event ?hg (N := 2) ?hd (cs := #[.int .i64 a0_0, .slice A0_1 l0_1.length c0_1]) (t := 26) ?hr ?_; (case hd => rfl); (case hg => rfl); (case hr => first | (go_simp; done) | (go_simp; rfl)); intro gb436 hg w7 hbox hb; have n0_ := Aside0.mk (blk_below (g := g1_0_) (o := .cells #[.int .i64 a1_0_0, .int .i64 a1_0_1, .int .i64 a1_0_2, .int .i64 a1_0_3] 45 (0, 0)) (by (with_reducible repeat (first | refine blk_drewN ?_ _ | refine blk_drew ?_ | refine blk_alloc ?_ _)); exact BK90020.out) hb); have n1_ := Aside0.mk (blk_below (g := g1_1_) (o := .cells #[.int .i64 a1_1_0, .slice A1_1_1 l1_1_1.length c1_1_1] 26 (0, 0)) (by (with_reducible repeat (first | refine blk_drewN ?_ _ | refine blk_drew ?_ | refine blk_alloc ?_ _)); exact BK90021.out) hb); have n2_ := Aside0.mk (below_step (by repeat (first | (with_reducible first | exact HB.out | apply below_alloc | apply pw_below_drewN | apply below_drew1) | exact HB.out)) hb); have n3_ := Aside0.mk (hbox); have n4_ := Aside0.mk ((by rw [hg]; exact (below_size (by repeat (first | (with_reducible first | exact HB.out | apply below_alloc | apply pw_below_drewN | apply below_drew1) | exact HB.out))) : w.heap.size ≤ gb436)); have n5_ := Aside0.mk ((by rw [hg]; exact (below_size (by repeat (first | (with_reducible first | exact HB.out | apply below_alloc | apply pw_below_drewN | apply below_drew1) | exact HB.out))) : w.heap.size ≤ gb436)); have n6_ := Aside0.mk ((by rw [hg]; exact Nat.ne_of_lt (blk_lt (g := g1_0_) (o := .cells #[.int .i64 a1_0_0, .int .i64 a1_0_1, .int .i64 a1_0_2, .int .i64 a1_0_3] 45 (0, 0)) (by (with_reducible repeat (first | refine blk_drewN ?_ _ | refine blk_drew ?_ | refine blk_alloc ?_ _)); exact BK90020.out)) : g1_0_ ≠ gb436)); have n7_ := Aside0.mk ((by rw [hg]; exact Nat.ne_of_gt (blk_lt (g := g1_0_) (o := .cells #[.int .i64 a1_0_0, .int .i64 a1_0_1, .int .i64 a1_0_2, .int .i64 a1_0_3] 45 (0, 0)) (by (with_reducible repeat (first | refine blk_drewN ?_ _ | refine blk_drew ?_ | refine blk_alloc ?_ _)); exact BK90020.out)) : gb436 ≠ g1_0_)); have n8_ := Aside0.mk ((by rw [hg]; exact Nat.ne_of_lt (blk_lt (g := g1_1_) (o := .cells #[.int .i64 a1_1_0, .slice A1_1_1 l1_1_1.length c1_1_1] 26 (0, 0)) (by (with_reducible repeat (first | refine blk_drewN ?_ _ | refine blk_drew ?_ | refine blk_alloc ?_ _)); exact BK90021.out)) : g1_1_ ≠ gb436)); have n9_ := Aside0.mk ((by rw [hg]; exact Nat.ne_of_gt (blk_lt (g := g1_1_) (o := .cells #[.int .i64 a1_1_0, .slice A1_1_1 l1_1_1.length c1_1_1] 26 (0, 0)) (by (with_reducible repeat (first | refine blk_drewN ?_ _ | refine blk_drew ?_ | refine blk_alloc ?_ _)); exact BK90021.out)) : gb436 ≠ g1_1_)); clear BK90020; clear BK90021; clear HB; have BK90020 := n0_; have BK90021 := n1_; have HB := n2_; have BK436 := n3_; have GW436 := n4_; have GE436 := n5_; have NB90020_436 := n6_; have NB436_90020 := n7_; have NB90021_436 := n8_; have NB436_90021 := n9_; clear n0_ n1_ n2_ n3_ n4_ n5_ n6_ n7_ n8_ n9_; clear hb hbox hg; have hnb8 := NB436_90020.out; have hnc8 := NB90020_436.out; have hnb9 := NB436_90021.out; have hnc9 := NB90021_436.out; have hcz10_0 : w7.cell? ⟨gb436, 0, none⟩ = some (.int .i64 a0_0) := (blk_cell BK436.out 0).trans rfl; have hcz10_1 : w7.cell? ⟨gb436, 1, none⟩ = some (.slice A0_1 l0_1.length c0_1) := (blk_cell BK436.out 1).trans rfl; have hfz10_0 := blk_frozen BK436.out 0; have hfz10_1 := blk_frozen BK436.out 1) | ((with_reducible refine gate_callee (f := 96) rfl ?_); refine goesL_ (some 7) rfl rfl Try.func96 (by kernel_rfl) rfl #[.agg #[.int .i64 a0_0, .slice A0_1 l0_1.length c0_1]] rfl (by (try simp only [List.map_toArray, List.map_cons, List.map_nil]); first | done | rfl | (simp only [List.length_drop, List.length_take]; rfl)) ?_; (with_reducible refine (impl_IsSet.calls a0_0 _ _ l0_1 true _ ?side1 ?side2 A3.out).mono ?_); (case side1 => repeat (first | exact (Kd.C_below HR0_1.out HB.out) | (with_reducible refine Kd.C_alloc ?_ _) | (with_reducible refine Kd.C_drewN ?_ _) | (with_reducible refine Kd.C_drew ?_))); (case side2 => exact HC0_1.out); rintro e w11 ⟨rfl, hb⟩; refine ⟨_, rfl, ?_⟩; have n0_ := Aside0.mk (blk_below (g := g1_0_) (o := .cells #[.int .i64 a1_0_0, .int .i64 a1_0_1, .int .i64 a1_0_2, .int .i64 a1_0_3] 45 (0, 0)) (by (with_reducible repeat (first | refine blk_drewN ?_ _ | refine blk_drew ?_ | refine blk_alloc ?_ _)); exact BK90020.out) hb); have n1_ := Aside0.mk (blk_below (g := g1_1_) (o := .cells #[.int .i64 a1_1_0, .slice A1_1_1 l1_1_1.length c1_1_1] 26 (0, 0)) (by (with_reducible repeat (first | refine blk_drewN ?_ _ | refine blk_drew ?_ | refine blk_alloc ?_ _)); exact BK90021.out) hb); have n2_ := Aside0.mk (blk_below (g := gb436) (o := .cells #[.int .i64 a0_0, .slice A0_1 l0_1.length c0_1] 26 (0, 0)) (by (with_reducible repeat (first | refine blk_drewN ?_ _ | refine blk_drew ?_ | refine blk_alloc ?_ _)); exact BK436.out) hb); have n3_ := Aside0.mk (below_step (by repeat (first | (with_reducible first | exact HB.out | apply below_alloc | apply pw_below_drewN | apply below_drew1 | refine below_set ?_ GE436.out) | exact HB.out)) hb); clear BK90020; clear BK90021; clear BK436; clear HB; have BK90020 := n0_; have BK90021 := n1_; have BK436 := n2_; have HB := n3_; clear n0_ n1_ n2_ n3_; (try clear hb); (try clear hb2); (try clear hk); (try clear hi)))
   (with_reducible refine (impl_PutTile_1.calls g1_0_ a1_0_0 a1_0_1 a1_0_2 a1_0_3 g1_1_ a1_1_0 A1_1_1 c1_1_1 l1_1_1 true _ ?side1_q13 ?side2_q13 ?side3_q13 ?side4_q13 A5.out).mono ?_); (case side1_q13 => repeat (first | exact (Kd.C_below HR1_1_1.out HB.out) | (with_reducible refine Kd.C_alloc ?_ _) | (with_reducible refine Kd.C_drewN ?_ _) | (with_reducible refine Kd.C_drew ?_))); (case side2_q13 => exact HC1_1_1.out); (case side3_q13 => exact (by (with_reducible repeat (first | refine blk_drewN ?_ _ | refine blk_drew ?_ | refine blk_alloc ?_ _)); exact BK90020.out)); (case side4_q13 => exact (by (with_reducible repeat (first | refine blk_drewN ?_ _ | refine blk_drew ?_ | refine blk_alloc ?_ _)); exact BK90021.out))
   rintro e w12 ⟨rfl, hb⟩
   have n0_ := Aside0.mk (blk_below (g := g1_0_) (o := .cells #[.int .i64 a1_0_0, .int .i64 a1_0_1, .int .i64 a1_0_2, .int .i64 a1_0_3] 45 (0, 0)) (by (with_reducible repeat (first | refine blk_drewN ?_ _ | refine blk_drew ?_ | refine blk_alloc ?_ _)); exact BK90020.out) hb)
   have n1_ := Aside0.mk (blk_below (g := g1_1_) (o := .cells #[.int .i64 a1_1_0, .slice A1_1_1 l1_1_1.length c1_1_1] 26 (0, 0)) (by (with_reducible repeat (first | refine blk_drewN ?_ _ | refine blk_drew ?_ | refine blk_alloc ?_ _)); exact BK90021.out) hb)
   have n2_ := Aside0.mk (blk_below (g := gb436) (o := .cells #[.int .i64 a0_0, .slice A0_1 l0_1.length c0_1] 26 (0, 0)) (by (with_reducible repeat (first | refine blk_drewN ?_ _ | refine blk_drew ?_ | refine blk_alloc ?_ _)); exact BK436.out) hb)
   have n3_ := Aside0.mk (below_step (by repeat (first | (with_reducible first | exact HB.out | apply below_alloc | apply pw_below_drewN | apply below_drew1 | refine below_set ?_ GE436.out) | exact HB.out)) hb)
   clear BK90020
   clear BK90021
   clear BK436
   clear HB
   have BK90020 := n0_
   have BK90021 := n1_
   have BK436 := n2_
   have HB := n3_
   clear n0_ n1_ n2_ n3_
   (try clear hb)
   (try clear hb2)
   (try clear hk)
   (try clear hi)
   go_wp2_with fail
   go_ret
   exact ⟨by first | rfl | (simp [errW_none, errW_some] <;> rfl) | (simp [*, errW_none, errW_some] <;> rfl), by repeat (first | (with_reducible first | exact HB.out | apply below_alloc | apply pw_below_drewN | apply below_drew1 | refine below_set ?_ GE436.out) | exact HB.out)⟩
  ·replace c6 := Bool.eq_false_iff.mpr c6
   subst c6
   have H1 : (some 2) = some r := by rw [if_neg (show ¬ (false = true) by decide)] at H; exact H
   clear H
   have H := H1
   clear H1
   obtain rfl := Option.some.inj H
   go_enter Try.func77, Try.ntmps77
   go_wp2_with (first | ((with_reducible refine gate_dst (N := 2) rfl ?_); refine box_event ?hg (N := 2) ?hd (cs := #[.int .i64 a0_0, .slice A0_1 l0_1.length c0_1]) (t := 26) ?hr ?_; (case hd => rfl); (case hg => rfl); (case hr => first | (go_simp; done) | (go_simp; rfl)); intro gb436 hg w14 hbox hb; have n0_ := Aside0.mk (blk_below (g := g1_0_) (o := .cells #[.int .i64 a1_0_0, .int .i64 a1_0_1, .int .i64 a1_0_2, .int .i64 a1_0_3] 45 (0, 0)) (by (with_reducible repeat (first | refine blk_drewN ?_ _ | refine blk_drew ?_ | refine blk_alloc ?_ _)); exact BK90020.out) hb); have n1_ := Aside0.mk (blk_below (g := g1_1_) (o := .cells #[.int .i64 a1_1_0, .slice A1_1_1 l1_1_1.length c1_1_1] 26 (0, 0)) (by (with_reducible repeat (first | refine blk_drewN ?_ _ | refine blk_drew ?_ | refine blk_alloc ?_ _)); exact BK90021.out) hb); have n2_ := Aside0.mk (below_step (by repeat (first | (with_reducible first | exact HB.out | apply below_alloc | apply pw_below_drewN | apply below_drew1) | exact HB.out)) hb); have n3_ := Aside0.mk (hbox); have n4_ := Aside0.mk ((by rw [hg]; exact (below_size (by repeat (first | (with_reducible first | exact HB.out | apply below_alloc | apply pw_below_drewN | apply below_drew1) | exact HB.out))) : w.heap.size ≤ gb436)); have n5_ := Aside0.mk ((by rw [hg]; exact (below_size (by repeat (first | (with_reducible first | exact HB.out | apply below_alloc | apply pw_below_drewN | apply below_drew1) | exact HB.out))) : w.heap.size ≤ gb436)); have n6_ := Aside0.mk ((by rw [hg]; exact Nat.ne_of_lt (blk_lt (g := g1_0_) (o := .cells #[.int .i64 a1_0_0, .int .i64 a1_0_1, .int .i64 a1_0_2, .int .i64 a1_0_3] 45 (0, 0)) (by (with_reducible repeat (first | refine blk_drewN ?_ _ | refine blk_drew ?_ | refine blk_alloc ?_ _)); exact BK90020.out)) : g1_0_ ≠ gb436)); have n7_ := Aside0.mk ((by rw [hg]; exact Nat.ne_of_gt (blk_lt (g := g1_0_) (o := .cells #[.int .i64 a1_0_0, .int .i64 a1_0_1, .int .i64 a1_0_2, .int .i64 a1_0_3] 45 (0, 0)) (by (with_reducible repeat (first | refine blk_drewN ?_ _ | refine blk_drew ?_ | refine blk_alloc ?_ _)); exact BK90020.out)) : gb436 ≠ g1_0_)); have n8_ := Aside0.mk ((by rw [hg]; exact Nat.ne_of_lt (blk_lt (g := g1_1_) (o := .cells #[.int .i64 a1_1_0, .slice A1_1_1 l1_1_1.length c1_1_1] 26 (0, 0)) (by (with_reducible repeat (first | refine blk_drewN ?_ _ | refine blk_drew ?_ | refine blk_alloc ?_ _)); exact BK90021.out)) : g1_1_ ≠ gb436)); have n9_ := Aside0.mk ((by rw [hg]; exact Nat.ne_of_gt (blk_lt (g := g1_1_) (o := .cells #[.int .i64 a1_1_0, .slice A1_1_1 l1_1_1.length c1_1_1] 26 (0, 0)) (by (with_reducible repeat (first | refine blk_drewN ?_ _ | refine blk_drew ?_ | refine blk_alloc ?_ _)); exact BK90021.out)) : gb436 ≠ g1_1_)); clear BK90020; clear BK90021; clear HB; have BK90020 := n0_; have BK90021 := n1_; have HB := n2_; have BK436 := n3_; have GW436 := n4_; have GE436 := n5_; have NB90020_436 := n6_; have NB436_90020 := n7_; have NB90021_436 := n8_; have NB436_90021 := n9_; clear n0_ n1_ n2_ n3_ n4_ n5_ n6_ n7_ n8_ n9_; clear hb hbox hg; have hnb15 := NB436_90020.out; have hnc15 := NB90020_436.out; have hnb16 := NB436_90021.out; have hnc16 := NB90021_436.out; have hcz17_0 : w14.cell? ⟨gb436, 0, none⟩ = some (.int .i64 a0_0) := (blk_cell BK436.out 0).trans rfl; have hcz17_1 : w14.cell? ⟨gb436, 1, none⟩ = some (.slice A0_1 l0_1.length c0_1) := (blk_cell BK436.out 1).trans rfl; have hfz17_0 := blk_frozen BK436.out 0; have hfz17_1 := blk_frozen BK436.out 1) | ((with_reducible refine gate_callee (f := 96) rfl ?_); refine goesL_ (some 7) rfl rfl Try.func96 (by kernel_rfl) rfl #[.agg #[.int .i64 a0_0, .slice A0_1 l0_1.length c0_1]] rfl (by (try simp only [List.map_toArray, List.map_cons, List.map_nil]); first | done | rfl | (simp only [List.length_drop, List.length_take]; rfl)) ?_; (with_reducible refine (impl_IsSet.calls a0_0 _ _ l0_1 true _ ?side1 ?side2 A3.out).mono ?_); (case side1 => repeat (first | exact (Kd.C_below HR0_1.out HB.out) | (with_reducible refine Kd.C_alloc ?_ _) | (with_reducible refine Kd.C_drewN ?_ _) | (with_reducible refine Kd.C_drew ?_))); (case side2 => exact HC0_1.out); rintro e w18 ⟨rfl, hb⟩; refine ⟨_, rfl, ?_⟩; have n0_ := Aside0.mk (blk_below (g := g1_0_) (o := .cells #[.int .i64 a1_0_0, .int .i64 a1_0_1, .int .i64 a1_0_2, .int .i64 a1_0_3] 45 (0, 0)) (by (with_reducible repeat (first | refine blk_drewN ?_ _ | refine blk_drew ?_ | refine blk_alloc ?_ _)); exact BK90020.out) hb); have n1_ := Aside0.mk (blk_below (g := g1_1_) (o := .cells #[.int .i64 a1_1_0, .slice A1_1_1 l1_1_1.length c1_1_1] 26 (0, 0)) (by (with_reducible repeat (first | refine blk_drewN ?_ _ | refine blk_drew ?_ | refine blk_alloc ?_ _)); exact BK90021.out) hb); have n2_ := Aside0.mk (blk_below (g := gb436) (o := .cells #[.int .i64 a0_0, .slice A0_1 l0_1.length c0_1] 26 (0, 0)) (by (with_reducible repeat (first | refine blk_drewN ?_ _ | refine blk_drew ?_ | refine blk_alloc ?_ _)); exact BK436.out) hb); have n3_ := Aside0.mk (below_step (by repeat (first | (with_reducible first | exact HB.out | apply below_alloc | apply pw_below_drewN | apply below_drew1 | refine below_set ?_ GE436.out) | exact HB.out)) hb); clear BK90020; clear BK90021; clear BK436; clear HB; have BK90020 := n0_; have BK90021 := n1_; have BK436 := n2_; have HB := n3_; clear n0_ n1_ n2_ n3_; (try clear hb); (try clear hb2); (try clear hk); (try clear hi)))
   (with_reducible refine (impl_PutTile_1.calls g1_0_ a1_0_0 a1_0_1 a1_0_2 a1_0_3 g1_1_ a1_1_0 A1_1_1 c1_1_1 l1_1_1 false _ ?side1_q20 ?side2_q20 ?side3_q20 ?side4_q20 A5.out).mono ?_); (case side1_q20 => repeat (first | exact (Kd.C_below HR1_1_1.out HB.out) | (with_reducible refine Kd.C_alloc ?_ _) | (with_reducible refine Kd.C_drewN ?_ _) | (with_reducible refine Kd.C_drew ?_))); (case side2_q20 => exact HC1_1_1.out); (case side3_q20 => exact (by (with_reducible repeat (first | refine blk_drewN ?_ _ | refine blk_drew ?_ | refine blk_alloc ?_ _)); exact BK90020.out)); (case side4_q20 => exact (by (with_reducible repeat (first | refine blk_drewN ?_ _ | refine blk_drew ?_ | refine blk_alloc ?_ _)); exact BK90021.out))
   rintro e w19 ⟨rfl, hb⟩
   have n0_ := Aside0.mk (blk_below (g := g1_0_) (o := .cells #[.int .i64 a1_0_0, .int .i64 a1_0_1, .int .i64 a1_0_2, .int .i64 a1_0_3] 45 (0, 0)) (by (with_reducible repeat (first | refine blk_drewN ?_ _ | refine blk_drew ?_ | refine blk_alloc ?_ _)); exact BK90020.out) hb)
   have n1_ := Aside0.mk (blk_below (g := g1_1_) (o := .cells #[.int .i64 a1_1_0, .slice A1_1_1 l1_1_1.length c1_1_1] 26 (0, 0)) (by (with_reducible repeat (first | refine blk_drewN ?_ _ | refine blk_drew ?_ | refine blk_alloc ?_ _)); exact BK90021.out) hb)
   have n2_ := Aside0.mk (blk_below (g := gb436) (o := .cells #[.int .i64 a0_0, .slice A0_1 l0_1.length c0_1] 26 (0, 0)) (by (with_reducible repeat (first | refine blk_drewN ?_ _ | refine blk_drew ?_ | refine blk_alloc ?_ _)); exact BK436.out) hb)
   have n3_ := Aside0.mk (below_step (by repeat (first | (with_reducible first | exact HB.out | apply below_alloc | apply pw_below_drewN | apply below_drew1 | refine below_set ?_ GE436.out) | exact HB.out)) hb)
   clear BK90020
   clear BK90021
   clear BK436
   clear HB
   have BK90020 := n0_
   have BK90021 := n1_
   have BK436 := n2_
   have HB := n3_
   clear n0_ n1_ n2_ n3_
   (try clear hb)
   (try clear hb2)
   (try clear hk)
   (try clear hi)
   go_wp2_with fail
   go_ret
   exact ⟨by first | rfl | (simp [errW_none, errW_some] <;> rfl) | (simp [*, errW_none, errW_some] <;> rfl), by repeat (first | (with_reducible first | exact HB.out | apply below_alloc | apply pw_below_drewN | apply below_drew1 | refine below_set ?_ GE436.out) | exact HB.out)⟩
 ·replace c4 := Bool.eq_false_iff.mpr c4
  subst c4
  have H1 : (some 1) = some r := by rw [if_neg (show ¬ (false = true) by decide)] at H; exact H
  clear H
  have H := H1
  clear H1
  obtain rfl := Option.some.inj H
  go_enter Try.func77, Try.ntmps77
  go_wp2_with (first | ((with_reducible refine gate_dst (N := 2) rfl ?_); refine box_event ?hg (N := 2) ?hd (cs := #[.int .i64 a0_0, .slice A0_1 l0_1.length c0_1]) (t := 26) ?hr ?_; (case hd => rfl); (case hg => rfl); (case hr => first | (go_simp; done) | (go_simp; rfl)); intro gb436 hg w21 hbox hb; have n0_ := Aside0.mk (blk_below (g := g1_0_) (o := .cells #[.int .i64 a1_0_0, .int .i64 a1_0_1, .int .i64 a1_0_2, .int .i64 a1_0_3] 45 (0, 0)) (by (with_reducible repeat (first | refine blk_drewN ?_ _ | refine blk_drew ?_ | refine blk_alloc ?_ _)); exact BK90020.out) hb); have n1_ := Aside0.mk (blk_below (g := g1_1_) (o := .cells #[.int .i64 a1_1_0, .slice A1_1_1 l1_1_1.length c1_1_1] 26 (0, 0)) (by (with_reducible repeat (first | refine blk_drewN ?_ _ | refine blk_drew ?_ | refine blk_alloc ?_ _)); exact BK90021.out) hb); have n2_ := Aside0.mk (below_step (by repeat (first | (with_reducible first | exact HB.out | apply below_alloc | apply pw_below_drewN | apply below_drew1) | exact HB.out)) hb); have n3_ := Aside0.mk (hbox); have n4_ := Aside0.mk ((by rw [hg]; exact (below_size (by repeat (first | (with_reducible first | exact HB.out | apply below_alloc | apply pw_below_drewN | apply below_drew1) | exact HB.out))) : w.heap.size ≤ gb436)); have n5_ := Aside0.mk ((by rw [hg]; exact (below_size (by repeat (first | (with_reducible first | exact HB.out | apply below_alloc | apply pw_below_drewN | apply below_drew1) | exact HB.out))) : w.heap.size ≤ gb436)); have n6_ := Aside0.mk ((by rw [hg]; exact Nat.ne_of_lt (blk_lt (g := g1_0_) (o := .cells #[.int .i64 a1_0_0, .int .i64 a1_0_1, .int .i64 a1_0_2, .int .i64 a1_0_3] 45 (0, 0)) (by (with_reducible repeat (first | refine blk_drewN ?_ _ | refine blk_drew ?_ | refine blk_alloc ?_ _)); exact BK90020.out)) : g1_0_ ≠ gb436)); have n7_ := Aside0.mk ((by rw [hg]; exact Nat.ne_of_gt (blk_lt (g := g1_0_) (o := .cells #[.int .i64 a1_0_0, .int .i64 a1_0_1, .int .i64 a1_0_2, .int .i64 a1_0_3] 45 (0, 0)) (by (with_reducible repeat (first | refine blk_drewN ?_ _ | refine blk_drew ?_ | refine blk_alloc ?_ _)); exact BK90020.out)) : gb436 ≠ g1_0_)); have n8_ := Aside0.mk ((by rw [hg]; exact Nat.ne_of_lt (blk_lt (g := g1_1_) (o := .cells #[.int .i64 a1_1_0, .slice A1_1_1 l1_1_1.length c1_1_1] 26 (0, 0)) (by (with_reducible repeat (first | refine blk_drewN ?_ _ | refine blk_drew ?_ | refine blk_alloc ?_ _)); exact BK90021.out)) : g1_1_ ≠ gb436)); have n9_ := Aside0.mk ((by rw [hg]; exact Nat.ne_of_gt (blk_lt (g := g1_1_) (o := .cells #[.int .i64 a1_1_0, .slice A1_1_1 l1_1_1.length c1_1_1] 26 (0, 0)) (by (with_reducible repeat (first | refine blk_drewN ?_ _ | refine blk_drew ?_ | refine blk_alloc ?_ _)); exact BK90021.out)) : gb436 ≠ g1_1_)); clear BK90020; clear BK90021; clear HB; have BK90020 := n0_; have BK90021 := n1_; have HB := n2_; have BK436 := n3_; have GW436 := n4_; have GE436 := n5_; have NB90020_436 := n6_; have NB436_90020 := n7_; have NB90021_436 := n8_; have NB436_90021 := n9_; clear n0_ n1_ n2_ n3_ n4_ n5_ n6_ n7_ n8_ n9_; clear hb hbox hg; have hnb22 := NB436_90020.out; have hnc22 := NB90020_436.out; have hnb23 := NB436_90021.out; have hnc23 := NB90021_436.out; have hcz24_0 : w21.cell? ⟨gb436, 0, none⟩ = some (.int .i64 a0_0) := (blk_cell BK436.out 0).trans rfl; have hcz24_1 : w21.cell? ⟨gb436, 1, none⟩ = some (.slice A0_1 l0_1.length c0_1) := (blk_cell BK436.out 1).trans rfl; have hfz24_0 := blk_frozen BK436.out 0; have hfz24_1 := blk_frozen BK436.out 1) | ((with_reducible refine gate_callee (f := 96) rfl ?_); refine goesL_ (some 7) rfl rfl Try.func96 (by kernel_rfl) rfl #[.agg #[.int .i64 a0_0, .slice A0_1 l0_1.length c0_1]] rfl (by (try simp only [List.map_toArray, List.map_cons, List.map_nil]); first | done | rfl | (simp only [List.length_drop, List.length_take]; rfl)) ?_; (with_reducible refine (impl_IsSet.calls a0_0 _ _ l0_1 false _ ?side1 ?side2 A3.out).mono ?_); (case side1 => repeat (first | exact (Kd.C_below HR0_1.out HB.out) | (with_reducible refine Kd.C_alloc ?_ _) | (with_reducible refine Kd.C_drewN ?_ _) | (with_reducible refine Kd.C_drew ?_))); (case side2 => exact HC0_1.out); rintro e w25 ⟨rfl, hb⟩; refine ⟨_, rfl, ?_⟩; have n0_ := Aside0.mk (blk_below (g := g1_0_) (o := .cells #[.int .i64 a1_0_0, .int .i64 a1_0_1, .int .i64 a1_0_2, .int .i64 a1_0_3] 45 (0, 0)) (by (with_reducible repeat (first | refine blk_drewN ?_ _ | refine blk_drew ?_ | refine blk_alloc ?_ _)); exact BK90020.out) hb); have n1_ := Aside0.mk (blk_below (g := g1_1_) (o := .cells #[.int .i64 a1_1_0, .slice A1_1_1 l1_1_1.length c1_1_1] 26 (0, 0)) (by (with_reducible repeat (first | refine blk_drewN ?_ _ | refine blk_drew ?_ | refine blk_alloc ?_ _)); exact BK90021.out) hb); have n2_ := Aside0.mk (blk_below (g := gb436) (o := .cells #[.int .i64 a0_0, .slice A0_1 l0_1.length c0_1] 26 (0, 0)) (by (with_reducible repeat (first | refine blk_drewN ?_ _ | refine blk_drew ?_ | refine blk_alloc ?_ _)); exact BK436.out) hb); have n3_ := Aside0.mk (below_step (by repeat (first | (with_reducible first | exact HB.out | apply below_alloc | apply pw_below_drewN | apply below_drew1 | refine below_set ?_ GE436.out) | exact HB.out)) hb); clear BK90020; clear BK90021; clear BK436; clear HB; have BK90020 := n0_; have BK90021 := n1_; have BK436 := n2_; have HB := n3_; clear n0_ n1_ n2_ n3_; (try clear hb); (try clear hb2); (try clear hk); (try clear hi)))
  go_ret
  exact ⟨by first | rfl | (simp [errW_none, errW_some] <;> rfl) | (simp [*, errW_none, errW_some] <;> rfl), by repeat (first | (with_reducible first | exact HB.out | apply below_alloc | apply pw_below_drewN | apply below_drew1 | refine below_set ?_ GE436.out) | exact HB.out)⟩

end Go.Proofs.Ytnjmgmdpkogocaa.Q

/-
  The laws' functions on rows of rows of numbers: what is marked and what is held.
-/
namespace Go.Proofs.Ytnjmgmdpkogocaa
open Go Go.RowKit Go.Proofs Go.Proofs.YtnjmgmdpkogocaaW.PrintWords Go.Proofs.Ytnjmgmdpkogocaa.Q
set_option linter.unusedVariables false
set_option linter.unusedSimpArgs false

/-- a row's own block alone -/
theorem OW.narrow {w : World} {lo hi : Nat} {E : TypeId} {size n : Nat} {v : Value} {cells : List Value} (h : OW w lo hi E size v n cells) :
    ∃ l u, OW w l u E size v n cells ∧ ∀ b, l ≤ b → b < u → v.ownBlock = some b := by
  obtain ⟨h1, h2⟩ := h.own
  rcases h2 with h2 | ⟨g, cap, cur, hv, hg, hh, r⟩
  · refine ⟨0, 0, ⟨⟨h1, .inl h2⟩, fun b hb => ?_, Nat.zero_le _⟩, fun b _ hb => absurd hb (Nat.not_lt_zero _)⟩
    rw [h2.1] at hb
    simp [Value.ownBlock] at hb
  · have hb : v.ownBlock = some g := by rw [hv]; rfl
    have hl := h.up g hb
    refine ⟨g, g + 1, ⟨⟨h1, .inr ⟨g, cap, cur, hv, Nat.le_refl _, hh, r⟩⟩, fun b hb2 => ?_, Nat.lt_of_lt_of_le hl h.top⟩, fun b h3 h4 => ?_⟩
    · have : g = b := Option.some.inj (hb.symm.trans hb2)
      omega
    · rw [hb, show b = g by omega]
/-- a row whose block is not among those that changed -/
theorem OW.apart {w w' : World} {lo hi lo' hi' : Nat} {E : TypeId} {size n : Nat} {v : Value} {cells : List Value} (h : OW w lo hi E size v n cells) (k : Only lo' hi' w w')
    (hd : ∀ b, lo' ≤ b → b < hi' → v.ownBlock ≠ some b) : OW w' lo hi E size v n cells := by
  refine ⟨?_, h.up, Nat.le_trans h.top k.size⟩
  obtain ⟨h1, h2⟩ := h.own
  refine ⟨h1, ?_⟩
  rcases h2 with h2 | ⟨g, cap, cur, hv, hg, hh, r⟩
  · exact .inl h2
  · refine .inr ⟨g, cap, cur, hv, hg, ?_, r⟩
    have hb : v.ownBlock = some g := by rw [hv]; rfl
    have hu := h.up g hb
    exact (k.block g (Nat.lt_of_lt_of_le hu h.top) (by
      by_cases h1 : lo' ≤ g
      · by_cases h2 : g < hi'
        · exact absurd hb (hd g h1 h2)
        · exact .inr (by omega)
      · exact .inl (by omega))).trans hh
def tot (m : Nat → Nat) : Nat → Nat
  | 0 => 0
  | n + 1 => tot m n + m n
theorem tot_le (m : Nat → Nat) {i n : Nat} (h : i ≤ n) : tot m i ≤ tot m n := by
  induction n with
  | zero => rw [Nat.le_zero.1 h]; exact Nat.le_refl _
  | succ n ih =>
    rcases Nat.lt_or_ge i (n + 1) with h1 | h1
    · exact Nat.le_trans (ih (by omega)) (Nat.le_add_right _ _)
    · rw [show i = n + 1 by omega]; exact Nat.le_refl _
/-- n rows of numbers, the i-th with header v i, m i long, cells cs i; the headers lie in block g; no two rows share a block, none lies in block g -/
structure RowsW (w : World) (lo hi g n : Nat) (v : Nat → Value) (m : Nat → Nat) (cs : Nat → List Value) : Prop where
  hdr : ∀ i, i < n → w.cell? ⟨g, i, none⟩ = some (v i)
  row : ∀ i, i < n → OW w lo hi 2 1 (v i) (m i) (cs i)
  apart : ∀ i j, i < n → j < n → i ≠ j → ∀ b, (v i).ownBlock = some b → (v j).ownBlock ≠ some b
  out : ∀ i, i < n → (v i).ownBlock ≠ some g
theorem RowsW.below {w w' : World} {lo hi g n : Nat} {v : Nat → Value} {m : Nat → Nat} {cs : Nat → List Value} (h : RowsW w lo hi g n v m cs) (k : Below w.heap.size w w') : RowsW w' lo hi g n v m cs :=
  ⟨fun i hi => k.cell (World.block_lt_of_cell? w _ (h.hdr i hi)) |>.trans (h.hdr i hi), fun i hi => (h.row i hi).to k, h.apart, h.out⟩
/-- one row written anew -/
theorem RowsW.set {w w' : World} {lo hi g n : Nat} {v : Nat → Value} {m : Nat → Nat} {cs : Nat → List Value} (h : RowsW w lo hi g n v m cs) {i : Nat} (hi' : i < n) {l u : Nat} (k : Only l u w w')
    (hk : ∀ b, l ≤ b → b < u → (v i).ownBlock = some b) {c : List Value} (hr : OW w' lo hi 2 1 (v i) (m i) c) : RowsW w' lo hi g n v m (fun j => if j = i then c else cs j) := by
  refine ⟨fun j hj => ?_, fun j hj => ?_, h.apart, h.out⟩
  · refine cell_only k ?_ (h.hdr j hj)
    by_cases h1 : l ≤ g
    · by_cases h2 : g < u
      · exact absurd (hk g h1 h2) (h.out i hi')
      · exact .inr (by omega)
    · exact .inl (by omega)
  · by_cases e : j = i
    · subst e; simpa using hr
    · simp only [if_neg e]
      exact (h.row j hj).apart k fun b h1 h2 => h.apart i j hi' hj (fun e2 => e e2.symm) b (hk b h1 h2)
theorem Only.into {lo hi l u : Nat} {w w' : World} (h : Only l u w w') (k : ∀ b, l ≤ b → b < u → lo ≤ b ∧ b < hi) : Only lo hi w w' :=
  ⟨h.os, h.tape, h.output, h.size, fun i hi' hd => h.block i hi' (by
    by_cases h1 : l ≤ i
    · by_cases h2 : i < u
      · have := k i h1 h2
        omega
      · exact .inr (by omega)
    · exact .inl (by omega))⟩
theorem OW.inside {w : World} {lo hi : Nat} {E : TypeId} {size n : Nat} {v : Value} {cells : List Value} (h : OW w lo hi E size v n cells) {b : Nat} (hb : v.ownBlock = some b) : lo ≤ b ∧ b < hi :=
  ⟨(h.own.lt b hb).1, h.up b hb⟩
theorem OW.into {w : World} {lo hi l u : Nat} {E : TypeId} {size n : Nat} {v : Value} {cells : List Value} (h : OW w l u E size v n cells) (k : ∀ b, v.ownBlock = some b → lo ≤ b ∧ b < hi) (ht : hi ≤ w.heap.size) : OW w lo hi E size v n cells := by
  refine ⟨?_, fun b hb => (k b hb).2, ht⟩
  obtain ⟨h1, h2⟩ := h.own
  refine ⟨h1, ?_⟩
  rcases h2 with h2 | ⟨g, cap, cur, hv, hg, r⟩
  · exact .inl h2
  · exact .inr ⟨g, cap, cur, hv, (k g (by rw [hv]; rfl)).1, r⟩
theorem RowsW.congr {w : World} {lo hi g n : Nat} {v : Nat → Value} {m : Nat → Nat} {cs cs' : Nat → List Value} (h : RowsW w lo hi g n v m cs) (e : ∀ i, i < n → cs i = cs' i) : RowsW w lo hi g n v m cs' :=
  ⟨h.hdr, fun i hi => by rw [← e i hi]; exact h.row i hi, h.apart, h.out⟩
/-- the cells behind d rows marked from k on -/
def mkRows (k : Int) (m : Nat → Nat) (cs : Nat → List Value) (d : Nat) : Nat → List Value := fun j => if j < d then icells (mkI (k + (tot m j : Int)) (m j * 1)) else cs j
set_option maxHeartbeats 1000000 in
theorem markInt64SS_any (lo hi g n c : Nat) (A : Option Addr) (v : Nat → Value) (m : Nat → Nat) (cs : Nat → List Value) (k : Int) (w : World) (hA : 0 < n → A = some ⟨g, 0, none⟩) (h : RowsW w lo hi g n v m cs) (hk : 0 ≤ k) (hk2 : k + (tot m n : Int) ≤ 1000000000000) (hl : n ≤ 35184372088832) :
    Calls Try.prog 47 #[.slice A n c, .int .i64 k] w fun e w' => e = .returned (.int .i64 (k + (tot m n : Int))) ∧ RowsW w' lo hi g n v m (mkRows k m cs n) ∧ Only lo hi w w' := by
  have HR := Lib.hid h; clear h
  go_enter Try.func47, Try.ntmps47
  go_wp2
  go_loopw [1, 5] (fun kk i wr => Only lo hi w wr ∧ ∃ d : Nat, d ≤ n ∧ i = .int .i64 d ∧ kk = .int .i64 (k + (tot m d : Int)) ∧ RowsW wr lo hi g n v m (mkRows k m cs d)) (fun _ i _ => n - (intOf i).toNat)
  case atStart => exact ⟨Only.refl _ _ _, 0, Nat.zero_le _, rfl, by simp [tot], HR.out.congr fun j _ => by simp [mkRows]⟩
  case round =>
    obtain ⟨hB, d, hd, rfl, rfl, hrows⟩ := hrel
    have HB := Lib.hid hB; have HW := Lib.hid hrows; clear hB hrows
    by_cases hlt : d < n
    · have hA2 := hA (by omega)
      subst hA2
      obtain ⟨l, u, hO, hn⟩ := (HW.out.row d hlt).narrow
      have HO := Lib.hid hO; have HN := Lib.hid hn; clear hO hn
      have c0 := HW.out.hdr d hlt
      have ht := tot_le m (show d + 1 ≤ n from hlt)
      have HT := Lib.hid (show 0 ≤ k + (tot m d : Int) ∧ k + (tot m d : Int) ≤ 1000000000000 ∧ m d ≤ 35184372088832 by simp only [tot] at ht; omega)
      clear ht
      go_wp2_with (first | (go_at_call 43; refine (markInt64S_any l u (v d) (m d) _ _ _ HO.out HT.out.1 HT.out.2.1 HT.out.2.2).mono ?_; rintro e w2 ⟨rfl, hO2, hK2⟩; have HO2 := Lib.hid hO2; have HK2 := Lib.hid hK2; clear hO2 hK2))
      go_roundw
      case rel => exact ⟨HB.out.trans (HK2.out.into fun b h1 h2 => (HW.out.row d hlt).inside (HN.out b h1 h2)), d + 1, by omega, by go_num, by rw [show k + (tot m d : Int) + (m d : Int) = k + (tot m (d + 1) : Int) by simp only [tot]; omega], (HW.out.set hlt HK2.out HN.out (HO2.out.into (fun b hb => (HW.out.row d hlt).inside hb) (Nat.le_trans (HW.out.row d hlt).top HK2.out.size))).congr fun j _ => by
          unfold mkRows
          by_cases e : j = d
          · subst e; simp
          · by_cases e2 : j < d
            · simp [e, e2, show j < d + 1 by omega]
            · simp [e, e2, show ¬ j < d + 1 by omega]⟩
      case measure => simp [intOf]; omega
    · have hdn : d = n := by omega
      subst hdn
      go_wp2
      go_ret
      exact ⟨rfl, HW.out, HB.out⟩
set_option maxHeartbeats 1000000 in
theorem heldInt64SS_any (lo hi g n c : Nat) (A : Option Addr) (v : Nat → Value) (m : Nat → Nat) (cs : Nat → List Value) (k : Int) (w : World) (hA : 0 < n → A = some ⟨g, 0, none⟩) (h : RowsW w lo hi g n v m (mkRows k m cs n)) (hk : 0 ≤ k) (hk2 : k + (tot m n : Int) ≤ 1000000000000) (hl : n ≤ 35184372088832) :
    Calls Try.prog 48 #[.slice A n c, .int .i64 k] w fun e w' => e = .returned (.int .i64 (k + (tot m n : Int))) ∧ Below w.heap.size w w' := by
  have HR := Lib.hid h; clear h
  go_enter Try.func48, Try.ntmps48
  go_wp2
  go_loopw [1, 5] (fun kk i wr => Below w.heap.size w wr ∧ ∃ d : Nat, d ≤ n ∧ i = .int .i64 d ∧ kk = .int .i64 (k + (tot m d : Int))) (fun _ i _ => n - (intOf i).toNat)
  case atStart => exact ⟨Below.refl _ _, 0, Nat.zero_le _, rfl, by simp [tot]⟩
  case round =>
    obtain ⟨hB, d, hd, rfl, rfl⟩ := hrel
    have HB := Lib.hid hB; clear hB
    by_cases hlt : d < n
    · have hA2 := hA (by omega)
      subst hA2
      have HW := Lib.hid (HR.out.below HB.out)
      have HO := Lib.hid (show OW wr lo hi 2 1 (v d) (m d) (icells (mkI (k + (tot m d : Int)) (m d * 1))) by have := HW.out.row d hlt; unfold mkRows at this; rw [if_pos hlt] at this; exact this)
      have c0 := HW.out.hdr d hlt
      have ht := tot_le m (show d + 1 ≤ n from hlt)
      have HT := Lib.hid (show 0 ≤ k + (tot m d : Int) ∧ k + (tot m d : Int) ≤ 1000000000000 ∧ m d ≤ 35184372088832 by simp only [tot] at ht; omega)
      have n0 : ¬ k + (tot m d : Int) + (m d : Int) < 0 := by omega
      clear ht
      go_wp2_with (first | (go_at_call 88; refine (heldInt64S_any lo hi (v d) (m d) _ _ HO.out HT.out.1 HT.out.2.1 HT.out.2.2).mono ?_; rintro e w2 ⟨rfl, hK2⟩; have HK2 := Lib.hid hK2; clear hK2))
      go_roundw
      case rel => exact ⟨HB.out.trans (HK2.out.mono HB.out.size), d + 1, by omega, by go_num, by rw [show k + (tot m d : Int) + (m d : Int) = k + (tot m (d + 1) : Int) by simp only [tot]; omega]⟩
      case measure => simp [intOf]; omega
    · have hdn : d = n := by omega
      subst hdn
      go_wp2
      go_ret
      exact ⟨rfl, HB.out⟩
/-- the i-th row -/
def rowAt (xs : List (List Int)) (i : Nat) : List Int := xs.getD i []
def rowLen (xs : List (List Int)) (i : Nat) : Nat := (rowAt xs i).length
/-- v is a row of rows of the call's own (headers and rows in blocks from lo on and below hi); row i bears the cells cs i -/
structure OWS (w : World) (lo hi : Nat) (v : Value) (xs : List (List Int)) (cs : Nat → List Value) : Prop where
  ex : ∃ A c g hv, v = .slice A xs.length c ∧ (xs.length ≤ c ∧ c ≤ 9223372036854775807) ∧ (0 < xs.length → A = some ⟨g, 0, none⟩ ∧ lo ≤ g ∧ g < hi) ∧ RowsW w lo hi g xs.length hv (rowLen xs) cs
  top : hi ≤ w.heap.size
theorem OWS.form0 {w : World} {lo hi : Nat} {v : Value} {xs : List (List Int)} {cs : Nat → List Value} (h : OWS w lo hi v xs cs) : ∃ A c, v = .slice A xs.length c := by
  obtain ⟨A, c, g, hv, rfl, -⟩ := h.ex
  exact ⟨A, c, rfl⟩
theorem OWS.only {w w' : World} {lo hi lo' hi' : Nat} {v : Value} {xs : List (List Int)} {cs : Nat → List Value} (h : OWS w lo hi v xs cs) (k : Only lo' hi' w w') (hd : hi ≤ lo' ∨ hi' ≤ lo) : OWS w' lo hi v xs cs := by
  obtain ⟨A, c, g, hv, rfl, hc, hA, hr⟩ := h.ex
  exact ⟨⟨A, c, g, hv, rfl, hc, hA, ⟨fun i hi' => cell_only k (by have := hA (by omega); omega) (hr.hdr i hi'), fun i hi' => (hr.row i hi').only k hd, hr.apart, hr.out⟩⟩, Nat.le_trans h.top k.size⟩
theorem OWS.to {w w' : World} {lo hi : Nat} {v : Value} {xs : List (List Int)} {cs : Nat → List Value} (h : OWS w lo hi v xs cs) (k : Below w.heap.size w w') : OWS w' lo hi v xs cs :=
  h.only (only_of k w.heap.size w.heap.size) (.inl h.top)
/-- rows of numbers that can be read -/
def RR (w : World) (A : Option Addr) (xs : List (List Int)) : Prop :=
  ∀ k, k < xs.length → ∃ b o A' c', A = some ⟨b, o, none⟩ ∧ b < w.heap.size ∧ w.cell? ⟨b, o + k, none⟩ = some (.slice A' (rowLen xs k) c') ∧ RI w A' (rowAt xs k) ∧ rowLen xs k ≤ c' ∧ rowLen xs k ≤ 9223372036854775807
theorem RR.below {w w' : World} {A : Option Addr} {xs : List (List Int)} (h : RR w A xs) (hb : Below w.heap.size w w') : RR w' A xs := by
  intro k hk
  obtain ⟨b, o, A', c', e, hlt, hc, hr, h1, h2⟩ := h k hk
  exact ⟨b, o, A', c', e, Nat.lt_of_lt_of_le hlt hb.size, (hb.cell (World.block_lt_of_cell? w _ hc)).trans hc, hr.below hb, h1, h2⟩
theorem rowAt_get {xs : List (List Int)} {j : Nat} {p : List Int} (h : xs[j]? = some p) : rowAt xs j = p := by simp [rowAt, List.getD, h]
theorem rowAt_at {xs : List (List Int)} {j : Nat} (h : j < xs.length) : rowAt xs j = xs[j] := rowAt_get (List.getElem?_eq_getElem h)
theorem rowLen_at {xs : List (List Int)} {j : Nat} {p : List Int} (h : xs[j]? = some p) : rowLen xs j = p.length := by rw [rowLen, rowAt_get h]
theorem OW.len {w : World} {lo hi : Nat} {E : TypeId} {size n : Nat} {v : Value} {cells : List Value} (h : OW w lo hi E size v n cells) : n ≤ 9223372036854775807 := by
  obtain ⟨A, c, -, h⟩ := h.form
  rcases h with ⟨-, rfl, -⟩ | ⟨g, cur, -, -, -, -, h1, h2, -⟩ <;> omega
theorem rr_of {w : World} {lo hi : Nat} {A : Option Addr} {n c : Nat} {xs : List (List Int)} (h : OWS w lo hi (.slice A n c) xs (fun i => icells (rowAt xs i))) (hn : n = xs.length) : RR w A xs := by
  obtain ⟨A', c', g, hv, e, -, hA, hr⟩ := h.ex
  injection e with e1 e2 e3
  subst e1
  intro k hk
  obtain ⟨A2, c2, e2, hri, hle⟩ := (hr.row k hk).readsI
  have hc := hr.hdr k hk
  rw [e2] at hc
  refine ⟨g, 0, A2, c2, (hA (by omega)).1, World.block_lt_of_cell? w _ hc, by rw [Nat.zero_add]; exact hc, hri, hle, (hr.row k hk).len⟩
theorem C_of_rr {w : World} {A : Option Addr} {xs : List (List Int)} (h : RR w A xs) (hl : xs.length ≤ 9223372036854775807) : Kd.C (Kd.slice 2 (Kd.int .i64)) w A xs.length xs := by
  refine ⟨rfl, hl, fun hn => ?_⟩
  obtain ⟨b, o, -, -, e, -⟩ := h 0 hn
  refine ⟨_, e, fun j p hj => ?_⟩
  have hjl := (List.getElem?_eq_some_iff.1 hj).1
  obtain ⟨b', o', A', c', e', -, hc, hr, h1, h2⟩ := h j hjl
  rw [e] at e'
  injection e' with e'; injection e' with e1 e2; subst e1 e2
  rw [rowLen_at hj] at hc h1 h2
  rw [rowAt_get hj] at hr
  refine ⟨[.slice A' p.length c'], rfl, ⟨A', c', rfl, h1, C_of_ri hr h2⟩, fun i u hu => ?_⟩
  have e1 : (Kd.slice 2 (Kd.int IntKind.i64)).sz = 1 := rfl
  match i, hu with
  | 0, hu => simp at hu; subst hu; rw [e1, Nat.mul_one, Nat.add_zero, add_off]; exact hc
  | i + 1, hu => simp at hu
theorem rr_of_C {w : World} {A : Option Addr} {xs : List (List Int)} (h : Kd.C (Kd.slice 2 (Kd.int .i64)) w A xs.length xs) : RR w A xs := by
  intro k hk
  obtain ⟨ad, e, hc⟩ := h.2.2 (by omega)
  have e1 : (Kd.slice 2 (Kd.int IntKind.i64)).sz = 1 := rfl
  obtain ⟨c, hcl, ⟨A', c', rfl, hl, hC⟩, hcell⟩ := hc k _ (List.getElem?_eq_getElem hk)
  have h0 := hcell 0 _ rfl
  rw [e1, Nat.mul_one, Nat.add_zero] at h0
  obtain ⟨c0, -, ⟨A0, c0', rfl, -, -⟩, hcell0⟩ := hc 0 _ (List.getElem?_eq_getElem (show 0 < xs.length by omega))
  have h00 := hcell0 0 _ rfl
  have hs : ad.spot = none := by
    have := spot_none h00
    simpa [Addr.add] using this
  obtain ⟨b, o, s⟩ := ad
  simp only at hs
  subst hs
  rw [add_off] at h0
  have hb := World.block_lt_of_cell? w _ h0
  have e2 := rowLen_at (List.getElem?_eq_getElem hk)
  refine ⟨b, o, A', c', e, hb, by rw [e2]; exact h0, by rw [rowAt_at hk]; exact ri_of_C hC, by rw [e2]; exact hl, by rw [e2]; exact hC.2.1⟩
/-- rows that a printed contract tells -/
theorem ows_of_S {w : World} {base : Nat} {v : Value} {xs : List (List Int)} {ok : Nat → Prop} (h : Kd.S (Kd.slice 2 (Kd.int .i64)) 48 w base ok v xs) : OWS w base w.heap.size v xs (fun i => icells (rowAt xs i)) := by
  obtain ⟨f, -, inner, ho, hr⟩ := h
  have hz : xs.zipIdx.length = xs.length := List.length_zipIdx
  rw [hz] at ho
  have e1 : (Kd.tag f (Kd.slice 2 (Kd.int IntKind.i64))).sz = 1 := rfl
  rw [e1] at ho hr
  have each : ∀ i, i < xs.length → ∃ v', inner[i]? = some v' ∧ Kd.R (Kd.int .i64) 2 w base (fun k => (ok k ∧ some k ≠ v.ownBlock) ∧ f k = i) v' (rowAt xs i) := by
    intro i hi
    have hj : xs[i]? = some (rowAt xs i) := by rw [rowAt_at hi]; exact List.getElem?_eq_getElem hi
    obtain ⟨v', hv', hR⟩ := hr.2 i _ (Kd.zip_at hj)
    refine ⟨v', ?_, hR⟩
    have hl : i < inner.length := by rw [hr.1, hz]; omega
    rw [Nat.mul_one, List.drop_eq_getElem_cons hl, List.take_succ_cons, List.take_zero] at hv'
    rw [List.getElem?_eq_getElem hl]
    exact congrArg some (List.cons.inj hv').1
  have hrows : ∀ g c, v = .slice (some ⟨g, 0, none⟩) xs.length c → RowsW w base w.heap.size g xs.length (fun i => inner.getD i default) (rowLen xs) (fun i => icells (rowAt xs i)) := by
    intro g c hv
    subst hv
    have hd : ∀ i v', inner[i]? = some v' → inner.getD i default = v' := fun i v' h => by rw [List.getD_eq_getElem?_getD, h]; rfl
    refine ⟨fun i hi => ?_, fun i hi => ?_, fun i j hi hj hne b hb hb2 => ?_, fun i hi hb => ?_⟩
    · obtain ⟨v', e, -⟩ := each i hi
      rw [hd i v' e]
      exact own_cell ho e
    · obtain ⟨v', e, hR⟩ := each i hi
      simp only [hd i v' e]
      exact ow_of_R hR
    · obtain ⟨v', e, hR⟩ := each i hi
      obtain ⟨v2, e2, hR2⟩ := each j hj
      rw [hd i v' e] at hb
      rw [hd j v2 e2] at hb2
      exact hne ((hR.1 b hb).2.symm.trans (hR2.1 b hb2).2)
    · obtain ⟨v', e, hR⟩ := each i hi
      rw [hd i v' e] at hb
      exact (hR.1 g hb).1.2 rfl
  rcases ho.2 with ⟨rfl, hn⟩ | ⟨g, cap, cur, rfl, hb, hg, hle, hm, hsz, -⟩
  · refine ⟨⟨none, 0, 0, fun _ => .slice none 0 0, by rw [hn], by omega, fun h => by omega, ⟨fun i hi => by omega, fun i hi => by omega, fun i j hi => by omega, fun i hi => by omega⟩⟩, Nat.le_refl _⟩
  · exact ⟨⟨_, cap, g, _, rfl, ⟨hle, by simpa [maxLen] using hm⟩, fun _ => ⟨rfl, hb, (Array.getElem?_eq_some_iff.1 hg).1⟩, hrows g cap rfl⟩, Nat.le_refl _⟩
/-- all numbers together -/
def rowsz0 (xs : List (List Int)) : Nat := tot (rowLen xs) xs.length
theorem rowsz0_row {xs : List (List Int)} {i : Nat} (h : i < xs.length) : rowLen xs i ≤ rowsz0 xs := by
  have := tot_le (rowLen xs) (show i + 1 ≤ xs.length from h)
  rw [tot] at this
  unfold rowsz0
  omega
theorem OWS.congr {w : World} {lo hi : Nat} {v : Value} {xs : List (List Int)} {cs cs' : Nat → List Value} (h : OWS w lo hi v xs cs) (e : ∀ i, i < xs.length → cs i = cs' i) : OWS w lo hi v xs cs' := by
  obtain ⟨A, c, g, hv, e1, hc, hA, hr⟩ := h.ex
  exact ⟨⟨A, c, g, hv, e1, hc, hA, hr.congr e⟩, h.top⟩
def mkS (k : Int) (xs : List (List Int)) (i : Nat) : List Value := icells (mkI (k + (tot (rowLen xs) i : Int)) (rowLen xs i * 1))
theorem markInt64SS_m (lo hi : Nat) (xs : List (List Int)) (m : Nat) (k : Int) (w : World) (hm : m = rowsz0 xs) {v : Value} {cs : Nat → List Value} (h : OWS w lo hi v xs cs) (hk : 0 ≤ k) (hk2 : k + (m : Int) ≤ 1000000000000) (hl : xs.length ≤ 35184372088832) :
    Calls Try.prog 47 #[v, .int .i64 k] w fun e w' => e = .returned (.int .i64 (k + (m : Int))) ∧ OWS w' lo hi v xs (mkS k xs) ∧ Only lo hi w w' := by
  subst hm
  obtain ⟨A, c, g, hv, rfl, hc, hA, hr⟩ := h.ex
  refine (markInt64SS_any lo hi g xs.length c A hv (rowLen xs) cs k w (fun h => (hA h).1) hr hk hk2 hl).mono ?_
  rintro e w' ⟨rfl, h2, h3⟩
  exact ⟨rfl, ⟨⟨A, c, g, hv, rfl, hc, hA, h2.congr fun i hi => by simp only [mkRows, if_pos hi]; rfl⟩, Nat.le_trans h.top h3.size⟩, h3⟩
theorem heldInt64SS_m (lo hi : Nat) (xs : List (List Int)) (m : Nat) (k : Int) (w : World) (hm : m = rowsz0 xs) {v : Value} (h : OWS w lo hi v xs (mkS k xs)) (hk : 0 ≤ k) (hk2 : k + (m : Int) ≤ 1000000000000) (hl : xs.length ≤ 35184372088832) :
    Calls Try.prog 48 #[v, .int .i64 k] w fun e w' => e = .returned (.int .i64 (k + (m : Int))) ∧ Below w.heap.size w w' := by
  subst hm
  obtain ⟨A, c, g, hv, rfl, hc, hA, hr⟩ := h.ex
  exact heldInt64SS_any lo hi g xs.length c A hv (rowLen xs) (mkS k xs) k w (fun h => (hA h).1) (hr.congr fun i hi => by simp only [mkRows, if_pos hi]; rfl) hk hk2 hl
theorem rows_eq {ts us : List (List Int)} (hl : ts.length = us.length) (h : ∀ j, j < ts.length → rowAt ts j = rowAt us j) : ts = us := by
  apply List.ext_getElem hl
  intro j h1 h2
  have := h j h1
  rwa [rowAt_at h1, rowAt_at h2] at this
set_option maxHeartbeats 1000000 in
theorem eqInt64SS_any (A A' : Option Addr) (ts us : List (List Int)) (n m c c' : Nat) (w : World) (hn : n = ts.length) (hm : m = us.length) (hA : RR w A ts) (hA' : RR w A' us) (hl : ts.length ≤ 35184372088832 ∧ rowsz0 ts ≤ 35184372088832) (hl' : us.length ≤ 35184372088832 ∧ rowsz0 us ≤ 35184372088832) :
    Calls Try.prog 46 #[.slice A n c, .slice A' m c'] w fun e w' => e = .returned (.bool (decide (ts = us))) ∧ Below w.heap.size w w' := by
  have HA := Lib.hid hA; have HA' := Lib.hid hA'; clear hA hA'
  by_cases hlen : n = m
  · have HL := Lib.hid (show ts.length = us.length by omega); have HN := Lib.hid hn; have HM := Lib.hid hlen
    have h1 : ((n : Int) != m) = false := by simp [hlen]
    have hn0 : n ≤ 35184372088832 := by omega
    clear hlen hn hm
    go_enter Try.func46, Try.ntmps46
    go_wp2
    go_loopw [5] (fun i wr => Below w.heap.size w wr ∧ ∃ k : Nat, k ≤ n ∧ i = .int .i64 k ∧ ∀ j, j < k → rowAt ts j = rowAt us j) (fun i _ => n - (intOf i).toNat)
    case atStart => exact ⟨Below.refl _ _, 0, by omega, rfl, fun j h => absurd h (by omega)⟩
    case round =>
      obtain ⟨hB, k, hk, rfl, hall⟩ := hrel
      have hT := HA.out.below hB
      have hT' := HA'.out.below hB
      have HB := Lib.hid hB; have HALL := Lib.hid hall; clear hB hall
      by_cases hlt : k < n
      · have k1 : k < ts.length := by have := HN.out; omega
        have k2 : k < us.length := by have := HL.out; omega
        have r1 : rowLen ts k ≤ 35184372088832 := Nat.le_trans (rowsz0_row k1) hl.2
        have r2 : rowLen us k ≤ 35184372088832 := Nat.le_trans (rowsz0_row k2) hl'.2
        have HK := Lib.hid (And.intro k1 k2)
        obtain ⟨b, o, A1, c1, rfl, hb, h0, hr, -⟩ := hT k k1
        obtain ⟨b', o', A2, c2, rfl, hb', h0', hr', -⟩ := hT' k k2
        have HR := Lib.hid hr; have HR' := Lib.hid hr'
        have i1 : (k : Int) < n := by omega
        have i2 : (k : Int) < m := by have := HM.out; omega
        clear hT hT' hr hr' k1 k2
        by_cases he : rowAt ts k = rowAt us k
        · have HE := Lib.hid (show decide (rowAt ts k = rowAt us k) = true by simpa using he); clear he
          go_wp2
          refine wp_region_gro (by kernel_rfl) (by kernel_rfl) ?_
          repeat (first | go_big_quiet_step (((go_at_call 42; exact quiet_call (by have h := eqInt64S_any A1 A2 (rowAt ts k) (rowAt us k) (rowLen ts k) (rowLen us k) c1 c2 (gro wr ‹GP›) rfl rfl (HR.out.below (gro_below wr _)) (HR'.out.below (gro_below wr _)) r1 r2; rw [HE.out] at h; exact h)))) | quiet_step (((go_at_call 42; exact quiet_call (by have h := eqInt64S_any A1 A2 (rowAt ts k) (rowAt us k) (rowLen ts k) (rowLen us k) c1 c2 (gro wr ‹GP›) rfl rfl (HR.out.below (gro_below wr _)) (HR'.out.below (gro_below wr _)) r1 r2; rw [HE.out] at h; exact h)))))
          refine wpQuiet_nil ?_
          intro w1 hB1
          have HB1 := Lib.hid hB1; clear hB1
          go_wp2
          go_roundw
          case rel => exact ⟨HB.out.trans (HB1.out.mono HB.out.size), k + 1, by omega, by go_num, fun j hj => by
            by_cases e : j = k
            · subst e; exact of_decide_eq_true HE.out
            · exact HALL.out j (by omega)⟩
          case measure => simp [intOf]; omega
        · have HE := Lib.hid (show decide (rowAt ts k = rowAt us k) = false by simpa using he); clear he
          go_wp2
          refine wp_region_gro (by kernel_rfl) (by kernel_rfl) ?_
          repeat (first | go_big_quiet_step (((go_at_call 42; exact quiet_call (by have h := eqInt64S_any A1 A2 (rowAt ts k) (rowAt us k) (rowLen ts k) (rowLen us k) c1 c2 (gro wr ‹GP›) rfl rfl (HR.out.below (gro_below wr _)) (HR'.out.below (gro_below wr _)) r1 r2; rw [HE.out] at h; exact h)))) | quiet_step (((go_at_call 42; exact quiet_call (by have h := eqInt64S_any A1 A2 (rowAt ts k) (rowAt us k) (rowLen ts k) (rowLen us k) c1 c2 (gro wr ‹GP›) rfl rfl (HR.out.below (gro_below wr _)) (HR'.out.below (gro_below wr _)) r1 r2; rw [HE.out] at h; exact h)))))
          refine wpQuiet_nil ?_
          intro w1 hB1
          have HB1 := Lib.hid hB1; clear hB1
          go_wp2
          go_ret
          exact ⟨ret_bool (by have : ts ≠ us := fun e => of_decide_eq_false HE.out (by rw [e])
                              simp [this]), HB.out.trans (HB1.out.mono HB.out.size)⟩
      · go_wp2
        go_ret
        exact ⟨ret_bool (by have : ts = us := rows_eq HL.out fun j hj => HALL.out j (by have := HN.out; omega)
                            simp [this]), HB.out⟩
  · have h1 : ((n : Int) != m) = true := by simp; omega
    have HL := Lib.hid (show ts.length ≠ us.length by omega); clear hlen hn hm
    go_enter Try.func46, Try.ntmps46
    go_wp2
    go_ret
    exact ⟨ret_bool (by have : ts ≠ us := fun e => HL.out (by rw [e])
                        simp [this]), Below.refl _ _⟩
end Go.Proofs.Ytnjmgmdpkogocaa

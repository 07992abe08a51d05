/-
  Parts of the proof, in their order: Bridge, Ext, Sides, QImplAreSets1, QImplSet112AtImplAreSets1, QImplSet97AtImplAreSets1, QImplAreSets, QSpecJoinSets, ColJ.
-/
import Derived.Test.YtnjmgmdpkogocaaPk17
import Derived.Test.YtnjmgmdpkogocaaPk5
import Derived.Test.YtnjmgmdpkogocaaPk3
import Derived.Deep.RegionHeld3
/-
  Words: what the printed contracts tell of memory, as our own words tell it, and the other way about.
-/
namespace Go.Proofs.Ytnjmgmdpkogocaa
open Go Go.RowKit Go.Proofs Go.Proofs.YtnjmgmdpkogocaaW.PrintWords Go.Proofs.Ytnjmgmdpkogocaa.Q
set_option linter.unusedVariables false
set_option linter.unusedSimpArgs false

abbrev STile := Q.S45
def toT (s : STile) : T4 := ⟨s.f0, s.f1, s.f2, s.f3⟩
def toS (t : T4) : STile := ⟨t.a, t.b, t.c, t.d⟩
theorem toT_toS (t : T4) : toT (toS t) = t := rfl
theorem toS_toT (s : STile) : toS (toT s) = s := rfl
theorem map_toTS (l : List T4) : (l.map toS).map toT = l := by simp [List.map_map, Function.comp_def, toT_toS]
theorem map_toST (l : List STile) : (l.map toT).map toS = l := by simp [List.map_map, Function.comp_def, toS_toT]
theorem spot_none {w : World} {a : Addr} {v : Value} (h : w.cell? a = some v) : a.spot = none := by
  unfold World.cell? at h
  split at h
  · split at h
    · exact absurd h (by simp)
    · rename_i hn
      cases hs : a.spot with
      | none => rfl
      | some x => rw [hs] at hn; simp at hn
  · exact absurd h (by simp)
theorem tk_map (l : List STile) (k : Nat) (h : k < l.length) : tk (l.map toT) k = toT l[k] := by
  simp [tk, List.getD, List.getElem?_map, List.getElem?_eq_getElem h]
theorem rt_of_C {w : World} {A : Option Addr} {l : List STile} (h : Kd.C k45 w A l.length l) : RT w A (l.map toT) := by
  intro k hk
  rw [List.length_map] at hk
  obtain ⟨ad, e, hc⟩ := h.2.2 (by omega)
  have g : ∀ j (hj : j < l.length) i v, ([.int .i64 l[j].f0, .int .i64 l[j].f1, .int .i64 l[j].f2, .int .i64 l[j].f3] : List Value)[i]? = some v → w.cell? (ad.add (j * 4 + i)) = some v := by
    intro j hj i v hv
    obtain ⟨c, hcl, hK, hcell⟩ := hc j l[j] (List.getElem?_eq_getElem hj)
    rw [k45_open hK] at hcell
    exact hcell i v hv
  have h0 := g 0 (by omega) 0 _ rfl
  have hs : ad.spot = none := by
    have := spot_none h0
    simpa [Addr.add] using this
  obtain ⟨b, o, s⟩ := ad
  simp only at hs
  subst hs
  have hb : b < w.heap.size := by
    have := World.block_lt_of_cell? w _ h0
    simpa [Addr.add] using this
  refine ⟨b, o, e, hb, ?_, ?_, ?_, ?_⟩ <;> rw [tk_map _ _ hk]
  · have := g k hk 0 _ rfl; rwa [add_off] at this
  · have := g k hk 1 _ rfl; rwa [add_off, ← Nat.add_assoc] at this
  · have := g k hk 2 _ rfl; rwa [add_off, ← Nat.add_assoc] at this
  · have := g k hk 3 _ rfl; rwa [add_off, ← Nat.add_assoc] at this
theorem C_of_rt {w : World} {A : Option Addr} {ts : List T4} (h : RT w A ts) (hl : ts.length ≤ 9223372036854775807) : Kd.C k45 w A (ts.map toS).length (ts.map toS) := by
  refine ⟨rfl, by simpa using hl, fun hn => ?_⟩
  rw [List.length_map] at hn
  obtain ⟨b, o, e, hb, -⟩ := h 0 hn
  refine ⟨_, e, fun j p hj => ?_⟩
  have hjl : j < ts.length := by have := (List.getElem?_eq_some_iff.1 hj).1; simpa using this
  have hp : p = toS (tk ts j) := by
    rw [List.getElem?_map, List.getElem?_eq_getElem hjl] at hj
    simp only [Option.map_some, Option.some.injEq] at hj
    rw [← hj]; simp [tk, List.getD, List.getElem?_eq_getElem hjl]
  subst hp
  obtain ⟨b', o', e', -, c0, c1, c2, c3⟩ := h j hjl
  rw [e] at e'
  injection e' with e'; injection e' with e1 e2; subst e1 e2
  refine ⟨_, rfl, k45_mk w (toS (tk ts j)), fun i u hu => ?_⟩
  rw [add_off, ← Nat.add_assoc]
  match i, hu with
  | 0, hu => simp at hu; subst hu; exact c0
  | 1, hu => simp at hu; subst hu; exact c1
  | 2, hu => simp at hu; subst hu; exact c2
  | 3, hu => simp at hu; subst hu; exact c3
  | i + 4, hu => simp at hu
theorem ri_of_C {w : World} {A : Option Addr} {l : List Int} (h : Kd.C (Kd.int .i64) w A l.length l) : RI w A l := by
  intro k hk
  obtain ⟨ad, e, hc⟩ := h.2.2 (by omega)
  have g : ∀ j (hj : j < l.length), w.cell? (ad.add j) = some (.int .i64 l[j]) := by
    intro j hj
    obtain ⟨c, hcl, hK, hcell⟩ := hc j l[j] (List.getElem?_eq_getElem hj)
    have hK' : c = [.int .i64 l[j]] := hK
    subst hK'
    have := hcell 0 _ rfl
    have e1 : (Kd.int IntKind.i64).sz = 1 := rfl
    rwa [e1, Nat.mul_one, Nat.add_zero] at this
  have h0 := g 0 (by omega)
  have hs : ad.spot = none := by
    have := spot_none h0
    simpa [Addr.add] using this
  obtain ⟨b, o, s⟩ := ad
  simp only at hs
  subst hs
  have hb : b < w.heap.size := by
    have := World.block_lt_of_cell? w _ h0
    simpa [Addr.add] using this
  refine ⟨b, o, e, hb, ?_⟩
  have := g k hk
  rw [add_off] at this
  rw [this]
  simp [ik, List.getD, List.getElem?_eq_getElem hk]
theorem C_of_ri {w : World} {A : Option Addr} {xs : List Int} (h : RI w A xs) (hl : xs.length ≤ 9223372036854775807) : Kd.C (Kd.int .i64) w A xs.length xs := by
  refine ⟨rfl, hl, fun hn => ?_⟩
  obtain ⟨b, o, e, hb, -⟩ := h 0 hn
  refine ⟨_, e, fun j p hj => ?_⟩
  have hjl := (List.getElem?_eq_some_iff.1 hj).1
  have hp : p = ik xs j := by
    rw [List.getElem?_eq_getElem hjl] at hj
    simp only [Option.some.injEq] at hj
    rw [← hj]; simp [ik, List.getD, List.getElem?_eq_getElem hjl]
  subst hp
  obtain ⟨b', o', e', -, c0⟩ := h j hjl
  rw [e] at e'
  injection e' with e'; injection e' with e1 e2; subst e1 e2
  refine ⟨[.int .i64 (ik xs j)], rfl, rfl, fun i u hu => ?_⟩
  have e1 : (Kd.int IntKind.i64).sz = 1 := rfl
  match i, hu with
  | 0, hu => simp at hu; subst hu; rw [e1, Nat.mul_one, Nat.add_zero, add_off]; exact c0
  | i + 1, hu => simp at hu
/-- a row of numbers that a printed contract tells -/
theorem ow_of_R {w : World} {base : Nat} {e : TypeId} {v : Value} {xs : List Int} {ok : Nat → Prop} (h : Kd.R (Kd.int .i64) e w base ok v xs) : OW w base w.heap.size e 1 v xs.length (icells xs) := by
  obtain ⟨-, inner, ho, hr⟩ := h
  have e1 : (Kd.int IntKind.i64).sz = 1 := rfl
  have : inner = icells xs := by
    apply List.ext_getElem?
    intro j
    by_cases hj : j < xs.length
    · have h2 := hr.2 j _ (List.getElem?_eq_getElem hj)
      have hl : j < inner.length := by rw [hr.1, e1]; omega
      rw [e1, Nat.mul_one, List.drop_eq_getElem_cons hl, List.take_succ_cons, List.take_zero] at h2
      have h3 : [inner[j]] = [Value.int .i64 xs[j]] := h2
      rw [List.getElem?_eq_getElem hl, icells, List.getElem?_map, List.getElem?_eq_getElem hj]
      simpa using h3
    · rw [List.getElem?_eq_none (by rw [hr.1, e1]; omega), List.getElem?_eq_none (by rw [icells_length]; omega)]
  subst this
  exact OW.of ho
end Go.Proofs.Ytnjmgmdpkogocaa

/-
  Contracts of functions on tiles and sets, in the form of the printed ones.
-/
namespace Go.Proofs.Ytnjmgmdpkogocaa.Q
open Go Go.RowKit Go.Proofs Go.Proofs.YtnjmgmdpkogocaaW.PrintWords Go.Proofs.Ytnjmgmdpkogocaa
set_option linter.unusedVariables false
set_option linter.unusedSimpArgs false

def inLim (n : Nat) : Bool := decide (n ≤ 35184372088832)
def spec_l01Tile.f (a0 a1_0 a1_1 a1_2 a1_3 : Int) : Option Bool := some (tileB ⟨a1_0, a1_1, a1_2, a1_3⟩ (wrap64 (a0 - 1)))
theorem spec_l01Tile.calls (a0 a1_0 a1_1 a1_2 a1_3 : Int) (r : Bool) (w : World) (h : spec_l01Tile.f a0 a1_0 a1_1 a1_2 a1_3 = some r) :
    Calls Try.prog 50 #[.int .i64 a0, .agg #[.int .i64 a1_0, .int .i64 a1_1, .int .i64 a1_2, .int .i64 a1_3]] w fun e w' => e = .returned (.bool r) ∧ Below w.heap.size w w' := by
  obtain rfl := Option.some.inj h
  exact l01Tile_any a0 ⟨a1_0, a1_1, a1_2, a1_3⟩ w
def spec_l01Before.f (a0_0 a0_1 a0_2 a0_3 a1_0 a1_1 a1_2 a1_3 : Int) : Option Bool := some (ltT ⟨a0_0, a0_1, a0_2, a0_3⟩ ⟨a1_0, a1_1, a1_2, a1_3⟩)
theorem spec_l01Before.calls (a0_0 a0_1 a0_2 a0_3 a1_0 a1_1 a1_2 a1_3 : Int) (r : Bool) (w : World) (h : spec_l01Before.f a0_0 a0_1 a0_2 a0_3 a1_0 a1_1 a1_2 a1_3 = some r) :
    Calls Try.prog 94 #[.agg #[.int .i64 a0_0, .int .i64 a0_1, .int .i64 a0_2, .int .i64 a0_3], .agg #[.int .i64 a1_0, .int .i64 a1_1, .int .i64 a1_2, .int .i64 a1_3]] w fun e w' => e = .returned (.bool r) ∧ Below w.heap.size w w' := by
  obtain rfl := Option.some.inj h
  exact l01Before_any ⟨a0_0, a0_1, a0_2, a0_3⟩ ⟨a1_0, a1_1, a1_2, a1_3⟩ w
def spec_l01Is.f (a0_0 : Int) (l0_1 : List STile) : Option Bool := if inLim l0_1.length = true then some (isS a0_0 (l0_1.map toT)) else none
theorem spec_l01Is.calls (a0_0 : Int) (A0_1 : Option Addr) (c0_1 : Nat) (l0_1 : List STile) (r : Bool) (w : World) (hr0_1 : Kd.C k45 w A0_1 l0_1.length l0_1) (hc0_1 : l0_1.length ≤ c0_1) (h : spec_l01Is.f a0_0 l0_1 = some r) :
    Calls Try.prog 60 #[.agg #[.int .i64 a0_0, .slice A0_1 l0_1.length c0_1]] w fun e w' => e = .returned (.bool r) ∧ Below w.heap.size w w' := by
  unfold spec_l01Is.f at h
  split at h
  · rename_i hl
    obtain rfl := Option.some.inj h
    exact l01Is_any a0_0 A0_1 (l0_1.map toT) _ c0_1 w (by simp) (rt_of_C hr0_1) (by simpa [inLim] using hl)
  · cases h
def impl_isTile.f (a0_0 a0_1 a0_2 a0_3 a1 : Int) : Option Bool := some (tileB ⟨a0_0, a0_1, a0_2, a0_3⟩ (wrap64 (a1 - 1)))
theorem impl_isTile.calls (a0_0 a0_1 a0_2 a0_3 a1 : Int) (r : Bool) (w : World) (h : impl_isTile.f a0_0 a0_1 a0_2 a0_3 a1 = some r) :
    Calls Try.prog 56 #[.agg #[.int .i64 a0_0, .int .i64 a0_1, .int .i64 a0_2, .int .i64 a0_3], .int .i64 a1] w fun e w' => e = .returned (.bool r) ∧ Below w.heap.size w w' := by
  obtain rfl := Option.some.inj h
  exact isTile_any ⟨a0_0, a0_1, a0_2, a0_3⟩ a1 w
def impl_IsSet.f (a0_0 : Int) (l0_1 : List STile) : Option Bool := if inLim l0_1.length = true then some (isS a0_0 (l0_1.map toT)) else none
theorem impl_IsSet.calls (a0_0 : Int) (A0_1 : Option Addr) (c0_1 : Nat) (l0_1 : List STile) (r : Bool) (w : World) (hr0_1 : Kd.C k45 w A0_1 l0_1.length l0_1) (hc0_1 : l0_1.length ≤ c0_1) (h : impl_IsSet.f a0_0 l0_1 = some r) :
    Calls Try.prog 96 #[.agg #[.int .i64 a0_0, .slice A0_1 l0_1.length c0_1]] w fun e w' => e = .returned (.bool r) ∧ Below w.heap.size w w' := by
  unfold impl_IsSet.f at h
  split at h
  · rename_i hl
    obtain rfl := Option.some.inj h
    exact IsSet_any a0_0 A0_1 (l0_1.map toT) _ c0_1 w (by simp) (rt_of_C hr0_1) (by simpa [inLim] using hl)
  · cases h
end Go.Proofs.Ytnjmgmdpkogocaa.Q

/-
  Contracts: a tile with its sides in other places.
-/
namespace Go.Proofs.Ytnjmgmdpkogocaa
open Go Go.RowKit Go.Proofs
set_option linter.unusedVariables false
set_option linter.unusedSimpArgs false

theorem iszT : (Try.prog.info? 45).map (·.size) = some 4 := by kernel_rfl
set_option maxHeartbeats 2000000 in
set_option maxRecDepth 100000 in
theorem sides_any (x0 x1 x2 x3 ya yb yc yd : Int) (a b c d : Nat) (w : World) (ia : (a : Int) < 4) (ib : (b : Int) < 4) (ic : (c : Int) < 4) (id : (d : Int) < 4)
    (ga : (#[.int .i64 x0, .int .i64 x1, .int .i64 x2, .int .i64 x3] : Array Value)[a]? = some (.int .i64 ya)) (gb : (#[.int .i64 x0, .int .i64 x1, .int .i64 x2, .int .i64 x3] : Array Value)[b]? = some (.int .i64 yb))
    (gc : (#[.int .i64 x0, .int .i64 x1, .int .i64 x2, .int .i64 x3] : Array Value)[c]? = some (.int .i64 yc)) (gd : (#[.int .i64 x0, .int .i64 x1, .int .i64 x2, .int .i64 x3] : Array Value)[d]? = some (.int .i64 yd)) :
    Calls Try.prog 66 #[.agg #[.int .i64 x0, .int .i64 x1, .int .i64 x2, .int .i64 x3], .int .i64 a, .int .i64 b, .int .i64 c, .int .i64 d] w fun e w' => e = .returned (.agg #[.int .i64 ya, .int .i64 yb, .int .i64 yc, .int .i64 yd]) ∧ Below w.heap.size w w' := by
  have GA := Lib.hid ga; have GB := Lib.hid gb; have GC := Lib.hid gc; have GD := Lib.hid gd
  clear ga gb gc gd
  go_enter Try.func66, Try.ntmps66
  go_wp2_with fail
  refine name2 ?_
  intro W b1 b2 hz hb0
  have HB := Lib.hid hb0; have HZ := Lib.hid hz; clear hb0 hz
  have q0 : W.cell? ⟨w.heap.size, a, none⟩ = some (.int .i64 ya) := b1.cell GA.out
  have q1 : W.cell? ⟨w.heap.size, b, none⟩ = some (.int .i64 yb) := b1.cell GB.out
  have q2 : W.cell? ⟨w.heap.size, c, none⟩ = some (.int .i64 yc) := b1.cell GC.out
  have q3 : W.cell? ⟨w.heap.size, d, none⟩ = some (.int .i64 yd) := b1.cell GD.out
  have l1 := b1.lt
  have z0 : W.cell? ⟨w.heap.size + 1, 0, none⟩ = some (.int .i64 0) := b2.cell rfl
  have z1 : W.cell? ⟨w.heap.size + 1, 1, none⟩ = some (.int .i64 0) := b2.cell rfl
  have z2 : W.cell? ⟨w.heap.size + 1, 2, none⟩ = some (.int .i64 0) := b2.cell rfl
  have z3 : W.cell? ⟨w.heap.size + 1, 3, none⟩ = some (.int .i64 0) := b2.cell rfl
  have f0 := b2.frozen 0; have f1 := b2.frozen 1; have f2 := b2.frozen 2; have f3 := b2.frozen 3
  have l2 := b2.lt
  go_wp2_with fail
  have hW := (Below.refl W.heap.size W).drew
  have hK : ∀ v0 v1 v2 v3, Only (w.heap.size + 1) (w.heap.size + 2) W ((((W.setCell ⟨w.heap.size + 1, 0, none⟩ v0).setCell ⟨w.heap.size + 1, 1, none⟩ v1).setCell ⟨w.heap.size + 1, 2, none⟩ v2).setCell ⟨w.heap.size + 1, 3, none⟩ v3) := fun v0 v1 v2 v3 =>
    ((((Only.refl _ _ _).setCell (Nat.le_refl _) (by omega) _ _).setCell (Nat.le_refl _) (by omega) _ _).setCell (Nat.le_refl _) (by omega) _ _).setCell (Nat.le_refl _) (by omega) _ _
  have hX : ∀ v0 v1 v2 v3, BK ((((W.setCell ⟨w.heap.size + 1, 0, none⟩ v0).setCell ⟨w.heap.size + 1, 1, none⟩ v1).setCell ⟨w.heap.size + 1, 2, none⟩ v2).setCell ⟨w.heap.size + 1, 3, none⟩ v3).drew w.heap.size #[.int .i64 x0, .int .i64 x1, .int .i64 x2, .int .i64 x3] 45 := by
    intro v0 v1 v2 v3
    have b := b1.only (hK v0 v1 v2 v3) (.inl (by omega))
    exact b.below ((Below.refl _ _).drew) b.lt
  go_region_held3 (fun w_ => w_.cell? ⟨w.heap.size, a, none⟩ = some (.int .i64 ya) ∧ w_.cell? ⟨w.heap.size, b, none⟩ = some (.int .i64 yb) ∧ w_.cell? ⟨w.heap.size, c, none⟩ = some (.int .i64 yc) ∧ w_.cell? ⟨w.heap.size, d, none⟩ = some (.int .i64 yd))
    (first | exact ⟨b1.cell GA.out, b1.cell GB.out, b1.cell GC.out, b1.cell GD.out⟩ | exact ⟨(b1.below hW b1.lt).cell GA.out, (b1.below hW b1.lt).cell GB.out, (b1.below hW b1.lt).cell GC.out, (b1.below hW b1.lt).cell GD.out⟩ | exact ⟨(hX _ _ _ _).cell GA.out, (hX _ _ _ _).cell GB.out, (hX _ _ _ _).cell GC.out, (hX _ _ _ _).cell GD.out⟩ | fail)
    (fail)
  go_wp2_with fail
  have hbk : BK ((((W.setCell ⟨w.heap.size + 1, 0, none⟩ (.int .i64 ya)).setCell ⟨w.heap.size + 1, 1, none⟩ (.int .i64 yb)).setCell ⟨w.heap.size + 1, 2, none⟩ (.int .i64 yc)).setCell ⟨w.heap.size + 1, 3, none⟩ (.int .i64 yd)).drew (w.heap.size + 1) #[.int .i64 ya, .int .i64 yb, .int .i64 yc, .int .i64 yd] 45 := by
    have h := (((b2.set 0 (.int .i64 ya)).set 1 (.int .i64 yb)).set 2 (.int .i64 yc)).set 3 (.int .i64 yd)
    exact h.below ((Below.refl _ _).drew) h.lt
  ((try simp only [Exit.inBlock, Exit.then]); refine bodyPost_ret (results_cell_row rfl _ _ _ _ _ _ _ rfl hbk Try.underlying45 rfl iszT) rfl ?_)
  exact ⟨rfl, below_to (below_only HB.out (hK _ _ _ _) (by omega)) ((Below.refl _ _).drew)⟩
end Go.Proofs.Ytnjmgmdpkogocaa

-- Printed by a program of this session (the kit's print, turned: printpatch.py) out of Lean's print of the translation. Lean checks it.
namespace Go.Proofs.Ytnjmgmdpkogocaa.Q
open Go.RowKit Go.Proofs.YtnjmgmdpkogocaaW.PrintWords Go.Proofs.YtnjmgmdpkogocaaW.PrintLast Go.Proofs.YtnjmgmdpkogocaaW.PrintMore
attribute [local go_sem] max2_int min2_int max_two min_two max_three min_three max_four min_four   -- for this text's walks alone
set_option linter.unusedVariables false
set_option linter.unusedSimpArgs false

/-! ### impl_areSets_1: function 98 -/
def impl_areSets_1.f (a0_0 : Int) (l0_1 : List (S45)) : Option (Bool) := (impl_IsSet.f a0_0 l0_1).bind fun t1114 => (some (!t1114))
set_option maxHeartbeats 8000000 in
set_option maxRecDepth 100000 in
theorem impl_areSets_1.calls (a0_0 : Int) (A0_1 : Option Addr) (c0_1 : Nat) (l0_1 : List (S45)) (r : Bool) (w : World) (hr0_1 : Kd.C k45 w A0_1 l0_1.length l0_1) (hc0_1 : l0_1.length ≤ c0_1) (h : impl_areSets_1.f a0_0 l0_1 = some r) :
  Calls Try.prog 98 #[.agg #[.int .i64 a0_0, .slice A0_1 l0_1.length c0_1]] w fun e w' => e = .returned (.bool r) ∧ Below w.heap.size w w' := by
 have hu26 := Try.underlying26
 have HR0_1 := Aside0.mk hr0_1
 have HC0_1 := Aside0.mk hc0_1
 clear hr0_1 hc0_1
 have HB := Aside0.mk (Below.refl w.heap.size w)
 have H : ((impl_IsSet.f a0_0 l0_1).bind fun t1114 => (some (!t1114))) = some r := h
 clear h
 replace H := Option.bind_eq_some_iff.mp H
 obtain ⟨t1114, A20, H⟩ := H
 replace H : (some (!t1114)) = some r := H
 have A2 := Aside0.mk A20
 clear A20
 obtain rfl := Option.some.inj H
 go_enter Try.func98, Try.ntmps98
 go_wp2_with (first | ((with_reducible refine gate_dst (N := 1) rfl ?_); refine box_event ?hg (N := 1) ?hd (cs := #[.int .i64 a0_0, .slice A0_1 l0_1.length c0_1]) (t := 26) ?hr ?_; (case hd => rfl); (case hg => rfl); (case hr => first | (go_simp; done) | (go_simp; rfl)); intro gb1113 hg w3 hbox hb; have n0_ := Aside0.mk (below_step (by repeat (first | (with_reducible first | exact HB.out | apply below_alloc | apply pw_below_drewN | apply below_drew1) | exact HB.out)) hb); have n1_ := Aside0.mk (hbox); have n2_ := Aside0.mk ((by rw [hg]; exact (below_size (by repeat (first | (with_reducible first | exact HB.out | apply below_alloc | apply pw_below_drewN | apply below_drew1) | exact HB.out))) : w.heap.size ≤ gb1113)); have n3_ := Aside0.mk ((by rw [hg]; exact (below_size (by repeat (first | (with_reducible first | exact HB.out | apply below_alloc | apply pw_below_drewN | apply below_drew1) | exact HB.out))) : w.heap.size ≤ gb1113)); clear HB; have HB := n0_; have BK1113 := n1_; have GW1113 := n2_; have GE1113 := n3_; clear n0_ n1_ n2_ n3_; clear hb hbox hg; have hcz4_0 : w3.cell? ⟨gb1113, 0, none⟩ = some (.int .i64 a0_0) := (blk_cell BK1113.out 0).trans rfl; have hcz4_1 : w3.cell? ⟨gb1113, 1, none⟩ = some (.slice A0_1 l0_1.length c0_1) := (blk_cell BK1113.out 1).trans rfl; have hfz4_0 := blk_frozen BK1113.out 0; have hfz4_1 := blk_frozen BK1113.out 1) | ((with_reducible refine gate_callee (f := 96) rfl ?_); refine goesL_ (some 4) rfl rfl Try.func96 (by kernel_rfl) rfl #[.agg #[.int .i64 a0_0, .slice A0_1 l0_1.length c0_1]] rfl (by (try simp only [List.map_toArray, List.map_cons, List.map_nil]); first | done | rfl | (simp only [List.length_drop, List.length_take]; rfl)) ?_; (with_reducible refine (impl_IsSet.calls a0_0 _ _ l0_1 t1114 _ ?side1 ?side2 A2.out).mono ?_); (case side1 => repeat (first | exact (Kd.C_below HR0_1.out HB.out) | (with_reducible refine Kd.C_alloc ?_ _) | (with_reducible refine Kd.C_drewN ?_ _) | (with_reducible refine Kd.C_drew ?_))); (case side2 => exact HC0_1.out); rintro e w5 ⟨rfl, hb⟩; refine ⟨_, rfl, ?_⟩; have n0_ := Aside0.mk (blk_below (g := gb1113) (o := .cells #[.int .i64 a0_0, .slice A0_1 l0_1.length c0_1] 26 (0, 0)) (by (with_reducible repeat (first | refine blk_drewN ?_ _ | refine blk_drew ?_ | refine blk_alloc ?_ _)); exact BK1113.out) hb); have n1_ := Aside0.mk (below_step (by repeat (first | (with_reducible first | exact HB.out | apply below_alloc | apply pw_below_drewN | apply below_drew1 | refine below_set ?_ GE1113.out) | exact HB.out)) hb); clear BK1113; clear HB; have BK1113 := n0_; have HB := n1_; clear n0_ n1_; (try clear hb); (try clear hb2); (try clear hk); (try clear hi)))
 go_ret
 exact ⟨by first | rfl | (simp [errW_none, errW_some] <;> rfl) | (simp [*, errW_none, errW_some] <;> rfl), by repeat (first | (with_reducible first | exact HB.out | apply below_alloc | apply pw_below_drewN | apply below_drew1 | refine below_set ?_ GE1113.out) | exact HB.out)⟩

end Go.Proofs.Ytnjmgmdpkogocaa.Q

-- Printed by a program of this session (the kit's print, turned: printpatch.py) out of Lean's print of the translation. Lean checks it.
namespace Go.Proofs.Ytnjmgmdpkogocaa.Q
open Go.RowKit Go.Proofs.YtnjmgmdpkogocaaW.PrintWords Go.Proofs.YtnjmgmdpkogocaaW.PrintLast Go.Proofs.YtnjmgmdpkogocaaW.PrintMore
attribute [local go_sem] max2_int min2_int max_two min_two max_three min_three max_four min_four   -- for this text's walks alone
set_option linter.unusedVariables false
set_option linter.unusedSimpArgs false

/-! ### impl_Set_112_at_impl_areSets_1: function 176 -/
def impl_Set_112_at_impl_areSets_1.l0 : Nat → List (S26) → Int → Int → Option (Int)
 | 0, _, _, _ => none
 | k + 1, x0, x7, x8 => if x8 < x7 then (if 0 ≤ x8 then (if x8 < (x0.length : Int) then ((impl_areSets_1.f ((rd_T26 x0 x8).f0) ((rd_T26 x0 x8).f1)).bind fun t1116 => (if t1116 = true then (some x8) else (impl_Set_112_at_impl_areSets_1.l0 k x0 x7 (wrap64 (x8 + 1))))) else (none)) else (none)) else (some (-1))
def impl_Set_112_at_impl_areSets_1.f (k : Nat) (l0 : List (S26))  : Option (Int) := impl_Set_112_at_impl_areSets_1.l0 k l0 (l0.length : Int) 0
theorem impl_Set_112_at_impl_areSets_1.mono_l : ∀ k, (∀ y0 y1 y2, LeO (impl_Set_112_at_impl_areSets_1.l0 k y0 y1 y2) (impl_Set_112_at_impl_areSets_1.l0 (k + 1) y0 y1 y2))
 | 0 => fun _ _ _ r h => by simp [impl_Set_112_at_impl_areSets_1.l0] at h
 | k + 1 => by
  have ih0 := impl_Set_112_at_impl_areSets_1.mono_l k
  ·intro y0 y1 y2
   unfold impl_Set_112_at_impl_areSets_1.l0
   repeat' first
   | (with_reducible exact ih0 _ _ _)
   | (with_reducible exact LeO.refl _)
   | (with_reducible exact LeO.none _)
   | (with_reducible refine LeO.ite ?_ ?_)
   | (with_reducible refine LeO.bind ?_ (fun _ => ?_))
   | exact ih0 _ _ _
   | exact LeO.none _
   | refine LeO.ite ?_ ?_
   | refine LeO.bind ?_ (fun _ => ?_)
theorem impl_Set_112_at_impl_areSets_1.mono : ∀ a0 k, LeO (impl_Set_112_at_impl_areSets_1.f k a0) (impl_Set_112_at_impl_areSets_1.f (k + 1) a0) := by
 intro a0 k
 have ih0 := impl_Set_112_at_impl_areSets_1.mono_l k
 unfold impl_Set_112_at_impl_areSets_1.f
 repeat' first
   | (with_reducible exact ih0 _ _ _)
   | (with_reducible exact LeO.refl _)
   | (with_reducible exact LeO.none _)
   | (with_reducible refine LeO.ite ?_ ?_)
   | (with_reducible refine LeO.bind ?_ (fun _ => ?_))
   | exact ih0 _ _ _
   | exact LeO.none _
   | refine LeO.ite ?_ ?_
   | refine LeO.bind ?_ (fun _ => ?_)
set_option maxHeartbeats 8000000 in
set_option maxRecDepth 100000 in
theorem impl_Set_112_at_impl_areSets_1.calls (k : Nat) (A0 : Option Addr) (c0 : Nat) (l0 : List (S26))  (r : Int) (w : World) (hr0 : Kd.C k26 w A0 l0.length l0) (hc0 : l0.length ≤ c0) (h : impl_Set_112_at_impl_areSets_1.f k l0 = some r) :
  Calls Try.prog 112 #[.slice A0 l0.length c0, .func (.func 98) #[] #[]] w fun e w' => e = .returned (.int .i64 r) ∧ Below w.heap.size w w' := by
 have hu26 := Try.underlying26
 have HR0 := Aside0.mk hr0
 have HC0 := Aside0.mk hc0
 clear hr0 hc0
 have HB := Aside0.mk (Below.refl w.heap.size w)
 have H : (impl_Set_112_at_impl_areSets_1.l0 k l0 (l0.length : Int) 0) = some r := h
 clear h
 have H' := Aside0.mk H
 clear H
 go_enter Try.func112, Try.ntmps112
 go_wp2
 go_loopg [8] k (fun kq v8 w' => ∃ (x8_1 : Int), v8 = .int .i64 x8_1 ∧ Aside0 (impl_Set_112_at_impl_areSets_1.l0 kq l0 (l0.length : Int) x8_1 = some r) ∧ Aside0 (kq ≤ k) ∧ Aside0 (Below w.heap.size w w'))
 case atStart => exact ⟨(0), (by first | rfl | (simp; done) | (simp [*]; done) | (simp; decide +kernel)), H', ⟨Nat.le_refl _⟩, ⟨by repeat (first | (with_reducible first | exact HB.out | apply below_alloc | apply pw_below_drewN | apply below_drew1) | exact HB.out)⟩⟩
 case round =>
  clear H'
  try clear c1
  try clear p2
  obtain ⟨x8_1, rfl, HA, HK1, HB⟩ := hrel
  cases gk with
  | zero => exact absurd HA.out (by simp [impl_Set_112_at_impl_areSets_1.l0])
  | succ k1 =>
   have H := HA.out
   clear HA
   simp only [impl_Set_112_at_impl_areSets_1.l0] at H
   by_cases c3 : x8_1 < (l0.length : Int)
   ·rw [if_pos c3] at H
    have c3b0 : decide (x8_1 < (l0.length : Int)) = true := decide_eq_true c3
    clear c3
    by_cases c4 : 0 ≤ x8_1
    ·rw [if_pos c4] at H
     have c4b0 : decide (0 ≤ x8_1) = true := decide_eq_true c4
     clear c4
     by_cases c5 : x8_1 < (l0.length : Int)
     ·rw [if_pos c5] at H
      have c5b0 : decide (x8_1 < (l0.length : Int)) = true := decide_eq_true c5
      clear c5
      replace H := Option.bind_eq_some_iff.mp H
      obtain ⟨t1116, A60, H⟩ := H
      replace H : (if t1116 = true then (some x8_1) else (impl_Set_112_at_impl_areSets_1.l0 k1 l0 (l0.length : Int) (wrap64 (x8_1 + 1)))) = some r := H
      have A6 := Aside0.mk A60
      clear A60
      by_cases c7 : t1116 = true
      ·subst c7
       have H1 : (some x8_1) = some r := by rw [if_pos rfl] at H; exact H
       clear H
       have H := H1
       clear H1
       obtain rfl := Option.some.inj H
       have p1115 : 0 ≤ (x8_1 : Int) := of_decide_eq_true (by first | (with_reducible assumption) | assumption)
       have q1115 : x8_1 < (l0.length : Int) := of_decide_eq_true (by first | (with_reducible assumption) | assumption)
       obtain ⟨ad1115, A1115_1, c1115_1, e1115, hx1115_0, hx1115_1, hl1115_1, hi1115_1⟩ := at_T26 HR0.out x8_1 p1115 q1115
       cases e1115
       replace hx1115_0 := (HB.out.cell (World.block_lt_of_cell? w _ hx1115_0)).trans hx1115_0
       replace hx1115_1 := (HB.out.cell (World.block_lt_of_cell? w _ hx1115_1)).trans hx1115_1
       have HR1115_1 := Aside0.mk hi1115_1
       have HC1115_1 := Aside0.mk hl1115_1
       clear hi1115_1 hl1115_1
       replace p1115 := eq_true p1115
       replace q1115 := eq_true q1115
       go_wp2_with fail
       (with_reducible refine (impl_areSets_1.calls ((rd_T26 l0 x8_1).f0) _ _ ((rd_T26 l0 x8_1).f1) true _ ?side1_q9 ?side2_q9 A6.out).mono ?_); (case side1_q9 => repeat (first | exact (Kd.C_below HR1115_1.out HB.out) | (with_reducible refine Kd.C_alloc ?_ _) | (with_reducible refine Kd.C_drewN ?_ _) | (with_reducible refine Kd.C_drew ?_))); (case side2_q9 => exact HC1115_1.out)
       rintro e w8 ⟨rfl, hb⟩
       have n0_ := Aside0.mk (below_step (by repeat (first | (with_reducible first | exact HB.out | apply below_alloc | apply pw_below_drewN | apply below_drew1) | exact HB.out)) hb)
       clear HB
       have HB := n0_
       clear n0_
       (try clear hb)
       (try clear hb2)
       (try clear hk)
       (try clear hi)
       go_wp2_with fail
       go_ret
       exact ⟨by first | rfl | (simp [errW_none, errW_some] <;> rfl) | (simp [*, errW_none, errW_some] <;> rfl), by repeat (first | (with_reducible first | exact HB.out | apply below_alloc | apply pw_below_drewN | apply below_drew1) | exact HB.out)⟩
      ·replace c7 := Bool.eq_false_iff.mpr c7
       subst c7
       have H1 : (impl_Set_112_at_impl_areSets_1.l0 k1 l0 (l0.length : Int) (wrap64 (x8_1 + 1))) = some r := by rw [if_neg (show ¬ (false = true) by decide)] at H; exact H
       clear H
       have H := H1
       clear H1
       have H' := Aside0.mk H
       clear H
       have p1115 : 0 ≤ (x8_1 : Int) := of_decide_eq_true (by first | (with_reducible assumption) | assumption)
       have q1115 : x8_1 < (l0.length : Int) := of_decide_eq_true (by first | (with_reducible assumption) | assumption)
       obtain ⟨ad1115, A1115_1, c1115_1, e1115, hx1115_0, hx1115_1, hl1115_1, hi1115_1⟩ := at_T26 HR0.out x8_1 p1115 q1115
       cases e1115
       replace hx1115_0 := (HB.out.cell (World.block_lt_of_cell? w _ hx1115_0)).trans hx1115_0
       replace hx1115_1 := (HB.out.cell (World.block_lt_of_cell? w _ hx1115_1)).trans hx1115_1
       have HR1115_1 := Aside0.mk hi1115_1
       have HC1115_1 := Aside0.mk hl1115_1
       clear hi1115_1 hl1115_1
       replace p1115 := eq_true p1115
       replace q1115 := eq_true q1115
       go_wp2_with fail
       (with_reducible refine (impl_areSets_1.calls ((rd_T26 l0 x8_1).f0) _ _ ((rd_T26 l0 x8_1).f1) false _ ?side1_q11 ?side2_q11 A6.out).mono ?_); (case side1_q11 => repeat (first | exact (Kd.C_below HR1115_1.out HB.out) | (with_reducible refine Kd.C_alloc ?_ _) | (with_reducible refine Kd.C_drewN ?_ _) | (with_reducible refine Kd.C_drew ?_))); (case side2_q11 => exact HC1115_1.out)
       rintro e w10 ⟨rfl, hb⟩
       have n0_ := Aside0.mk (below_step (by repeat (first | (with_reducible first | exact HB.out | apply below_alloc | apply pw_below_drewN | apply below_drew1) | exact HB.out)) hb)
       clear HB
       have HB := n0_
       clear n0_
       (try clear hb)
       (try clear hb2)
       (try clear hk)
       (try clear hi)
       go_wp2_with fail
       go_roundg k1
       case measure => have := HK1.out; omega
       case rel => exact ⟨(wrap64 (x8_1 + 1)), (by first | rfl | (simp; done) | (simp [*]; done) | (simp; decide +kernel)), H', ⟨by have := HK1.out; omega⟩, ⟨by repeat (first | (with_reducible first | exact HB.out | apply below_alloc | apply pw_below_drewN | apply below_drew1) | exact HB.out)⟩⟩
     ·rw [if_neg c5] at H
      exact absurd H (by simp)
    ·rw [if_neg c4] at H
     exact absurd H (by simp)
   ·rw [if_neg c3] at H
    have c3b0 : decide (x8_1 < (l0.length : Int)) = false := decide_eq_false c3
    clear c3
    obtain rfl := Option.some.inj H
    go_wp2_with fail
    go_ret
    exact ⟨by first | rfl | (simp [errW_none, errW_some] <;> rfl) | (simp [*, errW_none, errW_some] <;> rfl), by repeat (first | (with_reducible first | exact HB.out | apply below_alloc | apply pw_below_drewN | apply below_drew1) | exact HB.out)⟩

end Go.Proofs.Ytnjmgmdpkogocaa.Q

-- Printed by a program of this session (the kit's print, turned: printpatch.py) out of Lean's print of the translation. Lean checks it.
namespace Go.Proofs.Ytnjmgmdpkogocaa.Q
open Go.RowKit Go.Proofs.YtnjmgmdpkogocaaW.PrintWords Go.Proofs.YtnjmgmdpkogocaaW.PrintLast Go.Proofs.YtnjmgmdpkogocaaW.PrintMore
attribute [local go_sem] max2_int min2_int max_two min_two max_three min_three max_four min_four   -- for this text's walks alone
set_option linter.unusedVariables false
set_option linter.unusedSimpArgs false

/-! ### impl_Set_97_at_impl_areSets_1: function 175 -/
def impl_Set_97_at_impl_areSets_1.f (k : Nat) (l0 : List (S26))  : Option (Bool) := (impl_Set_112_at_impl_areSets_1.f k l0).bind fun t1117 => (some (decide (t1117 ≥ 0)))
theorem impl_Set_97_at_impl_areSets_1.mono : ∀ a0 k, LeO (impl_Set_97_at_impl_areSets_1.f k a0) (impl_Set_97_at_impl_areSets_1.f (k + 1) a0) := by
 intro a0 k
 unfold impl_Set_97_at_impl_areSets_1.f
 repeat' first
   | (with_reducible exact impl_Set_112_at_impl_areSets_1.mono _ _)
   | (with_reducible exact LeO.refl _)
   | (with_reducible exact LeO.none _)
   | (with_reducible refine LeO.ite ?_ ?_)
   | (with_reducible refine LeO.bind ?_ (fun _ => ?_))
   | exact impl_Set_112_at_impl_areSets_1.mono _ _
   | exact LeO.none _
   | refine LeO.ite ?_ ?_
   | refine LeO.bind ?_ (fun _ => ?_)
set_option maxHeartbeats 8000000 in
set_option maxRecDepth 100000 in
theorem impl_Set_97_at_impl_areSets_1.calls (k : Nat) (A0 : Option Addr) (c0 : Nat) (l0 : List (S26))  (r : Bool) (w : World) (hr0 : Kd.C k26 w A0 l0.length l0) (hc0 : l0.length ≤ c0) (h : impl_Set_97_at_impl_areSets_1.f k l0 = some r) :
  Calls Try.prog 97 #[.slice A0 l0.length c0, .func (.func 98) #[] #[]] w fun e w' => e = .returned (.bool r) ∧ Below w.heap.size w w' := by
 have HR0 := Aside0.mk hr0
 have HC0 := Aside0.mk hc0
 clear hr0 hc0
 have HB := Aside0.mk (Below.refl w.heap.size w)
 have H : ((impl_Set_112_at_impl_areSets_1.f k l0).bind fun t1117 => (some (decide (t1117 ≥ 0)))) = some r := h
 clear h
 replace H := Option.bind_eq_some_iff.mp H
 obtain ⟨t1117, A30, H⟩ := H
 replace H : (some (decide (t1117 ≥ 0))) = some r := H
 have A3 := Aside0.mk A30
 clear A30
 obtain rfl := Option.some.inj H
 go_enter Try.func97, Try.ntmps97
 go_wp2_with (first | ((with_reducible refine gate_callee (f := 112) rfl ?_); refine goesL_ (some 7) rfl rfl Try.func112 (by kernel_rfl) rfl #[.slice A0 l0.length c0, .func (.func 98) #[] #[]] rfl (by (try simp only [List.map_toArray, List.map_cons, List.map_nil]); first | done | rfl | (simp only [List.length_drop, List.length_take]; rfl)) ?_; (with_reducible refine (impl_Set_112_at_impl_areSets_1.calls k _ _ l0  t1117 _ ?side1 ?side2 A3.out).mono ?_); (case side1 => repeat (first | exact HR0.out | (with_reducible refine Kd.C_alloc ?_ _) | (with_reducible refine Kd.C_drewN ?_ _) | (with_reducible refine Kd.C_drew ?_))); (case side2 => exact HC0.out); rintro e w4 ⟨rfl, hb⟩; refine ⟨_, rfl, ?_⟩; have n0_ := Aside0.mk (below_step (by repeat (first | (with_reducible first | exact HB.out | apply below_alloc | apply pw_below_drewN | apply below_drew1) | exact HB.out)) hb); clear HB; have HB := n0_; clear n0_; (try clear hb); (try clear hb2); (try clear hk); (try clear hi)))
 go_ret
 exact ⟨by first | rfl | (simp [errW_none, errW_some] <;> rfl) | (simp [*, errW_none, errW_some] <;> rfl), by repeat (first | (with_reducible first | exact HB.out | apply below_alloc | apply pw_below_drewN | apply below_drew1) | exact HB.out)⟩

end Go.Proofs.Ytnjmgmdpkogocaa.Q

-- Printed by a program of this session (the kit's print, turned: printpatch.py) out of Lean's print of the translation. Lean checks it.
namespace Go.Proofs.Ytnjmgmdpkogocaa.Q
open Go.RowKit Go.Proofs.YtnjmgmdpkogocaaW.PrintWords Go.Proofs.YtnjmgmdpkogocaaW.PrintLast Go.Proofs.YtnjmgmdpkogocaaW.PrintMore
attribute [local go_sem] max2_int min2_int max_two min_two max_three min_three max_four min_four   -- for this text's walks alone
set_option linter.unusedVariables false
set_option linter.unusedSimpArgs false

/-! ### impl_areSets: function 71 -/
def impl_areSets.f (k : Nat) (l0 : List (S26)) : Option (Bool) := (impl_Set_97_at_impl_areSets_1.f k l0).bind fun t1118 => (some (!t1118))
theorem impl_areSets.mono : ∀ a0 k, LeO (impl_areSets.f k a0) (impl_areSets.f (k + 1) a0) := by
 intro a0 k
 unfold impl_areSets.f
 repeat' first
   | (with_reducible exact impl_Set_97_at_impl_areSets_1.mono _ _)
   | (with_reducible exact LeO.refl _)
   | (with_reducible exact LeO.none _)
   | (with_reducible refine LeO.ite ?_ ?_)
   | (with_reducible refine LeO.bind ?_ (fun _ => ?_))
   | exact impl_Set_97_at_impl_areSets_1.mono _ _
   | exact LeO.none _
   | refine LeO.ite ?_ ?_
   | refine LeO.bind ?_ (fun _ => ?_)
set_option maxHeartbeats 8000000 in
set_option maxRecDepth 100000 in
theorem impl_areSets.calls (k : Nat) (A0 : Option Addr) (c0 : Nat) (l0 : List (S26)) (r : Bool) (w : World) (hr0 : Kd.C k26 w A0 l0.length l0) (hc0 : l0.length ≤ c0) (h : impl_areSets.f k l0 = some r) :
  Calls Try.prog 71 #[.slice A0 l0.length c0] w fun e w' => e = .returned (.bool r) ∧ Below w.heap.size w w' := by
 have HR0 := Aside0.mk hr0
 have HC0 := Aside0.mk hc0
 clear hr0 hc0
 have HB := Aside0.mk (Below.refl w.heap.size w)
 have H : ((impl_Set_97_at_impl_areSets_1.f k l0).bind fun t1118 => (some (!t1118))) = some r := h
 clear h
 replace H := Option.bind_eq_some_iff.mp H
 obtain ⟨t1118, A20, H⟩ := H
 replace H : (some (!t1118)) = some r := H
 have A2 := Aside0.mk A20
 clear A20
 obtain rfl := Option.some.inj H
 go_enter Try.func71, Try.ntmps71
 go_wp2_with (first | ((with_reducible refine gate_callee (f := 97) rfl ?_); refine goesL_ (some 4) rfl rfl Try.func97 (by kernel_rfl) rfl #[.slice A0 l0.length c0, .func (.func 98) #[] #[]] rfl (by (try simp only [List.map_toArray, List.map_cons, List.map_nil]); first | done | rfl | (simp only [List.length_drop, List.length_take]; rfl)) ?_; (with_reducible refine (impl_Set_97_at_impl_areSets_1.calls k _ _ l0  t1118 _ ?side1 ?side2 A2.out).mono ?_); (case side1 => repeat (first | exact HR0.out | (with_reducible refine Kd.C_alloc ?_ _) | (with_reducible refine Kd.C_drewN ?_ _) | (with_reducible refine Kd.C_drew ?_))); (case side2 => exact HC0.out); rintro e w3 ⟨rfl, hb⟩; refine ⟨_, rfl, ?_⟩; have n0_ := Aside0.mk (below_step (by repeat (first | (with_reducible first | exact HB.out | apply below_alloc | apply pw_below_drewN | apply below_drew1) | exact HB.out)) hb); clear HB; have HB := n0_; clear n0_; (try clear hb); (try clear hb2); (try clear hk); (try clear hi)))
 go_ret
 exact ⟨by first | rfl | (simp [errW_none, errW_some] <;> rfl) | (simp [*, errW_none, errW_some] <;> rfl), by repeat (first | (with_reducible first | exact HB.out | apply below_alloc | apply pw_below_drewN | apply below_drew1) | exact HB.out)⟩

end Go.Proofs.Ytnjmgmdpkogocaa.Q

-- Printed by a program of this session (the kit's print, turned: printpatch.py) out of Lean's print of the translation. Lean checks it.
namespace Go.Proofs.Ytnjmgmdpkogocaa.Q
open Go.RowKit Go.Proofs.YtnjmgmdpkogocaaW.PrintWords Go.Proofs.YtnjmgmdpkogocaaW.PrintLast Go.Proofs.YtnjmgmdpkogocaaW.PrintMore
attribute [local go_sem] max2_int min2_int max_two min_two max_three min_three max_four min_four   -- for this text's walks alone
set_option linter.unusedVariables false
set_option linter.unusedSimpArgs false

/-! ### spec_JoinSets: function 32 -/
mutual
def spec_JoinSets.j0 : Nat → Bool → Int → List (S45) → Int → List (S45) → Option (Int × (List (S45)) × Int)
 | 0, _, _, _, _, _ => none
 | k + 1, x19, x1091000, x1091001, x1092000, x1092001 => if x19 = true then (some (0, ([] : List (S45)), 1)) else ((some (([] : List (S45)) : List (S45))).bind fun y1095 => (if y1095.length + x1091001.length < 4398046511104 then (spec_JoinSets.l0 k 0 x1091000 x1091001 x1092000 x1092001 (wrap64 (x1091000 + x1092000)) (y1095 ++ x1091001)) else (none)))
def spec_JoinSets.l0 : Nat → Int → Int → List (S45) → Int → List (S45) → Int → List (S45) → Option (Int × (List (S45)) × Int)
 | 0, _, _, _, _, _, _, _ => none
 | k + 1, x7, x1091000, x1091001, x1092000, x1092001, x1102000, x1102001 => if x7 < (x1092001.length : Int) then (if 0 ≤ x7 then (spec_JoinSets.l1 k x7 0 x1091000 x1091001 x1092000 x1092001 x1102000 x1102001 ((rd_T45 x1092001 x7).f0) ((rd_T45 x1092001 x7).f1) ((rd_T45 x1092001 x7).f2) ((rd_T45 x1092001 x7).f3)) else (none)) else ((spec_l01Told.f x1102000 x1102001).bind fun bt1102 => (some (bt1102.1, bt1102.2.1, bt1102.2.2)))
def spec_JoinSets.l1 : Nat → Int → Int → Int → List (S45) → Int → List (S45) → Int → List (S45) → Int → Int → Int → Int → Option (Int × (List (S45)) × Int)
 | 0, _, _, _, _, _, _, _, _, _, _, _, _ => none
 | k + 1, x7, x9, x1091000, x1091001, x1092000, x1092001, x1102000, x1102001, x1110000, x1110001, x1110002, x1110003 => if x9 < 4 then (if x9 = 0 then (spec_JoinSets.l1 k x7 (wrap64 (x9 + 1)) x1091000 x1091001 x1092000 x1092001 x1102000 x1102001 (wrap64 (x1110000 + x1091000)) x1110001 x1110002 x1110003) else (if x9 = 1 then (spec_JoinSets.l1 k x7 (wrap64 (x9 + 1)) x1091000 x1091001 x1092000 x1092001 x1102000 x1102001 x1110000 (wrap64 (x1110001 + x1091000)) x1110002 x1110003) else (if x9 = 2 then (spec_JoinSets.l1 k x7 (wrap64 (x9 + 1)) x1091000 x1091001 x1092000 x1092001 x1102000 x1102001 x1110000 x1110001 (wrap64 (x1110002 + x1091000)) x1110003) else (if x9 = 3 then (spec_JoinSets.l1 k x7 (wrap64 (x9 + 1)) x1091000 x1091001 x1092000 x1092001 x1102000 x1102001 x1110000 x1110001 x1110002 (wrap64 (x1110003 + x1091000))) else (none))))) else (if x1102001.length < 4398046511104 then (spec_JoinSets.l0 k (wrap64 (x7 + 1)) x1091000 x1091001 x1092000 x1092001 x1102000 (x1102001 ++ [(⟨x1110000, x1110001, x1110002, x1110003⟩ : S45)])) else (none))
end
def spec_JoinSets.f (k : Nat) (a0_0 : Int) (l0_1 : List (S45)) (a1_0 : Int) (l1_1 : List (S45)) : Option (Int × (List (S45)) × Int) := (spec_l01Is.f a0_0 l0_1).bind fun t1093 => (if t1093 = true then ((spec_l01Is.f a1_0 l1_1).bind fun t1094 => (spec_JoinSets.j0 k (!t1094) a0_0 l0_1 a1_0 l1_1)) else (spec_JoinSets.j0 k true a0_0 l0_1 a1_0 l1_1))
theorem spec_JoinSets.mono_l : ∀ k, (∀ y0 y1 y2 y3 y4, LeO (spec_JoinSets.j0 k y0 y1 y2 y3 y4) (spec_JoinSets.j0 (k + 1) y0 y1 y2 y3 y4)) ∧ (∀ y0 y1 y2 y3 y4 y5 y6, LeO (spec_JoinSets.l0 k y0 y1 y2 y3 y4 y5 y6) (spec_JoinSets.l0 (k + 1) y0 y1 y2 y3 y4 y5 y6)) ∧ (∀ y0 y1 y2 y3 y4 y5 y6 y7 y8 y9 y10 y11, LeO (spec_JoinSets.l1 k y0 y1 y2 y3 y4 y5 y6 y7 y8 y9 y10 y11) (spec_JoinSets.l1 (k + 1) y0 y1 y2 y3 y4 y5 y6 y7 y8 y9 y10 y11))
 | 0 => ⟨fun _ _ _ _ _ r h => by simp [spec_JoinSets.j0] at h, fun _ _ _ _ _ _ _ r h => by simp [spec_JoinSets.l0] at h, fun _ _ _ _ _ _ _ _ _ _ _ _ r h => by simp [spec_JoinSets.l1] at h⟩
 | k + 1 => by
  obtain ⟨ih0, ih1, ih2⟩ := spec_JoinSets.mono_l k
  refine ⟨?_, ?_, ?_⟩
  ·intro y0 y1 y2 y3 y4
   unfold spec_JoinSets.j0
   repeat' first
   | (with_reducible exact ih0 _ _ _ _ _)
   | (with_reducible exact ih1 _ _ _ _ _ _ _)
   | (with_reducible exact ih2 _ _ _ _ _ _ _ _ _ _ _ _)
   | (with_reducible exact LeO.refl _)
   | (with_reducible exact LeO.none _)
   | (with_reducible refine LeO.ite ?_ ?_)
   | (with_reducible refine LeO.bind ?_ (fun _ => ?_))
   | exact ih0 _ _ _ _ _
   | exact ih1 _ _ _ _ _ _ _
   | exact ih2 _ _ _ _ _ _ _ _ _ _ _ _
   | exact LeO.none _
   | refine LeO.ite ?_ ?_
   | refine LeO.bind ?_ (fun _ => ?_)
  ·intro y0 y1 y2 y3 y4 y5 y6
   unfold spec_JoinSets.l0
   repeat' first
   | (with_reducible exact ih0 _ _ _ _ _)
   | (with_reducible exact ih1 _ _ _ _ _ _ _)
   | (with_reducible exact ih2 _ _ _ _ _ _ _ _ _ _ _ _)
   | (with_reducible exact LeO.refl _)
   | (with_reducible exact LeO.none _)
   | (with_reducible refine LeO.ite ?_ ?_)
   | (with_reducible refine LeO.bind ?_ (fun _ => ?_))
   | exact ih0 _ _ _ _ _
   | exact ih1 _ _ _ _ _ _ _
   | exact ih2 _ _ _ _ _ _ _ _ _ _ _ _
   | exact LeO.none _
   | refine LeO.ite ?_ ?_
   | refine LeO.bind ?_ (fun _ => ?_)
  ·intro y0 y1 y2 y3 y4 y5 y6 y7 y8 y9 y10 y11
   unfold spec_JoinSets.l1
   repeat' first
   | (with_reducible exact ih0 _ _ _ _ _)
   | (with_reducible exact ih1 _ _ _ _ _ _ _)
   | (with_reducible exact ih2 _ _ _ _ _ _ _ _ _ _ _ _)
   | (with_reducible exact LeO.refl _)
   | (with_reducible exact LeO.none _)
   | (with_reducible refine LeO.ite ?_ ?_)
   | (with_reducible refine LeO.bind ?_ (fun _ => ?_))
   | exact ih0 _ _ _ _ _
   | exact ih1 _ _ _ _ _ _ _
   | exact ih2 _ _ _ _ _ _ _ _ _ _ _ _
   | exact LeO.none _
   | refine LeO.ite ?_ ?_
   | refine LeO.bind ?_ (fun _ => ?_)
theorem spec_JoinSets.mono : ∀ a0 a1 a2 a3 k, LeO (spec_JoinSets.f k a0 a1 a2 a3) (spec_JoinSets.f (k + 1) a0 a1 a2 a3) := by
 intro a0 a1 a2 a3 k
 obtain ⟨ih0, ih1, ih2⟩ := spec_JoinSets.mono_l k
 unfold spec_JoinSets.f
 repeat' first
   | (with_reducible exact ih0 _ _ _ _ _)
   | (with_reducible exact ih1 _ _ _ _ _ _ _)
   | (with_reducible exact ih2 _ _ _ _ _ _ _ _ _ _ _ _)
   | (with_reducible exact LeO.refl _)
   | (with_reducible exact LeO.none _)
   | (with_reducible refine LeO.ite ?_ ?_)
   | (with_reducible refine LeO.bind ?_ (fun _ => ?_))
   | exact ih0 _ _ _ _ _
   | exact ih1 _ _ _ _ _ _ _
   | exact ih2 _ _ _ _ _ _ _ _ _ _ _ _
   | exact LeO.none _
   | refine LeO.ite ?_ ?_
   | refine LeO.bind ?_ (fun _ => ?_)
def spec_JoinSets.T3 : Bool × List (List Nat × List Nat) := (true, [([], []), ([0], [0]), ([], []), ([2], [2]), ([1, 3], [1, 3]), ([], []), ([], []), ([6], [6]), ([5, 7], [5, 7]), ([4, 8], [4, 8]), ([], []), ([10, 9, 8, 0, 1, 2, 3, 4, 5, 6, 7, 8, 9, 10], [9, 10])])
def spec_JoinSets.B3 : List Nat := [0, 1, 0, 4, 15, 0, 0, 64, 224, 511, 0, 2047]
theorem spec_JoinSets.tab3 : rtab .any (opsOf Try.f32 3) = spec_JoinSets.T3 := by kernel_rfl
theorem spec_JoinSets.bits3 : waitsOk spec_JoinSets.T3.2 spec_JoinSets.B3 = true := by kernel_rfl
def spec_JoinSets.T11 : Bool × List (List Nat × List Nat) := (true, [([], []), ([], []), ([1], [1]), ([2], [2]), ([], []), ([4], [4]), ([3, 5], [3, 5]), ([0, 0, 1, 2, 3, 4, 5, 6], [0]), ([7, 6, 0, 1, 2, 3, 4, 5, 6], [6, 7])])
def spec_JoinSets.B11 : List Nat := [0, 0, 2, 6, 0, 16, 62, 127, 255]
theorem spec_JoinSets.tab11 : rtab .any (opsOf Try.f32 11) = spec_JoinSets.T11 := by kernel_rfl
theorem spec_JoinSets.bits11 : waitsOk spec_JoinSets.T11.2 spec_JoinSets.B11 = true := by kernel_rfl
set_option maxHeartbeats 8000000 in
set_option maxRecDepth 100000 in
theorem spec_JoinSets.calls (k : Nat) (a0_0 : Int) (A0_1 : Option Addr) (c0_1 : Nat) (l0_1 : List (S45)) (a1_0 : Int) (A1_1 : Option Addr) (c1_1 : Nat) (l1_1 : List (S45)) (r1 : Int) (r2 : List (S45)) (r3 : Int) (w : World) (hr0_1 : Kd.C k45 w A0_1 l0_1.length l0_1) (hc0_1 : l0_1.length ≤ c0_1) (hr1_1 : Kd.C k45 w A1_1 l1_1.length l1_1) (hc1_1 : l1_1.length ≤ c1_1) (h : spec_JoinSets.f k a0_0 l0_1 a1_0 l1_1 = some (r1, r2, r3)) :
  Calls Try.prog 32 #[.agg #[.int .i64 a0_0, .slice A0_1 l0_1.length c0_1], .agg #[.int .i64 a1_0, .slice A1_1 l1_1.length c1_1]] w fun e w' => ∃ v1_ : Value, e = .returned (.tuple #[.agg #[.int .i64 r1, v1_], .int .i64 r3]) ∧ Kd.R k45 45 w' w.heap.size (fun _ => True) v1_ r2 ∧ Below w.heap.size w w' := by
 have hu26 := Try.underlying26
 have hu45 := Try.underlying45
 have HR0_1 := Aside0.mk hr0_1
 have HC0_1 := Aside0.mk hc0_1
 clear hr0_1 hc0_1
 have HR1_1 := Aside0.mk hr1_1
 have HC1_1 := Aside0.mk hc1_1
 clear hr1_1 hc1_1
 have HB := Aside0.mk (Below.refl w.heap.size w)
 have H : ((spec_l01Is.f a0_0 l0_1).bind fun t1093 => (if t1093 = true then ((spec_l01Is.f a1_0 l1_1).bind fun t1094 => (spec_JoinSets.j0 k (!t1094) a0_0 l0_1 a1_0 l1_1)) else (spec_JoinSets.j0 k true a0_0 l0_1 a1_0 l1_1))) = some (r1, r2, r3) := h
 clear h
 have HC3 := Aside0.mk H
 clear H
 go_enter Try.func32, Try.ntmps32
 go_upto_region 1 with (first | ((with_reducible refine gate_dst (N := 2) rfl ?_); refine box_event ?hg (N := 2) ?hd (cs := #[.int .i64 a0_0, .slice A0_1 l0_1.length c0_1]) (t := 26) ?hr ?_; (case hd => rfl); (case hg => rfl); (case hr => first | (go_simp; done) | (go_simp; rfl)); intro gb1090 hg w4 hbox hb; have n0_ := Aside0.mk (below_step (by repeat (first | (with_reducible first | exact HB.out | apply below_alloc | apply pw_below_drewN | apply below_drew1) | exact HB.out)) hb); have n1_ := Aside0.mk (hbox); have n2_ := Aside0.mk ((by rw [hg]; exact (below_size (by repeat (first | (with_reducible first | exact HB.out | apply below_alloc | apply pw_below_drewN | apply below_drew1) | exact HB.out))) : w.heap.size ≤ gb1090)); have n3_ := Aside0.mk ((by rw [hg]; exact (below_size (by repeat (first | (with_reducible first | exact HB.out | apply below_alloc | apply pw_below_drewN | apply below_drew1) | exact HB.out))) : w.heap.size ≤ gb1090)); clear HB; have HB := n0_; have BK1090 := n1_; have GW1090 := n2_; have GE1090 := n3_; clear n0_ n1_ n2_ n3_; clear hb hbox hg) | ((with_reducible refine gate_dst (N := 3) rfl ?_); refine box_event ?hg (N := 3) ?hd (cs := #[.int .i64 a1_0, .slice A1_1 l1_1.length c1_1]) (t := 26) ?hr ?_; (case hd => rfl); (case hg => rfl); (case hr => first | (go_simp; done) | (go_simp; rfl)); intro gb1091 hg w5 hbox hb; have n0_ := Aside0.mk (blk_below (g := gb1090) (o := .cells #[.int .i64 a0_0, .slice A0_1 l0_1.length c0_1] 26 (0, 0)) (by (with_reducible repeat (first | refine blk_drewN ?_ _ | refine blk_drew ?_ | refine blk_alloc ?_ _)); exact BK1090.out) hb); have n1_ := Aside0.mk (below_step (by repeat (first | (with_reducible first | exact HB.out | apply below_alloc | apply pw_below_drewN | apply below_drew1 | refine below_set ?_ GE1090.out) | exact HB.out)) hb); have n2_ := Aside0.mk (hbox); have n3_ := Aside0.mk ((by rw [hg]; exact (below_size (by repeat (first | (with_reducible first | exact HB.out | apply below_alloc | apply pw_below_drewN | apply below_drew1 | refine below_set ?_ GE1090.out) | exact HB.out))) : w.heap.size ≤ gb1091)); have n4_ := Aside0.mk ((by rw [hg]; exact (below_size (by repeat (first | (with_reducible first | exact HB.out | apply below_alloc | apply pw_below_drewN | apply below_drew1 | refine below_set ?_ GE1090.out) | exact HB.out))) : w.heap.size ≤ gb1091)); have n5_ := Aside0.mk ((by rw [hg]; exact Nat.ne_of_lt (blk_lt (g := gb1090) (o := .cells #[.int .i64 a0_0, .slice A0_1 l0_1.length c0_1] 26 (0, 0)) (by (with_reducible repeat (first | refine blk_drewN ?_ _ | refine blk_drew ?_ | refine blk_alloc ?_ _)); exact BK1090.out)) : gb1090 ≠ gb1091)); have n6_ := Aside0.mk ((by rw [hg]; exact Nat.ne_of_gt (blk_lt (g := gb1090) (o := .cells #[.int .i64 a0_0, .slice A0_1 l0_1.length c0_1] 26 (0, 0)) (by (with_reducible repeat (first | refine blk_drewN ?_ _ | refine blk_drew ?_ | refine blk_alloc ?_ _)); exact BK1090.out)) : gb1091 ≠ gb1090)); clear BK1090; clear HB; have BK1090 := n0_; have HB := n1_; have BK1091 := n2_; have GW1091 := n3_; have GE1091 := n4_; have NB1090_1091 := n5_; have NB1091_1090 := n6_; clear n0_ n1_ n2_ n3_ n4_ n5_ n6_; clear hb hbox hg) | ((with_reducible refine gate_dst (N := 4) rfl ?_); refine box_event ?hg (N := 4) ?hd (cs := #[.int .i64 0, .slice none 0 0]) (t := 26) ?hr ?_; (case hd => rfl); (case hg => rfl); (case hr => first | (go_simp; done) | (go_simp; rfl)); intro gb1092 hg w6 hbox hb; have n0_ := Aside0.mk (blk_below (g := gb1090) (o := .cells #[.int .i64 a0_0, .slice A0_1 l0_1.length c0_1] 26 (0, 0)) (by (with_reducible repeat (first | refine blk_drewN ?_ _ | refine blk_drew ?_ | refine blk_alloc ?_ _)); exact BK1090.out) hb); have n1_ := Aside0.mk (blk_below (g := gb1091) (o := .cells #[.int .i64 a1_0, .slice A1_1 l1_1.length c1_1] 26 (0, 0)) (by (with_reducible repeat (first | refine blk_drewN ?_ _ | refine blk_drew ?_ | refine blk_alloc ?_ _)); exact BK1091.out) hb); have n2_ := Aside0.mk (below_step (by repeat (first | (with_reducible first | exact HB.out | apply below_alloc | apply pw_below_drewN | apply below_drew1 | refine below_set ?_ GE1090.out | refine below_set ?_ GE1091.out) | exact HB.out)) hb); have n3_ := Aside0.mk (hbox); have n4_ := Aside0.mk ((by rw [hg]; exact (below_size (by repeat (first | (with_reducible first | exact HB.out | apply below_alloc | apply pw_below_drewN | apply below_drew1 | refine below_set ?_ GE1090.out | refine below_set ?_ GE1091.out) | exact HB.out))) : w.heap.size ≤ gb1092)); have n5_ := Aside0.mk ((by rw [hg]; exact (below_size (by repeat (first | (with_reducible first | exact HB.out | apply below_alloc | apply pw_below_drewN | apply below_drew1 | refine below_set ?_ GE1090.out | refine below_set ?_ GE1091.out) | exact HB.out))) : w.heap.size ≤ gb1092)); have n6_ := Aside0.mk ((by rw [hg]; exact Nat.ne_of_lt (blk_lt (g := gb1090) (o := .cells #[.int .i64 a0_0, .slice A0_1 l0_1.length c0_1] 26 (0, 0)) (by (with_reducible repeat (first | refine blk_drewN ?_ _ | refine blk_drew ?_ | refine blk_alloc ?_ _)); exact BK1090.out)) : gb1090 ≠ gb1092)); have n7_ := Aside0.mk ((by rw [hg]; exact Nat.ne_of_gt (blk_lt (g := gb1090) (o := .cells #[.int .i64 a0_0, .slice A0_1 l0_1.length c0_1] 26 (0, 0)) (by (with_reducible repeat (first | refine blk_drewN ?_ _ | refine blk_drew ?_ | refine blk_alloc ?_ _)); exact BK1090.out)) : gb1092 ≠ gb1090)); have n8_ := Aside0.mk ((by rw [hg]; exact Nat.ne_of_lt (blk_lt (g := gb1091) (o := .cells #[.int .i64 a1_0, .slice A1_1 l1_1.length c1_1] 26 (0, 0)) (by (with_reducible repeat (first | refine blk_drewN ?_ _ | refine blk_drew ?_ | refine blk_alloc ?_ _)); exact BK1091.out)) : gb1091 ≠ gb1092)); have n9_ := Aside0.mk ((by rw [hg]; exact Nat.ne_of_gt (blk_lt (g := gb1091) (o := .cells #[.int .i64 a1_0, .slice A1_1 l1_1.length c1_1] 26 (0, 0)) (by (with_reducible repeat (first | refine blk_drewN ?_ _ | refine blk_drew ?_ | refine blk_alloc ?_ _)); exact BK1091.out)) : gb1092 ≠ gb1091)); clear BK1090; clear BK1091; clear HB; have BK1090 := n0_; have BK1091 := n1_; have HB := n2_; have BK1092 := n3_; have GW1092 := n4_; have GE1092 := n5_; have NB1090_1092 := n6_; have NB1092_1090 := n7_; have NB1091_1092 := n8_; have NB1092_1091 := n9_; clear n0_ n1_ n2_ n3_ n4_ n5_ n6_ n7_ n8_ n9_; clear hb hbox hg))
 (try simp only [Act.put, List.setIfInBounds_toArray, List.set_cons_zero, List.set_cons_succ])
 go_cut [19] (fun v19 wc => ∃ (kq : Nat) (x19_2 : Bool), v19 = .bool x19_2 ∧ Aside0 (spec_JoinSets.j0 kq x19_2 a0_0 l0_1 a1_0 l1_1 = some (r1, r2, r3)) ∧ Aside0 (kq ≤ k) ∧ Aside0 (wc.heap[gb1090]? = some (.cells #[.int .i64 a0_0, (.slice A0_1 l0_1.length c0_1)] 26 (0, 0))) ∧ Aside0 (wc.heap[gb1091]? = some (.cells #[.int .i64 a1_0, (.slice A1_1 l1_1.length c1_1)] 26 (0, 0))) ∧ Aside0 (wc.heap[gb1092]? = some (.cells #[.int .i64 0, (.slice none 0 0)] 26 (0, 0))) ∧ Aside0 (Below w.heap.size w wc))
 case first =>
  have H := HC3.out
  clear HC3
  replace H := Option.bind_eq_some_iff.mp H
  obtain ⟨t1093, A70, H⟩ := H
  replace H : (if t1093 = true then ((spec_l01Is.f a1_0 l1_1).bind fun t1094 => (spec_JoinSets.j0 k (!t1094) a0_0 l0_1 a1_0 l1_1)) else (spec_JoinSets.j0 k true a0_0 l0_1 a1_0 l1_1)) = some (r1, r2, r3) := H
  have A7 := Aside0.mk A70
  clear A70
  by_cases c8 : t1093 = true
  ·subst c8
   have H1 : ((spec_l01Is.f a1_0 l1_1).bind fun t1094 => (spec_JoinSets.j0 k (!t1094) a0_0 l0_1 a1_0 l1_1)) = some (r1, r2, r3) := by rw [if_pos rfl] at H; exact H
   clear H
   have H := H1
   clear H1
   replace H := Option.bind_eq_some_iff.mp H
   obtain ⟨t1094, A90, H⟩ := H
   replace H : (spec_JoinSets.j0 k (!t1094) a0_0 l0_1 a1_0 l1_1) = some (r1, r2, r3) := H
   have A9 := Aside0.mk A90
   clear A90
   have H' := Aside0.mk H
   clear H
   have hnb10 := NB1090_1091.out
   have hnc10 := NB1091_1090.out
   have hnb11 := NB1090_1092.out
   have hnc11 := NB1092_1090.out
   have hcz12_0 : w6.cell? ⟨gb1090, 0, none⟩ = some (.int .i64 a0_0) := (blk_cell BK1090.out 0).trans rfl
   have hcz12_1 : w6.cell? ⟨gb1090, 1, none⟩ = some (.slice A0_1 l0_1.length c0_1) := (blk_cell BK1090.out 1).trans rfl
   have hfz12_0 := blk_frozen BK1090.out 0
   have hfz12_1 := blk_frozen BK1090.out 1
   go_wp2_with (first | ((with_reducible refine gate_callee (f := 60) rfl ?_); refine goesL_ (some 13) rfl rfl Try.func60 (by kernel_rfl) rfl #[.agg #[.int .i64 a0_0, .slice A0_1 l0_1.length c0_1]] rfl (by (try simp only [List.map_toArray, List.map_cons, List.map_nil]); first | done | rfl | (simp only [List.length_drop, List.length_take]; rfl)) ?_; (with_reducible refine (spec_l01Is.calls a0_0 _ _ l0_1 true _ ?side1 ?side2 A7.out).mono ?_); (case side1 => repeat (first | exact (Kd.C_below HR0_1.out HB.out) | (with_reducible refine Kd.C_alloc ?_ _) | (with_reducible refine Kd.C_drewN ?_ _) | (with_reducible refine Kd.C_drew ?_))); (case side2 => exact HC0_1.out); rintro e w13 ⟨rfl, hb⟩; refine ⟨_, rfl, ?_⟩; have n0_ := Aside0.mk (blk_below (g := gb1090) (o := .cells #[.int .i64 a0_0, .slice A0_1 l0_1.length c0_1] 26 (0, 0)) (by (with_reducible repeat (first | refine blk_drewN ?_ _ | refine blk_drew ?_ | refine blk_alloc ?_ _)); exact BK1090.out) hb); have n1_ := Aside0.mk (blk_below (g := gb1091) (o := .cells #[.int .i64 a1_0, .slice A1_1 l1_1.length c1_1] 26 (0, 0)) (by (with_reducible repeat (first | refine blk_drewN ?_ _ | refine blk_drew ?_ | refine blk_alloc ?_ _)); exact BK1091.out) hb); have n2_ := Aside0.mk (blk_below (g := gb1092) (o := .cells #[.int .i64 0, .slice none 0 0] 26 (0, 0)) (by (with_reducible repeat (first | refine blk_drewN ?_ _ | refine blk_drew ?_ | refine blk_alloc ?_ _)); exact BK1092.out) hb); have n3_ := Aside0.mk (below_step (by repeat (first | (with_reducible first | exact HB.out | apply below_alloc | apply pw_below_drewN | apply below_drew1 | refine below_set ?_ GE1090.out | refine below_set ?_ GE1091.out | refine below_set ?_ GE1092.out) | exact HB.out)) hb); clear BK1090; clear BK1091; clear BK1092; clear HB; have BK1090 := n0_; have BK1091 := n1_; have BK1092 := n2_; have HB := n3_; clear n0_ n1_ n2_ n3_; (try clear hb); (try clear hb2); (try clear hk); (try clear hi); have hnb14 := NB1091_1092.out; have hnc14 := NB1092_1091.out; have hcz15_0 : w13.cell? ⟨gb1091, 0, none⟩ = some (.int .i64 a1_0) := (blk_cell BK1091.out 0).trans rfl; have hcz15_1 : w13.cell? ⟨gb1091, 1, none⟩ = some (.slice A1_1 l1_1.length c1_1) := (blk_cell BK1091.out 1).trans rfl; have hfz15_0 := blk_frozen BK1091.out 0; have hfz15_1 := blk_frozen BK1091.out 1) | (go_at_call 60; (with_reducible refine (spec_l01Is.calls a1_0 _ _ l1_1 t1094 _ ?side1 ?side2 A9.out).mono ?_); (case side1 => repeat (first | exact (Kd.C_below HR1_1.out HB.out) | (with_reducible refine Kd.C_alloc ?_ _) | (with_reducible refine Kd.C_drewN ?_ _) | (with_reducible refine Kd.C_drew ?_))); (case side2 => exact HC1_1.out); rintro e w16 ⟨rfl, hb⟩; have n0_ := Aside0.mk (blk_below (g := gb1090) (o := .cells #[.int .i64 a0_0, .slice A0_1 l0_1.length c0_1] 26 (0, 0)) (by (with_reducible repeat (first | refine blk_drewN ?_ _ | refine blk_drew ?_ | refine blk_alloc ?_ _)); exact BK1090.out) hb); have n1_ := Aside0.mk (blk_below (g := gb1091) (o := .cells #[.int .i64 a1_0, .slice A1_1 l1_1.length c1_1] 26 (0, 0)) (by (with_reducible repeat (first | refine blk_drewN ?_ _ | refine blk_drew ?_ | refine blk_alloc ?_ _)); exact BK1091.out) hb); have n2_ := Aside0.mk (blk_below (g := gb1092) (o := .cells #[.int .i64 0, .slice none 0 0] 26 (0, 0)) (by (with_reducible repeat (first | refine blk_drewN ?_ _ | refine blk_drew ?_ | refine blk_alloc ?_ _)); exact BK1092.out) hb); have n3_ := Aside0.mk (below_step (by repeat (first | (with_reducible first | exact HB.out | apply below_alloc | apply pw_below_drewN | apply below_drew1 | refine below_set ?_ GE1090.out | refine below_set ?_ GE1091.out | refine below_set ?_ GE1092.out) | exact HB.out)) hb); clear BK1090; clear BK1091; clear BK1092; clear HB; have BK1090 := n0_; have BK1091 := n1_; have BK1092 := n2_; have HB := n3_; clear n0_ n1_ n2_ n3_; (try clear hb); (try clear hb2); (try clear hk); (try clear hi)))
   go_meet
   case rel => exact ⟨_, (!t1094), (by first | rfl | (simp; done) | (simp [*]; done) | (simp; decide +kernel)), H', ⟨by first | omega | exact Nat.le_refl _⟩, ⟨by (with_reducible repeat (first | refine blk_drewN ?_ _ | refine blk_drew ?_ | refine blk_alloc ?_ _)); exact BK1090.out⟩, ⟨by (with_reducible repeat (first | refine blk_drewN ?_ _ | refine blk_drew ?_ | refine blk_alloc ?_ _)); exact BK1091.out⟩, ⟨by (with_reducible repeat (first | refine blk_drewN ?_ _ | refine blk_drew ?_ | refine blk_alloc ?_ _)); exact BK1092.out⟩, ⟨by repeat (first | (with_reducible first | exact HB.out | apply below_alloc | apply pw_below_drewN | apply below_drew1 | refine below_set ?_ GE1090.out | refine below_set ?_ GE1091.out | refine below_set ?_ GE1092.out) | exact HB.out)⟩⟩
  ·replace c8 := Bool.eq_false_iff.mpr c8
   subst c8
   have H1 : (spec_JoinSets.j0 k true a0_0 l0_1 a1_0 l1_1) = some (r1, r2, r3) := by rw [if_neg (show ¬ (false = true) by decide)] at H; exact H
   clear H
   have H := H1
   clear H1
   have H' := Aside0.mk H
   clear H
   have hnb17 := NB1090_1091.out
   have hnc17 := NB1091_1090.out
   have hnb18 := NB1090_1092.out
   have hnc18 := NB1092_1090.out
   have hcz19_0 : w6.cell? ⟨gb1090, 0, none⟩ = some (.int .i64 a0_0) := (blk_cell BK1090.out 0).trans rfl
   have hcz19_1 : w6.cell? ⟨gb1090, 1, none⟩ = some (.slice A0_1 l0_1.length c0_1) := (blk_cell BK1090.out 1).trans rfl
   have hfz19_0 := blk_frozen BK1090.out 0
   have hfz19_1 := blk_frozen BK1090.out 1
   go_wp2_with (first | ((with_reducible refine gate_callee (f := 60) rfl ?_); refine goesL_ (some 13) rfl rfl Try.func60 (by kernel_rfl) rfl #[.agg #[.int .i64 a0_0, .slice A0_1 l0_1.length c0_1]] rfl (by (try simp only [List.map_toArray, List.map_cons, List.map_nil]); first | done | rfl | (simp only [List.length_drop, List.length_take]; rfl)) ?_; (with_reducible refine (spec_l01Is.calls a0_0 _ _ l0_1 false _ ?side1 ?side2 A7.out).mono ?_); (case side1 => repeat (first | exact (Kd.C_below HR0_1.out HB.out) | (with_reducible refine Kd.C_alloc ?_ _) | (with_reducible refine Kd.C_drewN ?_ _) | (with_reducible refine Kd.C_drew ?_))); (case side2 => exact HC0_1.out); rintro e w20 ⟨rfl, hb⟩; refine ⟨_, rfl, ?_⟩; have n0_ := Aside0.mk (blk_below (g := gb1090) (o := .cells #[.int .i64 a0_0, .slice A0_1 l0_1.length c0_1] 26 (0, 0)) (by (with_reducible repeat (first | refine blk_drewN ?_ _ | refine blk_drew ?_ | refine blk_alloc ?_ _)); exact BK1090.out) hb); have n1_ := Aside0.mk (blk_below (g := gb1091) (o := .cells #[.int .i64 a1_0, .slice A1_1 l1_1.length c1_1] 26 (0, 0)) (by (with_reducible repeat (first | refine blk_drewN ?_ _ | refine blk_drew ?_ | refine blk_alloc ?_ _)); exact BK1091.out) hb); have n2_ := Aside0.mk (blk_below (g := gb1092) (o := .cells #[.int .i64 0, .slice none 0 0] 26 (0, 0)) (by (with_reducible repeat (first | refine blk_drewN ?_ _ | refine blk_drew ?_ | refine blk_alloc ?_ _)); exact BK1092.out) hb); have n3_ := Aside0.mk (below_step (by repeat (first | (with_reducible first | exact HB.out | apply below_alloc | apply pw_below_drewN | apply below_drew1 | refine below_set ?_ GE1090.out | refine below_set ?_ GE1091.out | refine below_set ?_ GE1092.out) | exact HB.out)) hb); clear BK1090; clear BK1091; clear BK1092; clear HB; have BK1090 := n0_; have BK1091 := n1_; have BK1092 := n2_; have HB := n3_; clear n0_ n1_ n2_ n3_; (try clear hb); (try clear hb2); (try clear hk); (try clear hi)))
   go_meet
   case rel => exact ⟨_, (true), (by first | rfl | (simp; done) | (simp [*]; done) | (simp; decide +kernel)), H', ⟨by first | omega | exact Nat.le_refl _⟩, ⟨by (with_reducible repeat (first | refine blk_drewN ?_ _ | refine blk_drew ?_ | refine blk_alloc ?_ _)); exact BK1090.out⟩, ⟨by (with_reducible repeat (first | refine blk_drewN ?_ _ | refine blk_drew ?_ | refine blk_alloc ?_ _)); exact BK1091.out⟩, ⟨by (with_reducible repeat (first | refine blk_drewN ?_ _ | refine blk_drew ?_ | refine blk_alloc ?_ _)); exact BK1092.out⟩, ⟨by repeat (first | (with_reducible first | exact HB.out | apply below_alloc | apply pw_below_drewN | apply below_drew1 | refine below_set ?_ GE1090.out | refine below_set ?_ GE1091.out | refine below_set ?_ GE1092.out) | exact HB.out)⟩⟩
 case rest =>
  clear HC3
  try clear c1
  try clear p2
  try clear c3
  try clear c6
  try clear c8
  try clear c10
  try clear c11
  try clear c14
  try clear c17
  try clear c18
  try clear hcz12_0
  try clear hcz12_1
  try clear hcz15_0
  try clear hcz15_1
  try clear hcz19_0
  try clear hcz19_1
  try clear hfz12_0
  try clear hfz12_1
  try clear hfz15_0
  try clear hfz15_1
  try clear hfz19_0
  try clear hfz19_1
  obtain ⟨kq, x19_2, rfl, HA, HJ2, BK1090, BK1091, BK1092, HB⟩ := hcut
  cases kq with
  | zero => exact absurd HA.out (by simp [spec_JoinSets.j0])
  | succ kj2 =>
   have H := HA.out
   clear HA
   simp only [spec_JoinSets.j0] at H
   by_cases c21 : x19_2 = true
   ·subst c21
    have H1 : (some (0, ([] : List (S45)), 1)) = some (r1, r2, r3) := by rw [if_pos rfl] at H; exact H
    clear H
    have H := H1
    clear H1
    simp only [Option.some.injEq, Prod.mk.injEq] at H
    obtain ⟨rfl, rfl, rfl⟩ := H
    have hnb22 := NB1092_1090.out
    have hnc22 := NB1090_1092.out
    have hnb23 := NB1092_1091.out
    have hnc23 := NB1091_1092.out
    have hcz24_0 : wc.cell? ⟨gb1092, 0, none⟩ = some (.int .i64 0) := (blk_cell BK1092.out 0).trans rfl
    have hcz24_1 : wc.cell? ⟨gb1092, 1, none⟩ = some (.slice none 0 0) := (blk_cell BK1092.out 1).trans rfl
    have hfz24_0 := blk_frozen BK1092.out 0
    have hfz24_1 := blk_frozen BK1092.out 1
    go_wp2
    refine bodyPost_ret (results_ct rfl _ _ gb1092 26 #[.int .i64 0, .slice none 0 0] (0, 0) _ rfl (by (with_reducible repeat (first | refine blk_drewN ?_ _ | refine blk_drew ?_ | refine blk_alloc ?_ _)); refine blk_put (cs := #[.int .i64 0, .slice none 0 0]) ?_ 1 _ rfl; (with_reducible repeat (first | refine blk_drewN ?_ _ | refine blk_drew ?_ | refine blk_alloc ?_ _)); refine blk_put (cs := #[.int .i64 0, .slice none 0 0]) ?_ 0 _ rfl; (with_reducible repeat (first | refine blk_drewN ?_ _ | refine blk_drew ?_ | refine blk_alloc ?_ _)); exact BK1092.out) Try.underlying26 rfl (by kernel_rfl)) rfl ?_
    exact ⟨_, by first | rfl | (simp [errW_none, errW_some] <;> rfl) | (simp [*, errW_none, errW_some] <;> rfl), by first | exact Kd.R_nil _ _ _ _ _ | exact Kd.N_nil _ _ _ _ _ | exact Kd.V_nil _ _ _ _ _ | exact Kd.Q_nil _ _ _ _ _ | exact Kd.S_nil _ _ _ _ _, by repeat (first | (with_reducible first | exact HB.out | apply below_alloc | apply pw_below_drewN | apply below_drew1 | refine below_set ?_ GE1090.out | refine below_set ?_ GE1091.out | refine below_set ?_ GE1092.out) | exact HB.out)⟩
   ·replace c21 := Bool.eq_false_iff.mpr c21
    subst c21
    have H1 : ((some (([] : List (S45)) : List (S45))).bind fun y1095 => (if y1095.length + l0_1.length < 4398046511104 then (spec_JoinSets.l0 kj2 0 a0_0 l0_1 a1_0 l1_1 (wrap64 (a0_0 + a1_0)) (y1095 ++ l0_1)) else (none))) = some (r1, r2, r3) := by rw [if_neg (show ¬ (false = true) by decide)] at H; exact H
    clear H
    have H := H1
    clear H1
    obtain ⟨y1095, hy1095⟩ : ∃ y_ : List (S45), y_ = (([] : List (S45))) := ⟨_, rfl⟩
    replace H : (if y1095.length + l0_1.length < 4398046511104 then (spec_JoinSets.l0 kj2 0 a0_0 l0_1 a1_0 l1_1 (wrap64 (a0_0 + a1_0)) (y1095 ++ l0_1)) else (none)) = some (r1, r2, r3) := by first | (rw [hy1095]; with_reducible exact H) | (have H2_ := (Option.bind_some _ _).symm.trans H; rw [hy1095]; with_reducible exact H2_) | (have H2_ := (Option.bind_some _ _).symm.trans H; with_reducible exact H2_) | with_reducible exact H | (rw [hy1095]; exact H) | exact H
    have Ny1095 := Aside0.mk hy1095
    clear hy1095
    by_cases c25 : y1095.length + l0_1.length < 4398046511104
    ·rw [if_pos c25] at H
     have LMc25 := Aside0.mk c25
     clear c25
     obtain ⟨y1098, hy1098⟩ : ∃ y_ : List (S45), y_ = (y1095 ++ l0_1) := ⟨_, rfl⟩
     replace H : (spec_JoinSets.l0 kj2 0 a0_0 l0_1 a1_0 l1_1 (wrap64 (a0_0 + a1_0)) y1098) = some (r1, r2, r3) := by first | (rw [hy1098]; with_reducible exact H) | (have H2_ := (Option.bind_some _ _).symm.trans H; rw [hy1098]; with_reducible exact H2_) | (have H2_ := (Option.bind_some _ _).symm.trans H; with_reducible exact H2_) | with_reducible exact H | (rw [hy1098]; exact H) | exact H
     have Ny1098 := Aside0.mk hy1098
     clear hy1098
     have H' := Aside0.mk H
     clear H
     try go_wp2
     have n0_ := Aside0.mk (blk_drew BK1090.out)
     have n1_ := Aside0.mk (blk_drew BK1091.out)
     have n2_ := Aside0.mk (blk_drew BK1092.out)
     have n3_ := Aside0.mk (below_drew1 HB.out)
     clear BK1090
     clear BK1091
     clear BK1092
     clear HB
     have BK1090 := n0_
     have BK1091 := n1_
     have BK1092 := n2_
     have HB := n3_
     clear n0_ n1_ n2_ n3_
     refine start_ (n := 12) (S := fun w' => w'.cell? ⟨gb1090, 0, none⟩ = some (.int .i64 a0_0) ∧ w'.cell? ⟨gb1090, 1, none⟩ = some (.slice A0_1 l0_1.length c0_1) ∧ w'.cell? ⟨gb1091, 0, none⟩ = some (.int .i64 a1_0) ∧ w'.cell? ⟨gb1091, 1, none⟩ = some (.slice A1_1 l1_1.length c1_1)) (ds := []) #[false, false, false, false, false, false, false, false, false, false, false, false] (by kernel_rfl) rfl rfl ⟨(blk_cell BK1090.out 0).trans rfl, (blk_cell BK1090.out 1).trans rfl, (blk_cell BK1091.out 0).trans rfl, (blk_cell BK1091.out 1).trans rfl⟩ (fun hHeld => ?_); refine with_tabW spec_JoinSets.tab3 spec_JoinSets.bits3 (fun HT_ HW_ => ?_)
     generalize wc.drew = w26 at BK1090 BK1091 BK1092 HB hHeld ⊢
     refine pure_ (i := 0) (N := some 21) (v := ?_) (a' := ?_) #[true, false, false, false, false, false, false, false, false, false, false, false] rfl rfl (any_of HT_.out (by kernel_rfl)) (fun _ _ _ h => h) (Or.inl ⟨by rfl, ?_⟩) ?_ ?_
     rotate_left
     ·intro w'
      go_simp
      with_reducible rfl
     rotate_left
     ·simp only [Act.put, List.setIfInBounds_toArray, List.set_cons_zero, List.set_cons_succ, i64_w, i32_w]
      rfl
     refine pure_ (i := 2) (N := some 23) (v := ?_) (a' := ?_) #[true, false, true, false, false, false, false, false, false, false, false, false] rfl rfl (any_of HT_.out (by kernel_rfl)) (fun _ _ _ h => h) (Or.inl ⟨by rfl, ?_⟩) ?_ ?_
     rotate_left
     ·intro w'
      go_simp
      with_reducible rfl
     rotate_left
     ·simp only [Act.put, List.setIfInBounds_toArray, List.set_cons_zero, List.set_cons_succ, i64_w, i32_w]
      rfl
     refine pure_ (i := 6) (N := some 27) (v := ?_) (a' := ?_) #[true, false, true, false, false, false, true, false, false, false, false, false] rfl rfl (any_of HT_.out (by kernel_rfl)) (fun _ _ _ h => h) (Or.inl ⟨by rfl, ?_⟩) ?_ ?_
     rotate_left
     ·intro w'
      go_simp
      with_reducible rfl
     rotate_left
     ·simp only [Act.put, List.setIfInBounds_toArray, List.set_cons_zero, List.set_cons_succ, i64_w, i32_w]
      rfl
     refine take_ (i := 1) (N := some 22) (v := ?_) (a' := ?_) #[true, true, true, false, false, false, true, false, false, false, false, false] rfl rfl (take_ofW HT_.out HW_.out (by kernel_rfl)) (fun _ _ _ h => h) (Or.inl ⟨by rfl, ?_⟩) hHeld ?_ ?_
     rotate_left
     ·rintro w' ⟨s0, s1, s2, s3⟩
      go_simp
      with_reducible rfl
     rotate_left
     ·simp only [Act.put, List.setIfInBounds_toArray, List.set_cons_zero, List.set_cons_succ, i64_w, i32_w]
      rfl
     refine take_ (i := 3) (N := some 24) (v := ?_) (a' := ?_) #[true, true, true, true, false, false, true, false, false, false, false, false] rfl rfl (take_ofW HT_.out HW_.out (by kernel_rfl)) (fun _ _ _ h => h) (Or.inl ⟨by rfl, ?_⟩) hHeld ?_ ?_
     rotate_left
     ·rintro w' ⟨s0, s1, s2, s3⟩
      go_simp
      with_reducible rfl
     rotate_left
     ·simp only [Act.put, List.setIfInBounds_toArray, List.set_cons_zero, List.set_cons_succ, i64_w, i32_w]
      rfl
     refine pure_ (i := 4) (N := some 25) (v := ?_) (a' := ?_) #[true, true, true, true, true, false, true, false, false, false, false, false] rfl rfl (any_of HT_.out (by kernel_rfl)) (fun _ _ _ h => h) (Or.inl ⟨by rfl, ?_⟩) ?_ ?_
     rotate_left
     ·intro w'
      go_simp
      with_reducible rfl
     rotate_left
     ·simp only [Act.put, List.setIfInBounds_toArray, List.set_cons_zero, List.set_cons_succ, i64_w, i32_w]
      rfl
     refine take_ (i := 7) (N := some 28) (v := ?_) (a' := ?_) #[true, true, true, true, true, false, true, true, false, false, false, false] rfl rfl (take_ofW HT_.out HW_.out (by kernel_rfl)) (fun _ _ _ h => h) (Or.inl ⟨by rfl, ?_⟩) hHeld ?_ ?_
     rotate_left
     ·rintro w' ⟨s0, s1, s2, s3⟩
      go_simp
      with_reducible rfl
     rotate_left
     ·simp only [Act.put, List.setIfInBounds_toArray, List.set_cons_zero, List.set_cons_succ, i64_w, i32_w]
      rfl
     refine join_ (σ := Value × Value × Nat) 1 #[true, true, true, true, true, true, true, true, true, true, true, false] (fun s_ => [(26, s_.1), (29, s_.2.1), (6, .pointer (some ⟨s_.2.2, 0, none⟩)), (30, .agg #[.int .i64 (wrap64 (a0_0 + a1_0)), s_.2.1])]) (fun s_ w' => (w'.cell? ⟨gb1090, 0, none⟩ = some (.int .i64 a0_0) ∧ w'.cell? ⟨gb1090, 1, none⟩ = some (.slice A0_1 l0_1.length c0_1) ∧ w'.cell? ⟨gb1091, 0, none⟩ = some (.int .i64 a1_0) ∧ w'.cell? ⟨gb1091, 1, none⟩ = some (.slice A1_1 l1_1.length c1_1)) ∧ (Kd.R k45 45 w' w.heap.size (fun _ => True) s_.2.1 y1098) ∧ (w'.heap[gb1090]? = some (.cells #[.int .i64 a0_0, .slice A0_1 l0_1.length c0_1] 26 (0, 0))) ∧ (w'.heap[gb1091]? = some (.cells #[.int .i64 a1_0, .slice A1_1 l1_1.length c1_1] 26 (0, 0))) ∧ (w'.heap[gb1092]? = some (.cells #[.int .i64 0, .slice none 0 0] 26 (0, 0))) ∧ (w'.heap[s_.2.2]? = some (.cells #[.int .i64 0, .slice none 0 0] 26 (0, 0))) ∧ (w.heap.size ≤ s_.2.2) ∧ (w.heap.size ≤ s_.2.2) ∧ (gb1090 ≠ s_.2.2) ∧ (s_.2.2 ≠ gb1090) ∧ (gb1091 ≠ s_.2.2) ∧ (s_.2.2 ≠ gb1091) ∧ (gb1092 ≠ s_.2.2) ∧ (s_.2.2 ≠ gb1092) ∧ (Below w.heap.size w w')) ?_ ?_
     rotate_left
     ·intro hCont
      refine two_ (i := 5) (j := 10) (Ni := some 26) (Nj := some 6) #[true, true, true, true, true, true, true, true, false, false, false, false] #[true, true, true, true, true, false, true, true, false, false, true, false] rfl rfl rfl rfl (two_of HT_.out (by kernel_rfl)) (by decide) (by decide) (fun K hK => ?_) (fun K hK => ?_)
      ·skip
       refine Kd.R_lit_step k45 _ 45 ?hg (N := 26) ?hd (xs := ([] : List (S45))) (inner := []) (ok := fun _ => True) (okp := fun _ => True) ?hr ?hp (fun _ hk => hk) trivial (Below.refl _ _) (Nat.le_refl _) (by simp) ?_; (case hd => rfl); (case hg => rfl); (case hr => first | (go_simp; done) | (go_simp; rfl)); (case hp => exact (Reps.none _ _))
       intro v1096 w27 ho28 hb hg_ hnew_
       clear hg_ hnew_
       (first | rw [← Ny1095.out] at ho28 | (simp only [Int.reduceToNat] at ho28; rw [← Ny1095.out] at ho28))
       have n0_ := Aside0.mk (Kd.R_lower ho28 (below_size (by repeat (first | (with_reducible first | exact HB.out | apply below_alloc | apply pw_below_drewN | apply below_drew1 | refine below_set ?_ GE1090.out | refine below_set ?_ GE1091.out | refine below_set ?_ GE1092.out) | exact HB.out))))
       have n1_ := Aside0.mk (blk_below (g := gb1090) (o := .cells #[.int .i64 a0_0, .slice A0_1 l0_1.length c0_1] 26 (0, 0)) (by (with_reducible repeat (first | refine blk_drewN ?_ _ | refine blk_drew ?_ | refine blk_alloc ?_ _)); exact BK1090.out) hb)
       have n2_ := Aside0.mk (blk_below (g := gb1091) (o := .cells #[.int .i64 a1_0, .slice A1_1 l1_1.length c1_1] 26 (0, 0)) (by (with_reducible repeat (first | refine blk_drewN ?_ _ | refine blk_drew ?_ | refine blk_alloc ?_ _)); exact BK1091.out) hb)
       have n3_ := Aside0.mk (blk_below (g := gb1092) (o := .cells #[.int .i64 0, .slice none 0 0] 26 (0, 0)) (by (with_reducible repeat (first | refine blk_drewN ?_ _ | refine blk_drew ?_ | refine blk_alloc ?_ _)); exact BK1092.out) hb)
       have n4_ := Aside0.mk (below_step (by repeat (first | (with_reducible first | exact HB.out | apply below_alloc | apply pw_below_drewN | apply below_drew1 | refine below_set ?_ GE1090.out | refine below_set ?_ GE1091.out | refine below_set ?_ GE1092.out) | exact HB.out)) hb)
       clear BK1090
       clear BK1091
       clear BK1092
       clear HB
       have HO1097 := n0_
       have BK1090 := n1_
       have BK1091 := n2_
       have BK1092 := n3_
       have HB := n4_
       clear n0_ n1_ n2_ n3_ n4_
       clear hb ho28
       refine hK.out _ _ ⟨(blk_cell BK1090.out 0).trans rfl, (blk_cell BK1090.out 1).trans rfl, (blk_cell BK1091.out 0).trans rfl, (blk_cell BK1091.out 1).trans rfl⟩ (fun hHeld => ?_)
       clear hK K
       refine norm_ (a' := ?_) ?_ ?_
       rotate_left
       ·show Act.put _ (some 26) _ = _
        simp only [Act.put, List.setIfInBounds_toArray, List.set_cons_zero, List.set_cons_succ, i64_w, i32_w]
        rfl
       refine two_ (i := 8) (j := 10) (Ni := some 29) (Nj := some 6) #[true, true, true, true, true, true, true, true, true, false, false, false] #[true, true, true, true, true, true, true, true, false, false, true, false] rfl rfl rfl rfl (two_of HT_.out (by kernel_rfl)) (by decide) (by decide) (fun K hK => ?_) (fun K hK => ?_)
       ·skip
        refine Kd.R_append_rows_step k45 (w0 := w) w.heap.size (by rfl) (.tmp 26) (.tmp 28) 24 45 (.agg #[(.int .i64 0), (.int .i64 0), (.int .i64 0), (.int .i64 0)]) 32 rfl Try.underlying24 info45 rfl (by decide) (by omega) v1096 y1095 l0_1 _ _ _ (fun _ => True) (fun _ => False) rfl rfl ?aO ?aR (fun _ _ h => h) (fun _ h => h.elim) ?aF ?aB ?aS ?aL ?_
        (case aR => repeat (first | exact (Kd.C_below HR0_1.out HB.out) | (with_reducible refine Kd.C_alloc ?_ _) | (with_reducible refine Kd.C_drewN ?_ _) | (with_reducible refine Kd.C_drew ?_)))
        (case aB => exact (by repeat (first | (with_reducible first | exact HB.out | apply below_alloc | apply pw_below_drewN | apply below_drew1 | refine below_set ?_ GE1090.out | refine below_set ?_ GE1091.out | refine below_set ?_ GE1092.out) | exact HB.out)))
        (case aF => exact (fun _ _ => trivial))
        (case aO => exact (by (with_reducible repeat (first | apply Kd.R_alloc | apply Kd.R_drewN | apply Kd.R_drew)); exact HO1097.out))
        (case aS => exact (below_size (by repeat (first | (with_reducible first | exact HB.out | apply below_alloc | apply pw_below_drewN | apply below_drew1 | refine below_set ?_ GE1090.out | refine below_set ?_ GE1091.out | refine below_set ?_ GE1092.out) | exact HB.out))))
        (case aL => have := LMc25.out; omega)
        intro v1099 w29 ho hb hg hat
        rw [← Ny1098.out] at ho
        have n0_ := Aside0.mk (blk_grown (g := gb1090) (o := .cells #[.int .i64 a0_0, .slice A0_1 l0_1.length c0_1] 26 (0, 0)) (by (with_reducible repeat (first | refine blk_drewN ?_ _ | refine blk_drew ?_ | refine blk_alloc ?_ _)); exact BK1090.out) hg (Kd.R_ne HO1097.out BK1090.out (by decide)))
        have n1_ := Aside0.mk (blk_grown (g := gb1091) (o := .cells #[.int .i64 a1_0, .slice A1_1 l1_1.length c1_1] 26 (0, 0)) (by (with_reducible repeat (first | refine blk_drewN ?_ _ | refine blk_drew ?_ | refine blk_alloc ?_ _)); exact BK1091.out) hg (Kd.R_ne HO1097.out BK1091.out (by decide)))
        have n2_ := Aside0.mk (blk_grown (g := gb1092) (o := .cells #[.int .i64 0, .slice none 0 0] 26 (0, 0)) (by (with_reducible repeat (first | refine blk_drewN ?_ _ | refine blk_drew ?_ | refine blk_alloc ?_ _)); exact BK1092.out) hg (Kd.R_ne HO1097.out BK1092.out (by decide)))
        have n3_ := Aside0.mk (hb)
        have n4_ := Aside0.mk (ho)
        clear BK1090
        clear BK1091
        clear BK1092
        clear HB
        clear HO1097
        have BK1090 := n0_
        have BK1091 := n1_
        have BK1092 := n2_
        have HB := n3_
        have HO1100 := n4_
        clear n0_ n1_ n2_ n3_ n4_
        clear ho hb hg hat
        obtain ⟨Ao30, co30, eo30⟩ := Kd.R_slice HO1100.out
        (first | subst eo30 | (injection eo30 with f1_ f2_ f3_; have f4_ := f1_.symm; have f5_ := f3_.symm; clear f1_ f2_ f3_; subst f4_; subst f5_))
        refine hK.out _ _ ⟨(blk_cell BK1090.out 0).trans rfl, (blk_cell BK1090.out 1).trans rfl, (blk_cell BK1091.out 0).trans rfl, (blk_cell BK1091.out 1).trans rfl⟩ (fun hHeld => ?_)
        clear hK K
        refine norm_ (a' := ?_) ?_ ?_
        rotate_left
        ·show Act.put _ (some 29) _ = _
         simp only [Act.put, List.setIfInBounds_toArray, List.set_cons_zero, List.set_cons_succ, i64_w, i32_w]
         rfl
        refine pure_ (i := 9) (N := some 30) (v := ?_) (a' := ?_) #[true, true, true, true, true, true, true, true, true, true, false, false] rfl rfl (any_of HT_.out (by kernel_rfl)) (fun _ _ _ h => h) (Or.inl ⟨by rfl, ?_⟩) ?_ ?_
        rotate_left
        ·intro w'
         go_simp
         with_reducible rfl
        rotate_left
        ·simp only [Act.put, List.setIfInBounds_toArray, List.set_cons_zero, List.set_cons_succ, i64_w, i32_w]
         rfl
        refine one_ (i := 10) (N := some 6) #[true, true, true, true, true, true, true, true, true, true, true, false] rfl rfl (one_of HT_.out (by kernel_rfl)) (by decide) (fun K hK => ?_)
        refine box_step ?hg (N := 6) ?hd (cs := #[.int .i64 0, .slice none 0 0]) (t := 26) ?hr ?_; (case hd => rfl); (case hg => rfl); (case hr => first | (go_simp; done) | (go_simp; rfl))
        intro gb1101 hg w31 hbox hb
        have n0_ := Aside0.mk (Kd.R_below (by (with_reducible repeat (first | apply Kd.R_alloc | apply Kd.R_drewN | apply Kd.R_drew)); exact HO1100.out) hb)
        have n1_ := Aside0.mk (blk_below (g := gb1090) (o := .cells #[.int .i64 a0_0, .slice A0_1 l0_1.length c0_1] 26 (0, 0)) (by (with_reducible repeat (first | refine blk_drewN ?_ _ | refine blk_drew ?_ | refine blk_alloc ?_ _)); exact BK1090.out) hb)
        have n2_ := Aside0.mk (blk_below (g := gb1091) (o := .cells #[.int .i64 a1_0, .slice A1_1 l1_1.length c1_1] 26 (0, 0)) (by (with_reducible repeat (first | refine blk_drewN ?_ _ | refine blk_drew ?_ | refine blk_alloc ?_ _)); exact BK1091.out) hb)
        have n3_ := Aside0.mk (blk_below (g := gb1092) (o := .cells #[.int .i64 0, .slice none 0 0] 26 (0, 0)) (by (with_reducible repeat (first | refine blk_drewN ?_ _ | refine blk_drew ?_ | refine blk_alloc ?_ _)); exact BK1092.out) hb)
        have n4_ := Aside0.mk (below_step (by repeat (first | (with_reducible first | exact HB.out | apply below_alloc | apply pw_below_drewN | apply below_drew1 | refine below_set ?_ GE1090.out | refine below_set ?_ GE1091.out | refine below_set ?_ GE1092.out) | exact HB.out)) hb)
        have n5_ := Aside0.mk (hbox)
        have n6_ := Aside0.mk ((by rw [hg]; exact (below_size (by repeat (first | (with_reducible first | exact HB.out | apply below_alloc | apply pw_below_drewN | apply below_drew1 | refine below_set ?_ GE1090.out | refine below_set ?_ GE1091.out | refine below_set ?_ GE1092.out) | exact HB.out))) : w.heap.size ≤ gb1101))
        have n7_ := Aside0.mk ((by rw [hg]; exact (below_size (by repeat (first | (with_reducible first | exact HB.out | apply below_alloc | apply pw_below_drewN | apply below_drew1 | refine below_set ?_ GE1090.out | refine below_set ?_ GE1091.out | refine below_set ?_ GE1092.out) | exact HB.out))) : w.heap.size ≤ gb1101))
        have n8_ := Aside0.mk ((by rw [hg]; exact Nat.ne_of_lt (blk_lt (g := gb1090) (o := .cells #[.int .i64 a0_0, .slice A0_1 l0_1.length c0_1] 26 (0, 0)) (by (with_reducible repeat (first | refine blk_drewN ?_ _ | refine blk_drew ?_ | refine blk_alloc ?_ _)); exact BK1090.out)) : gb1090 ≠ gb1101))
        have n9_ := Aside0.mk ((by rw [hg]; exact Nat.ne_of_gt (blk_lt (g := gb1090) (o := .cells #[.int .i64 a0_0, .slice A0_1 l0_1.length c0_1] 26 (0, 0)) (by (with_reducible repeat (first | refine blk_drewN ?_ _ | refine blk_drew ?_ | refine blk_alloc ?_ _)); exact BK1090.out)) : gb1101 ≠ gb1090))
        have n10_ := Aside0.mk ((by rw [hg]; exact Nat.ne_of_lt (blk_lt (g := gb1091) (o := .cells #[.int .i64 a1_0, .slice A1_1 l1_1.length c1_1] 26 (0, 0)) (by (with_reducible repeat (first | refine blk_drewN ?_ _ | refine blk_drew ?_ | refine blk_alloc ?_ _)); exact BK1091.out)) : gb1091 ≠ gb1101))
        have n11_ := Aside0.mk ((by rw [hg]; exact Nat.ne_of_gt (blk_lt (g := gb1091) (o := .cells #[.int .i64 a1_0, .slice A1_1 l1_1.length c1_1] 26 (0, 0)) (by (with_reducible repeat (first | refine blk_drewN ?_ _ | refine blk_drew ?_ | refine blk_alloc ?_ _)); exact BK1091.out)) : gb1101 ≠ gb1091))
        have n12_ := Aside0.mk ((by rw [hg]; exact Nat.ne_of_lt (blk_lt (g := gb1092) (o := .cells #[.int .i64 0, .slice none 0 0] 26 (0, 0)) (by (with_reducible repeat (first | refine blk_drewN ?_ _ | refine blk_drew ?_ | refine blk_alloc ?_ _)); exact BK1092.out)) : gb1092 ≠ gb1101))
        have n13_ := Aside0.mk ((by rw [hg]; exact Nat.ne_of_gt (blk_lt (g := gb1092) (o := .cells #[.int .i64 0, .slice none 0 0] 26 (0, 0)) (by (with_reducible repeat (first | refine blk_drewN ?_ _ | refine blk_drew ?_ | refine blk_alloc ?_ _)); exact BK1092.out)) : gb1101 ≠ gb1092))
        clear HO1100
        clear BK1090
        clear BK1091
        clear BK1092
        clear HB
        have HO1100 := n0_
        have BK1090 := n1_
        have BK1091 := n2_
        have BK1092 := n3_
        have HB := n4_
        have BK1101 := n5_
        have GW1101 := n6_
        have GE1101 := n7_
        have NB1090_1101 := n8_
        have NB1101_1090 := n9_
        have NB1091_1101 := n10_
        have NB1101_1091 := n11_
        have NB1092_1101 := n12_
        have NB1101_1092 := n13_
        clear n0_ n1_ n2_ n3_ n4_ n5_ n6_ n7_ n8_ n9_ n10_ n11_ n12_ n13_
        clear hb hbox hg
        refine hK.out _ _ ⟨(blk_cell BK1090.out 0).trans rfl, (blk_cell BK1090.out 1).trans rfl, (blk_cell BK1091.out 0).trans rfl, (blk_cell BK1091.out 1).trans rfl⟩ (fun hHeld => ?_)
        clear hK K
        refine norm_ (a' := ?_) ?_ ?_
        rotate_left
        ·show Act.put _ (some 6) _ = _
         simp only [Act.put, List.setIfInBounds_toArray, List.set_cons_zero, List.set_cons_succ, i64_w, i32_w]
         rfl
        exact norm_ (by simp only [putAll, Act.put, List.setIfInBounds_toArray, List.set_cons_zero, List.set_cons_succ]) (hCont (v1096, .slice Ao30 y1098.length co30, gb1101) _ ⟨hHeld, (by (with_reducible repeat (first | apply Kd.R_alloc | apply Kd.R_drewN | apply Kd.R_drew)); exact HO1100.out), (by (with_reducible repeat (first | refine blk_drewN ?_ _ | refine blk_drew ?_ | refine blk_alloc ?_ _)); exact BK1090.out), (by (with_reducible repeat (first | refine blk_drewN ?_ _ | refine blk_drew ?_ | refine blk_alloc ?_ _)); exact BK1091.out), (by (with_reducible repeat (first | refine blk_drewN ?_ _ | refine blk_drew ?_ | refine blk_alloc ?_ _)); exact BK1092.out), (by (with_reducible repeat (first | refine blk_drewN ?_ _ | refine blk_drew ?_ | refine blk_alloc ?_ _)); exact BK1101.out), GW1101.out, GE1101.out, NB1090_1101.out, NB1101_1090.out, NB1091_1101.out, NB1101_1091.out, NB1092_1101.out, NB1101_1092.out, (by repeat (first | (with_reducible first | exact HB.out | apply below_alloc | apply pw_below_drewN | apply below_drew1 | refine below_set ?_ GE1090.out | refine below_set ?_ GE1091.out | refine below_set ?_ GE1092.out | refine below_set ?_ GE1101.out) | exact HB.out))⟩)
       ·skip
        refine box_step ?hg (N := 6) ?hd (cs := #[.int .i64 0, .slice none 0 0]) (t := 26) ?hr ?_; (case hd => rfl); (case hg => rfl); (case hr => first | (go_simp; done) | (go_simp; rfl))
        intro gb1101 hg w29 hbox hb
        have n0_ := Aside0.mk (Kd.R_below (by (with_reducible repeat (first | apply Kd.R_alloc | apply Kd.R_drewN | apply Kd.R_drew)); exact HO1097.out) hb)
        have n1_ := Aside0.mk (blk_below (g := gb1090) (o := .cells #[.int .i64 a0_0, .slice A0_1 l0_1.length c0_1] 26 (0, 0)) (by (with_reducible repeat (first | refine blk_drewN ?_ _ | refine blk_drew ?_ | refine blk_alloc ?_ _)); exact BK1090.out) hb)
        have n2_ := Aside0.mk (blk_below (g := gb1091) (o := .cells #[.int .i64 a1_0, .slice A1_1 l1_1.length c1_1] 26 (0, 0)) (by (with_reducible repeat (first | refine blk_drewN ?_ _ | refine blk_drew ?_ | refine blk_alloc ?_ _)); exact BK1091.out) hb)
        have n3_ := Aside0.mk (blk_below (g := gb1092) (o := .cells #[.int .i64 0, .slice none 0 0] 26 (0, 0)) (by (with_reducible repeat (first | refine blk_drewN ?_ _ | refine blk_drew ?_ | refine blk_alloc ?_ _)); exact BK1092.out) hb)
        have n4_ := Aside0.mk (below_step (by repeat (first | (with_reducible first | exact HB.out | apply below_alloc | apply pw_below_drewN | apply below_drew1 | refine below_set ?_ GE1090.out | refine below_set ?_ GE1091.out | refine below_set ?_ GE1092.out) | exact HB.out)) hb)
        have n5_ := Aside0.mk (hbox)
        have n6_ := Aside0.mk ((by rw [hg]; exact (below_size (by repeat (first | (with_reducible first | exact HB.out | apply below_alloc | apply pw_below_drewN | apply below_drew1 | refine below_set ?_ GE1090.out | refine below_set ?_ GE1091.out | refine below_set ?_ GE1092.out) | exact HB.out))) : w.heap.size ≤ gb1101))
        have n7_ := Aside0.mk ((by rw [hg]; exact (below_size (by repeat (first | (with_reducible first | exact HB.out | apply below_alloc | apply pw_below_drewN | apply below_drew1 | refine below_set ?_ GE1090.out | refine below_set ?_ GE1091.out | refine below_set ?_ GE1092.out) | exact HB.out))) : w.heap.size ≤ gb1101))
        have n8_ := Aside0.mk ((by rw [hg]; exact Nat.ne_of_lt (blk_lt (g := gb1090) (o := .cells #[.int .i64 a0_0, .slice A0_1 l0_1.length c0_1] 26 (0, 0)) (by (with_reducible repeat (first | refine blk_drewN ?_ _ | refine blk_drew ?_ | refine blk_alloc ?_ _)); exact BK1090.out)) : gb1090 ≠ gb1101))
        have n9_ := Aside0.mk ((by rw [hg]; exact Nat.ne_of_gt (blk_lt (g := gb1090) (o := .cells #[.int .i64 a0_0, .slice A0_1 l0_1.length c0_1] 26 (0, 0)) (by (with_reducible repeat (first | refine blk_drewN ?_ _ | refine blk_drew ?_ | refine blk_alloc ?_ _)); exact BK1090.out)) : gb1101 ≠ gb1090))
        have n10_ := Aside0.mk ((by rw [hg]; exact Nat.ne_of_lt (blk_lt (g := gb1091) (o := .cells #[.int .i64 a1_0, .slice A1_1 l1_1.length c1_1] 26 (0, 0)) (by (with_reducible repeat (first | refine blk_drewN ?_ _ | refine blk_drew ?_ | refine blk_alloc ?_ _)); exact BK1091.out)) : gb1091 ≠ gb1101))
        have n11_ := Aside0.mk ((by rw [hg]; exact Nat.ne_of_gt (blk_lt (g := gb1091) (o := .cells #[.int .i64 a1_0, .slice A1_1 l1_1.length c1_1] 26 (0, 0)) (by (with_reducible repeat (first | refine blk_drewN ?_ _ | refine blk_drew ?_ | refine blk_alloc ?_ _)); exact BK1091.out)) : gb1101 ≠ gb1091))
        have n12_ := Aside0.mk ((by rw [hg]; exact Nat.ne_of_lt (blk_lt (g := gb1092) (o := .cells #[.int .i64 0, .slice none 0 0] 26 (0, 0)) (by (with_reducible repeat (first | refine blk_drewN ?_ _ | refine blk_drew ?_ | refine blk_alloc ?_ _)); exact BK1092.out)) : gb1092 ≠ gb1101))
        have n13_ := Aside0.mk ((by rw [hg]; exact Nat.ne_of_gt (blk_lt (g := gb1092) (o := .cells #[.int .i64 0, .slice none 0 0] 26 (0, 0)) (by (with_reducible repeat (first | refine blk_drewN ?_ _ | refine blk_drew ?_ | refine blk_alloc ?_ _)); exact BK1092.out)) : gb1101 ≠ gb1092))
        clear HO1097
        clear BK1090
        clear BK1091
        clear BK1092
        clear HB
        have HO1097 := n0_
        have BK1090 := n1_
        have BK1091 := n2_
        have BK1092 := n3_
        have HB := n4_
        have BK1101 := n5_
        have GW1101 := n6_
        have GE1101 := n7_
        have NB1090_1101 := n8_
        have NB1101_1090 := n9_
        have NB1091_1101 := n10_
        have NB1101_1091 := n11_
        have NB1092_1101 := n12_
        have NB1101_1092 := n13_
        clear n0_ n1_ n2_ n3_ n4_ n5_ n6_ n7_ n8_ n9_ n10_ n11_ n12_ n13_
        clear hb hbox hg
        refine hK.out _ _ ⟨(blk_cell BK1090.out 0).trans rfl, (blk_cell BK1090.out 1).trans rfl, (blk_cell BK1091.out 0).trans rfl, (blk_cell BK1091.out 1).trans rfl⟩ (fun hHeld => ?_)
        clear hK K
        refine norm_ (a' := ?_) ?_ ?_
        rotate_left
        ·show Act.put _ (some 6) _ = _
         simp only [Act.put, List.setIfInBounds_toArray, List.set_cons_zero, List.set_cons_succ, i64_w, i32_w]
         rfl
        refine one_ (i := 8) (N := some 29) #[true, true, true, true, true, true, true, true, true, false, true, false] rfl rfl (one_of HT_.out (by kernel_rfl)) (by decide) (fun K hK => ?_)
        refine Kd.R_append_rows_step k45 (w0 := w) w.heap.size (by rfl) (.tmp 26) (.tmp 28) 24 45 (.agg #[(.int .i64 0), (.int .i64 0), (.int .i64 0), (.int .i64 0)]) 32 rfl Try.underlying24 info45 rfl (by decide) (by omega) v1096 y1095 l0_1 _ _ _ (fun _ => True) (fun _ => False) rfl rfl ?aO ?aR (fun _ _ h => h) (fun _ h => h.elim) ?aF ?aB ?aS ?aL ?_
        (case aR => repeat (first | exact (Kd.C_below HR0_1.out HB.out) | (with_reducible refine Kd.C_alloc ?_ _) | (with_reducible refine Kd.C_drewN ?_ _) | (with_reducible refine Kd.C_drew ?_)))
        (case aB => exact (by repeat (first | (with_reducible first | exact HB.out | apply below_alloc | apply pw_below_drewN | apply below_drew1 | refine below_set ?_ GE1090.out | refine below_set ?_ GE1091.out | refine below_set ?_ GE1092.out | refine below_set ?_ GE1101.out) | exact HB.out)))
        (case aF => exact (fun _ _ => trivial))
        (case aO => exact (by (with_reducible repeat (first | apply Kd.R_alloc | apply Kd.R_drewN | apply Kd.R_drew)); exact HO1097.out))
        (case aS => exact (below_size (by repeat (first | (with_reducible first | exact HB.out | apply below_alloc | apply pw_below_drewN | apply below_drew1 | refine below_set ?_ GE1090.out | refine below_set ?_ GE1091.out | refine below_set ?_ GE1092.out | refine below_set ?_ GE1101.out) | exact HB.out))))
        (case aL => have := LMc25.out; omega)
        intro v1099 w30 ho hb hg hat
        rw [← Ny1098.out] at ho
        have n0_ := Aside0.mk (blk_grown (g := gb1090) (o := .cells #[.int .i64 a0_0, .slice A0_1 l0_1.length c0_1] 26 (0, 0)) (by (with_reducible repeat (first | refine blk_drewN ?_ _ | refine blk_drew ?_ | refine blk_alloc ?_ _)); exact BK1090.out) hg (Kd.R_ne HO1097.out BK1090.out (by decide)))
        have n1_ := Aside0.mk (blk_grown (g := gb1091) (o := .cells #[.int .i64 a1_0, .slice A1_1 l1_1.length c1_1] 26 (0, 0)) (by (with_reducible repeat (first | refine blk_drewN ?_ _ | refine blk_drew ?_ | refine blk_alloc ?_ _)); exact BK1091.out) hg (Kd.R_ne HO1097.out BK1091.out (by decide)))
        have n2_ := Aside0.mk (blk_grown (g := gb1092) (o := .cells #[.int .i64 0, .slice none 0 0] 26 (0, 0)) (by (with_reducible repeat (first | refine blk_drewN ?_ _ | refine blk_drew ?_ | refine blk_alloc ?_ _)); exact BK1092.out) hg (Kd.R_ne HO1097.out BK1092.out (by decide)))
        have n3_ := Aside0.mk (blk_grown (g := gb1101) (o := .cells #[.int .i64 0, .slice none 0 0] 26 (0, 0)) (by (with_reducible repeat (first | refine blk_drewN ?_ _ | refine blk_drew ?_ | refine blk_alloc ?_ _)); exact BK1101.out) hg (Kd.R_ne HO1097.out BK1101.out (by decide)))
        have n4_ := Aside0.mk (hb)
        have n5_ := Aside0.mk (ho)
        clear BK1090
        clear BK1091
        clear BK1092
        clear BK1101
        clear HB
        clear HO1097
        have BK1090 := n0_
        have BK1091 := n1_
        have BK1092 := n2_
        have BK1101 := n3_
        have HB := n4_
        have HO1100 := n5_
        clear n0_ n1_ n2_ n3_ n4_ n5_
        clear ho hb hg hat
        obtain ⟨Ao31, co31, eo31⟩ := Kd.R_slice HO1100.out
        (first | subst eo31 | (injection eo31 with f1_ f2_ f3_; have f4_ := f1_.symm; have f5_ := f3_.symm; clear f1_ f2_ f3_; subst f4_; subst f5_))
        refine hK.out _ _ ⟨(blk_cell BK1090.out 0).trans rfl, (blk_cell BK1090.out 1).trans rfl, (blk_cell BK1091.out 0).trans rfl, (blk_cell BK1091.out 1).trans rfl⟩ (fun hHeld => ?_)
        clear hK K
        refine norm_ (a' := ?_) ?_ ?_
        rotate_left
        ·show Act.put _ (some 29) _ = _
         simp only [Act.put, List.setIfInBounds_toArray, List.set_cons_zero, List.set_cons_succ, i64_w, i32_w]
         rfl
        refine pure_ (i := 9) (N := some 30) (v := ?_) (a' := ?_) #[true, true, true, true, true, true, true, true, true, true, true, false] rfl rfl (any_of HT_.out (by kernel_rfl)) (fun _ _ _ h => h) (Or.inl ⟨by rfl, ?_⟩) ?_ ?_
        rotate_left
        ·intro w'
         go_simp
         with_reducible rfl
        rotate_left
        ·simp only [Act.put, List.setIfInBounds_toArray, List.set_cons_zero, List.set_cons_succ, i64_w, i32_w]
         rfl
        exact norm_ (by simp only [putAll, Act.put, List.setIfInBounds_toArray, List.set_cons_zero, List.set_cons_succ]) (hCont (v1096, .slice Ao31 y1098.length co31, gb1101) _ ⟨hHeld, (by (with_reducible repeat (first | apply Kd.R_alloc | apply Kd.R_drewN | apply Kd.R_drew)); exact HO1100.out), (by (with_reducible repeat (first | refine blk_drewN ?_ _ | refine blk_drew ?_ | refine blk_alloc ?_ _)); exact BK1090.out), (by (with_reducible repeat (first | refine blk_drewN ?_ _ | refine blk_drew ?_ | refine blk_alloc ?_ _)); exact BK1091.out), (by (with_reducible repeat (first | refine blk_drewN ?_ _ | refine blk_drew ?_ | refine blk_alloc ?_ _)); exact BK1092.out), (by (with_reducible repeat (first | refine blk_drewN ?_ _ | refine blk_drew ?_ | refine blk_alloc ?_ _)); exact BK1101.out), GW1101.out, GE1101.out, NB1090_1101.out, NB1101_1090.out, NB1091_1101.out, NB1101_1091.out, NB1092_1101.out, NB1101_1092.out, (by repeat (first | (with_reducible first | exact HB.out | apply below_alloc | apply pw_below_drewN | apply below_drew1 | refine below_set ?_ GE1090.out | refine below_set ?_ GE1091.out | refine below_set ?_ GE1092.out | refine below_set ?_ GE1101.out) | exact HB.out))⟩)
      ·skip
       refine box_step ?hg (N := 6) ?hd (cs := #[.int .i64 0, .slice none 0 0]) (t := 26) ?hr ?_; (case hd => rfl); (case hg => rfl); (case hr => first | (go_simp; done) | (go_simp; rfl))
       intro gb1101 hg w27 hbox hb
       have n0_ := Aside0.mk (blk_below (g := gb1090) (o := .cells #[.int .i64 a0_0, .slice A0_1 l0_1.length c0_1] 26 (0, 0)) (by (with_reducible repeat (first | refine blk_drewN ?_ _ | refine blk_drew ?_ | refine blk_alloc ?_ _)); exact BK1090.out) hb)
       have n1_ := Aside0.mk (blk_below (g := gb1091) (o := .cells #[.int .i64 a1_0, .slice A1_1 l1_1.length c1_1] 26 (0, 0)) (by (with_reducible repeat (first | refine blk_drewN ?_ _ | refine blk_drew ?_ | refine blk_alloc ?_ _)); exact BK1091.out) hb)
       have n2_ := Aside0.mk (blk_below (g := gb1092) (o := .cells #[.int .i64 0, .slice none 0 0] 26 (0, 0)) (by (with_reducible repeat (first | refine blk_drewN ?_ _ | refine blk_drew ?_ | refine blk_alloc ?_ _)); exact BK1092.out) hb)
       have n3_ := Aside0.mk (below_step (by repeat (first | (with_reducible first | exact HB.out | apply below_alloc | apply pw_below_drewN | apply below_drew1 | refine below_set ?_ GE1090.out | refine below_set ?_ GE1091.out | refine below_set ?_ GE1092.out) | exact HB.out)) hb)
       have n4_ := Aside0.mk (hbox)
       have n5_ := Aside0.mk ((by rw [hg]; exact (below_size (by repeat (first | (with_reducible first | exact HB.out | apply below_alloc | apply pw_below_drewN | apply below_drew1 | refine below_set ?_ GE1090.out | refine below_set ?_ GE1091.out | refine below_set ?_ GE1092.out) | exact HB.out))) : w.heap.size ≤ gb1101))
       have n6_ := Aside0.mk ((by rw [hg]; exact (below_size (by repeat (first | (with_reducible first | exact HB.out | apply below_alloc | apply pw_below_drewN | apply below_drew1 | refine below_set ?_ GE1090.out | refine below_set ?_ GE1091.out | refine below_set ?_ GE1092.out) | exact HB.out))) : w.heap.size ≤ gb1101))
       have n7_ := Aside0.mk ((by rw [hg]; exact Nat.ne_of_lt (blk_lt (g := gb1090) (o := .cells #[.int .i64 a0_0, .slice A0_1 l0_1.length c0_1] 26 (0, 0)) (by (with_reducible repeat (first | refine blk_drewN ?_ _ | refine blk_drew ?_ | refine blk_alloc ?_ _)); exact BK1090.out)) : gb1090 ≠ gb1101))
       have n8_ := Aside0.mk ((by rw [hg]; exact Nat.ne_of_gt (blk_lt (g := gb1090) (o := .cells #[.int .i64 a0_0, .slice A0_1 l0_1.length c0_1] 26 (0, 0)) (by (with_reducible repeat (first | refine blk_drewN ?_ _ | refine blk_drew ?_ | refine blk_alloc ?_ _)); exact BK1090.out)) : gb1101 ≠ gb1090))
       have n9_ := Aside0.mk ((by rw [hg]; exact Nat.ne_of_lt (blk_lt (g := gb1091) (o := .cells #[.int .i64 a1_0, .slice A1_1 l1_1.length c1_1] 26 (0, 0)) (by (with_reducible repeat (first | refine blk_drewN ?_ _ | refine blk_drew ?_ | refine blk_alloc ?_ _)); exact BK1091.out)) : gb1091 ≠ gb1101))
       have n10_ := Aside0.mk ((by rw [hg]; exact Nat.ne_of_gt (blk_lt (g := gb1091) (o := .cells #[.int .i64 a1_0, .slice A1_1 l1_1.length c1_1] 26 (0, 0)) (by (with_reducible repeat (first | refine blk_drewN ?_ _ | refine blk_drew ?_ | refine blk_alloc ?_ _)); exact BK1091.out)) : gb1101 ≠ gb1091))
       have n11_ := Aside0.mk ((by rw [hg]; exact Nat.ne_of_lt (blk_lt (g := gb1092) (o := .cells #[.int .i64 0, .slice none 0 0] 26 (0, 0)) (by (with_reducible repeat (first | refine blk_drewN ?_ _ | refine blk_drew ?_ | refine blk_alloc ?_ _)); exact BK1092.out)) : gb1092 ≠ gb1101))
       have n12_ := Aside0.mk ((by rw [hg]; exact Nat.ne_of_gt (blk_lt (g := gb1092) (o := .cells #[.int .i64 0, .slice none 0 0] 26 (0, 0)) (by (with_reducible repeat (first | refine blk_drewN ?_ _ | refine blk_drew ?_ | refine blk_alloc ?_ _)); exact BK1092.out)) : gb1101 ≠ gb1092))
       clear BK1090
       clear BK1091
       clear BK1092
       clear HB
       have BK1090 := n0_
       have BK1091 := n1_
       have BK1092 := n2_
       have HB := n3_
       have BK1101 := n4_
       have GW1101 := n5_
       have GE1101 := n6_
       have NB1090_1101 := n7_
       have NB1101_1090 := n8_
       have NB1091_1101 := n9_
       have NB1101_1091 := n10_
       have NB1092_1101 := n11_
       have NB1101_1092 := n12_
       clear n0_ n1_ n2_ n3_ n4_ n5_ n6_ n7_ n8_ n9_ n10_ n11_ n12_
       clear hb hbox hg
       refine hK.out _ _ ⟨(blk_cell BK1090.out 0).trans rfl, (blk_cell BK1090.out 1).trans rfl, (blk_cell BK1091.out 0).trans rfl, (blk_cell BK1091.out 1).trans rfl⟩ (fun hHeld => ?_)
       clear hK K
       refine norm_ (a' := ?_) ?_ ?_
       rotate_left
       ·show Act.put _ (some 6) _ = _
        simp only [Act.put, List.setIfInBounds_toArray, List.set_cons_zero, List.set_cons_succ, i64_w, i32_w]
        rfl
       refine one_ (i := 5) (N := some 26) #[true, true, true, true, true, true, true, true, false, false, true, false] rfl rfl (one_of HT_.out (by kernel_rfl)) (by decide) (fun K hK => ?_)
       refine Kd.R_lit_step k45 _ 45 ?hg (N := 26) ?hd (xs := ([] : List (S45))) (inner := []) (ok := fun _ => True) (okp := fun _ => True) ?hr ?hp (fun _ hk => hk) trivial (Below.refl _ _) (Nat.le_refl _) (by simp) ?_; (case hd => rfl); (case hg => rfl); (case hr => first | (go_simp; done) | (go_simp; rfl)); (case hp => exact (Reps.none _ _))
       intro v1096 w28 ho29 hb hg_ hnew_
       clear hg_ hnew_
       (first | rw [← Ny1095.out] at ho29 | (simp only [Int.reduceToNat] at ho29; rw [← Ny1095.out] at ho29))
       have n0_ := Aside0.mk (Kd.R_lower ho29 (below_size (by repeat (first | (with_reducible first | exact HB.out | apply below_alloc | apply pw_below_drewN | apply below_drew1 | refine below_set ?_ GE1090.out | refine below_set ?_ GE1091.out | refine below_set ?_ GE1092.out | refine below_set ?_ GE1101.out) | exact HB.out))))
       have n1_ := Aside0.mk (blk_below (g := gb1090) (o := .cells #[.int .i64 a0_0, .slice A0_1 l0_1.length c0_1] 26 (0, 0)) (by (with_reducible repeat (first | refine blk_drewN ?_ _ | refine blk_drew ?_ | refine blk_alloc ?_ _)); exact BK1090.out) hb)
       have n2_ := Aside0.mk (blk_below (g := gb1091) (o := .cells #[.int .i64 a1_0, .slice A1_1 l1_1.length c1_1] 26 (0, 0)) (by (with_reducible repeat (first | refine blk_drewN ?_ _ | refine blk_drew ?_ | refine blk_alloc ?_ _)); exact BK1091.out) hb)
       have n3_ := Aside0.mk (blk_below (g := gb1092) (o := .cells #[.int .i64 0, .slice none 0 0] 26 (0, 0)) (by (with_reducible repeat (first | refine blk_drewN ?_ _ | refine blk_drew ?_ | refine blk_alloc ?_ _)); exact BK1092.out) hb)
       have n4_ := Aside0.mk (blk_below (g := gb1101) (o := .cells #[.int .i64 0, .slice none 0 0] 26 (0, 0)) (by (with_reducible repeat (first | refine blk_drewN ?_ _ | refine blk_drew ?_ | refine blk_alloc ?_ _)); exact BK1101.out) hb)
       have n5_ := Aside0.mk (below_step (by repeat (first | (with_reducible first | exact HB.out | apply below_alloc | apply pw_below_drewN | apply below_drew1 | refine below_set ?_ GE1090.out | refine below_set ?_ GE1091.out | refine below_set ?_ GE1092.out | refine below_set ?_ GE1101.out) | exact HB.out)) hb)
       clear BK1090
       clear BK1091
       clear BK1092
       clear BK1101
       clear HB
       have HO1097 := n0_
       have BK1090 := n1_
       have BK1091 := n2_
       have BK1092 := n3_
       have BK1101 := n4_
       have HB := n5_
       clear n0_ n1_ n2_ n3_ n4_ n5_
       clear hb ho29
       refine hK.out _ _ ⟨(blk_cell BK1090.out 0).trans rfl, (blk_cell BK1090.out 1).trans rfl, (blk_cell BK1091.out 0).trans rfl, (blk_cell BK1091.out 1).trans rfl⟩ (fun hHeld => ?_)
       clear hK K
       refine norm_ (a' := ?_) ?_ ?_
       rotate_left
       ·show Act.put _ (some 26) _ = _
        simp only [Act.put, List.setIfInBounds_toArray, List.set_cons_zero, List.set_cons_succ, i64_w, i32_w]
        rfl
       refine one_ (i := 8) (N := some 29) #[true, true, true, true, true, true, true, true, true, false, true, false] rfl rfl (one_of HT_.out (by kernel_rfl)) (by decide) (fun K hK => ?_)
       refine Kd.R_append_rows_step k45 (w0 := w) w.heap.size (by rfl) (.tmp 26) (.tmp 28) 24 45 (.agg #[(.int .i64 0), (.int .i64 0), (.int .i64 0), (.int .i64 0)]) 32 rfl Try.underlying24 info45 rfl (by decide) (by omega) v1096 y1095 l0_1 _ _ _ (fun _ => True) (fun _ => False) rfl rfl ?aO ?aR (fun _ _ h => h) (fun _ h => h.elim) ?aF ?aB ?aS ?aL ?_
       (case aR => repeat (first | exact (Kd.C_below HR0_1.out HB.out) | (with_reducible refine Kd.C_alloc ?_ _) | (with_reducible refine Kd.C_drewN ?_ _) | (with_reducible refine Kd.C_drew ?_)))
       (case aB => exact (by repeat (first | (with_reducible first | exact HB.out | apply below_alloc | apply pw_below_drewN | apply below_drew1 | refine below_set ?_ GE1090.out | refine below_set ?_ GE1091.out | refine below_set ?_ GE1092.out | refine below_set ?_ GE1101.out) | exact HB.out)))
       (case aF => exact (fun _ _ => trivial))
       (case aO => exact (by (with_reducible repeat (first | apply Kd.R_alloc | apply Kd.R_drewN | apply Kd.R_drew)); exact HO1097.out))
       (case aS => exact (below_size (by repeat (first | (with_reducible first | exact HB.out | apply below_alloc | apply pw_below_drewN | apply below_drew1 | refine below_set ?_ GE1090.out | refine below_set ?_ GE1091.out | refine below_set ?_ GE1092.out | refine below_set ?_ GE1101.out) | exact HB.out))))
       (case aL => have := LMc25.out; omega)
       intro v1099 w30 ho hb hg hat
       rw [← Ny1098.out] at ho
       have n0_ := Aside0.mk (blk_grown (g := gb1090) (o := .cells #[.int .i64 a0_0, .slice A0_1 l0_1.length c0_1] 26 (0, 0)) (by (with_reducible repeat (first | refine blk_drewN ?_ _ | refine blk_drew ?_ | refine blk_alloc ?_ _)); exact BK1090.out) hg (Kd.R_ne HO1097.out BK1090.out (by decide)))
       have n1_ := Aside0.mk (blk_grown (g := gb1091) (o := .cells #[.int .i64 a1_0, .slice A1_1 l1_1.length c1_1] 26 (0, 0)) (by (with_reducible repeat (first | refine blk_drewN ?_ _ | refine blk_drew ?_ | refine blk_alloc ?_ _)); exact BK1091.out) hg (Kd.R_ne HO1097.out BK1091.out (by decide)))
       have n2_ := Aside0.mk (blk_grown (g := gb1092) (o := .cells #[.int .i64 0, .slice none 0 0] 26 (0, 0)) (by (with_reducible repeat (first | refine blk_drewN ?_ _ | refine blk_drew ?_ | refine blk_alloc ?_ _)); exact BK1092.out) hg (Kd.R_ne HO1097.out BK1092.out (by decide)))
       have n3_ := Aside0.mk (blk_grown (g := gb1101) (o := .cells #[.int .i64 0, .slice none 0 0] 26 (0, 0)) (by (with_reducible repeat (first | refine blk_drewN ?_ _ | refine blk_drew ?_ | refine blk_alloc ?_ _)); exact BK1101.out) hg (Kd.R_ne HO1097.out BK1101.out (by decide)))
       have n4_ := Aside0.mk (hb)
       have n5_ := Aside0.mk (ho)
       clear BK1090
       clear BK1091
       clear BK1092
       clear BK1101
       clear HB
       clear HO1097
       have BK1090 := n0_
       have BK1091 := n1_
       have BK1092 := n2_
       have BK1101 := n3_
       have HB := n4_
       have HO1100 := n5_
       clear n0_ n1_ n2_ n3_ n4_ n5_
       clear ho hb hg hat
       obtain ⟨Ao31, co31, eo31⟩ := Kd.R_slice HO1100.out
       (first | subst eo31 | (injection eo31 with f1_ f2_ f3_; have f4_ := f1_.symm; have f5_ := f3_.symm; clear f1_ f2_ f3_; subst f4_; subst f5_))
       refine hK.out _ _ ⟨(blk_cell BK1090.out 0).trans rfl, (blk_cell BK1090.out 1).trans rfl, (blk_cell BK1091.out 0).trans rfl, (blk_cell BK1091.out 1).trans rfl⟩ (fun hHeld => ?_)
       clear hK K
       refine norm_ (a' := ?_) ?_ ?_
       rotate_left
       ·show Act.put _ (some 29) _ = _
        simp only [Act.put, List.setIfInBounds_toArray, List.set_cons_zero, List.set_cons_succ, i64_w, i32_w]
        rfl
       refine pure_ (i := 9) (N := some 30) (v := ?_) (a' := ?_) #[true, true, true, true, true, true, true, true, true, true, true, false] rfl rfl (any_of HT_.out (by kernel_rfl)) (fun _ _ _ h => h) (Or.inl ⟨by rfl, ?_⟩) ?_ ?_
       rotate_left
       ·intro w'
        go_simp
        with_reducible rfl
       rotate_left
       ·simp only [Act.put, List.setIfInBounds_toArray, List.set_cons_zero, List.set_cons_succ, i64_w, i32_w]
        rfl
       exact norm_ (by simp only [putAll, Act.put, List.setIfInBounds_toArray, List.set_cons_zero, List.set_cons_succ]) (hCont (v1096, .slice Ao31 y1098.length co31, gb1101) _ ⟨hHeld, (by (with_reducible repeat (first | apply Kd.R_alloc | apply Kd.R_drewN | apply Kd.R_drew)); exact HO1100.out), (by (with_reducible repeat (first | refine blk_drewN ?_ _ | refine blk_drew ?_ | refine blk_alloc ?_ _)); exact BK1090.out), (by (with_reducible repeat (first | refine blk_drewN ?_ _ | refine blk_drew ?_ | refine blk_alloc ?_ _)); exact BK1091.out), (by (with_reducible repeat (first | refine blk_drewN ?_ _ | refine blk_drew ?_ | refine blk_alloc ?_ _)); exact BK1092.out), (by (with_reducible repeat (first | refine blk_drewN ?_ _ | refine blk_drew ?_ | refine blk_alloc ?_ _)); exact BK1101.out), GW1101.out, GE1101.out, NB1090_1101.out, NB1101_1090.out, NB1091_1101.out, NB1101_1091.out, NB1092_1101.out, NB1101_1092.out, (by repeat (first | (with_reducible first | exact HB.out | apply below_alloc | apply pw_below_drewN | apply below_drew1 | refine below_set ?_ GE1090.out | refine below_set ?_ GE1091.out | refine below_set ?_ GE1092.out | refine below_set ?_ GE1101.out) | exact HB.out))⟩)
     rintro ⟨v1096, v1099, gb1101⟩ w32 ⟨hS_, h0_, h1_, h2_, h3_, h4_, h5_, h6_, h7_, h8_, h9_, h10_, h11_, h12_, h13_⟩
     have n0_ : Aside0 (Kd.R k45 45 w32 w.heap.size (fun _ => True) v1099 y1098) := ⟨h0_⟩
     have n1_ : Aside0 (w32.heap[gb1090]? = some (.cells #[.int .i64 a0_0, .slice A0_1 l0_1.length c0_1] 26 (0, 0))) := ⟨h1_⟩
     have n2_ : Aside0 (w32.heap[gb1091]? = some (.cells #[.int .i64 a1_0, .slice A1_1 l1_1.length c1_1] 26 (0, 0))) := ⟨h2_⟩
     have n3_ : Aside0 (w32.heap[gb1092]? = some (.cells #[.int .i64 0, .slice none 0 0] 26 (0, 0))) := ⟨h3_⟩
     have n4_ : Aside0 (w32.heap[gb1101]? = some (.cells #[.int .i64 0, .slice none 0 0] 26 (0, 0))) := ⟨h4_⟩
     have n5_ : Aside0 (w.heap.size ≤ gb1101) := ⟨h5_⟩
     have n6_ : Aside0 (w.heap.size ≤ gb1101) := ⟨h6_⟩
     have n7_ : Aside0 (gb1090 ≠ gb1101) := ⟨h7_⟩
     have n8_ : Aside0 (gb1101 ≠ gb1090) := ⟨h8_⟩
     have n9_ : Aside0 (gb1091 ≠ gb1101) := ⟨h9_⟩
     have n10_ : Aside0 (gb1101 ≠ gb1091) := ⟨h10_⟩
     have n11_ : Aside0 (gb1092 ≠ gb1101) := ⟨h11_⟩
     have n12_ : Aside0 (gb1101 ≠ gb1092) := ⟨h12_⟩
     have n13_ : Aside0 (Below w.heap.size w w32) := ⟨h13_⟩
     clear BK1090
     clear BK1091
     clear BK1092
     clear HB
     clear h0_ h1_ h2_ h3_ h4_ h5_ h6_ h7_ h8_ h9_ h10_ h11_ h12_ h13_
     have HO1100 := n0_
     have BK1090 := n1_
     have BK1091 := n2_
     have BK1092 := n3_
     have BK1101 := n4_
     have GW1101 := n5_
     have GE1101 := n6_
     have NB1090_1101 := n7_
     have NB1101_1090 := n8_
     have NB1091_1101 := n9_
     have NB1101_1091 := n10_
     have NB1092_1101 := n11_
     have NB1101_1092 := n12_
     have HB := n13_
     clear n0_ n1_ n2_ n3_ n4_ n5_ n6_ n7_ n8_ n9_ n10_ n11_ n12_ n13_
     have hHeld : w32.cell? ⟨gb1090, 0, none⟩ = some (.int .i64 a0_0) ∧ w32.cell? ⟨gb1090, 1, none⟩ = some (.slice A0_1 l0_1.length c0_1) ∧ w32.cell? ⟨gb1091, 0, none⟩ = some (.int .i64 a1_0) ∧ w32.cell? ⟨gb1091, 1, none⟩ = some (.slice A1_1 l1_1.length c1_1) := hS_
     obtain ⟨Ao33, co33, eo33⟩ := Kd.R_slice HO1100.out
     (first | subst eo33 | (injection eo33 with f1_ f2_ f3_; have f4_ := f1_.symm; have f5_ := f3_.symm; clear f1_ f2_ f3_; subst f4_; subst f5_))
     refine norm_ (a' := ?_) ?_ ?_
     rotate_left
     ·simp only [putAll, Act.put, List.setIfInBounds_toArray, List.set_cons_zero, List.set_cons_succ]
      rfl
     refine one_ (i := 11) (N := none) #[true, true, true, true, true, true, true, true, true, true, true, true] rfl rfl (one_of HT_.out (by kernel_rfl)) (by decide) (fun K hK => ?_)
     have hs34 : w32.cell? ⟨gb1101, 0, none⟩ = some (.int .i64 0) := (blk_cell BK1101.out 0).trans rfl
     have hfs34 := blk_frozen BK1101.out 0
     have hns34_0 := NB1090_1101.out
     have hns34_1 := NB1091_1101.out
     have hns34_2 := NB1092_1101.out
     have hms34_0 := NB1101_1090.out
     have hms34_1 := NB1101_1091.out
     have hms34_2 := NB1101_1092.out
     have hs35 : w32.cell? ⟨gb1101, 1, none⟩ = some (.slice none 0 0) := (blk_cell BK1101.out 1).trans rfl
     have hfs35 := blk_frozen BK1101.out 1
     have hns35_0 := NB1090_1101.out
     have hns35_1 := NB1091_1101.out
     have hns35_2 := NB1092_1101.out
     have hms35_0 := NB1101_1090.out
     have hms35_1 := NB1101_1091.out
     have hms35_2 := NB1101_1092.out
     refine skip_ (w1 := ?_) (by rfl) rfl ?_ ?_
     rotate_left
     ·go_simp
      rfl
     refine hK.out _ _ ⟨((cell_far (p := ⟨gb1101, _, none⟩) NB1090_1101.out _).trans (((cell_far (p := ⟨gb1101, _, none⟩) NB1090_1101.out _).trans (hHeld.1)))), ((cell_far (p := ⟨gb1101, _, none⟩) NB1090_1101.out _).trans (((cell_far (p := ⟨gb1101, _, none⟩) NB1090_1101.out _).trans (hHeld.2.1)))), ((cell_far (p := ⟨gb1101, _, none⟩) NB1091_1101.out _).trans (((cell_far (p := ⟨gb1101, _, none⟩) NB1091_1101.out _).trans (hHeld.2.2.1)))), ((cell_far (p := ⟨gb1101, _, none⟩) NB1091_1101.out _).trans (((cell_far (p := ⟨gb1101, _, none⟩) NB1091_1101.out _).trans (hHeld.2.2.2))))⟩ (fun hHeld => ?_)
     clear hK K
     refine done_ (done_of HT_.out (by kernel_rfl)) ?_
     try go_wp2
     go_loopg [7] kj2 (fun kq v7 w' => ∃ (x7_2 : Int) (x1102001_2 : List (S45)) (u1102001 : Value), v7 = .int .i64 x7_2 ∧ Aside0 (spec_JoinSets.l0 kq x7_2 a0_0 l0_1 a1_0 l1_1 (wrap64 (a0_0 + a1_0)) x1102001_2 = some (r1, r2, r3)) ∧ Aside0 (kq ≤ kj2) ∧ Aside0 (Kd.R k45 45 w' w.heap.size (fun _ => True) u1102001 x1102001_2) ∧ Aside0 (w'.heap[gb1090]? = some (.cells #[.int .i64 a0_0, (.slice A0_1 l0_1.length c0_1)] 26 (0, 0))) ∧ Aside0 (w'.heap[gb1091]? = some (.cells #[.int .i64 a1_0, (.slice A1_1 l1_1.length c1_1)] 26 (0, 0))) ∧ Aside0 (w'.heap[gb1092]? = some (.cells #[.int .i64 0, (.slice none 0 0)] 26 (0, 0))) ∧ Aside0 (w'.heap[gb1101]? = some (.cells #[.int .i64 (wrap64 (a0_0 + a1_0)), u1102001] 26 (0, 0))) ∧ Aside0 (Below w.heap.size w w'))
     case atStart => exact ⟨(0), (y1098), (.slice Ao33 y1098.length co33), (by first | rfl | (simp; done) | (simp [*]; done) | (simp; decide +kernel)), H', ⟨Nat.le_refl _⟩, ⟨by (with_reducible repeat (first | apply Kd.R_alloc | apply Kd.R_drewN | apply Kd.R_drew)); exact Kd.R_mono (Kd.R_far (p := ⟨gb1101, 1, none⟩) (Kd.R_far (p := ⟨gb1101, 0, none⟩) (Kd.R_types HO1100.out BK1101.out (by decide)) (fun _ hk => hk.2) (.int .i64 (wrap64 (a0_0 + a1_0)))) (fun _ hk => hk.2) (.slice Ao33 y1098.length co33)) (fun _ hk => trivial)⟩, ⟨by (with_reducible repeat (first | refine blk_drewN ?_ _ | refine blk_drew ?_ | refine blk_alloc ?_ _)); refine blk_far ?_ NB1090_1101.out _; (with_reducible repeat (first | refine blk_drewN ?_ _ | refine blk_drew ?_ | refine blk_alloc ?_ _)); refine blk_far ?_ NB1090_1101.out _; (with_reducible repeat (first | refine blk_drewN ?_ _ | refine blk_drew ?_ | refine blk_alloc ?_ _)); exact BK1090.out⟩, ⟨by (with_reducible repeat (first | refine blk_drewN ?_ _ | refine blk_drew ?_ | refine blk_alloc ?_ _)); refine blk_far ?_ NB1091_1101.out _; (with_reducible repeat (first | refine blk_drewN ?_ _ | refine blk_drew ?_ | refine blk_alloc ?_ _)); refine blk_far ?_ NB1091_1101.out _; (with_reducible repeat (first | refine blk_drewN ?_ _ | refine blk_drew ?_ | refine blk_alloc ?_ _)); exact BK1091.out⟩, ⟨by (with_reducible repeat (first | refine blk_drewN ?_ _ | refine blk_drew ?_ | refine blk_alloc ?_ _)); refine blk_far ?_ NB1092_1101.out _; (with_reducible repeat (first | refine blk_drewN ?_ _ | refine blk_drew ?_ | refine blk_alloc ?_ _)); refine blk_far ?_ NB1092_1101.out _; (with_reducible repeat (first | refine blk_drewN ?_ _ | refine blk_drew ?_ | refine blk_alloc ?_ _)); exact BK1092.out⟩, ⟨by (with_reducible repeat (first | refine blk_drewN ?_ _ | refine blk_drew ?_ | refine blk_alloc ?_ _)); refine blk_put (cs := #[.int .i64 (wrap64 (a0_0 + a1_0)), .slice none 0 0]) ?_ 1 _ rfl; (with_reducible repeat (first | refine blk_drewN ?_ _ | refine blk_drew ?_ | refine blk_alloc ?_ _)); refine blk_put (cs := #[.int .i64 0, .slice none 0 0]) ?_ 0 _ rfl; (with_reducible repeat (first | refine blk_drewN ?_ _ | refine blk_drew ?_ | refine blk_alloc ?_ _)); exact BK1101.out⟩, ⟨by repeat (first | (with_reducible first | exact HB.out | apply below_alloc | apply pw_below_drewN | apply below_drew1 | refine below_set ?_ GE1090.out | refine below_set ?_ GE1091.out | refine below_set ?_ GE1092.out | refine below_set ?_ GE1101.out) | exact HB.out)⟩⟩
     case round =>
      clear H'
      try clear c1
      try clear c2
      try clear p2
      try clear c3
      try clear c6
      try clear p6
      try clear c8
      try clear c10
      try clear c11
      try clear c14
      try clear c17
      try clear c18
      try clear c21
      try clear c22
      try clear c23
      try clear c25
      try clear hcz12_0
      try clear hcz12_1
      try clear hcz15_0
      try clear hcz15_1
      try clear hcz19_0
      try clear hcz19_1
      try clear hcz24_0
      try clear hcz24_1
      try clear hfz12_0
      try clear hfz12_1
      try clear hfz15_0
      try clear hfz15_1
      try clear hfz19_0
      try clear hfz19_1
      try clear hfz24_0
      try clear hfz24_1
      try clear p2
      obtain ⟨x7_2, x1102001_2, u1102001, rfl, HA, HK2, HO_1102001, BK1090, BK1091, BK1092, BK1101, HB⟩ := hrel
      cases gk with
      | zero => exact absurd HA.out (by simp [spec_JoinSets.l0])
      | succ k2 =>
       have H := HA.out
       clear HA
       simp only [spec_JoinSets.l0] at H
       by_cases c36 : x7_2 < (l1_1.length : Int)
       ·rw [if_pos c36] at H
        have c36b0 : decide (x7_2 < (l1_1.length : Int)) = true := decide_eq_true c36
        clear c36
        by_cases c37 : 0 ≤ x7_2
        ·rw [if_pos c37] at H
         have c37b0 : decide (0 ≤ x7_2) = true := decide_eq_true c37
         clear c37
         have H' := Aside0.mk H
         clear H
         have hnb38 := NB1091_1090.out
         have hnc38 := NB1090_1091.out
         have hnb39 := NB1091_1092.out
         have hnc39 := NB1092_1091.out
         have hnb40 := NB1091_1101.out
         have hnc40 := NB1101_1091.out
         have hcz41_0 : wr.cell? ⟨gb1091, 0, none⟩ = some (.int .i64 a1_0) := (blk_cell BK1091.out 0).trans rfl
         have hcz41_1 : wr.cell? ⟨gb1091, 1, none⟩ = some (.slice A1_1 l1_1.length c1_1) := (blk_cell BK1091.out 1).trans rfl
         have hfz41_0 := blk_frozen BK1091.out 0
         have hfz41_1 := blk_frozen BK1091.out 1
         have p1108 : 0 ≤ (x7_2 : Int) := of_decide_eq_true (by first | (with_reducible assumption) | assumption)
         have q1108 : x7_2 < (l1_1.length : Int) := of_decide_eq_true (by first | (with_reducible assumption) | assumption)
         obtain ⟨ad1108, e1108, hx1108_0, hx1108_1, hx1108_2, hx1108_3⟩ := at_T45 HR1_1.out x7_2 p1108 q1108
         cases e1108
         replace hx1108_0 := (HB.out.cell (World.block_lt_of_cell? w _ hx1108_0)).trans hx1108_0
         replace hx1108_1 := (HB.out.cell (World.block_lt_of_cell? w _ hx1108_1)).trans hx1108_1
         replace hx1108_2 := (HB.out.cell (World.block_lt_of_cell? w _ hx1108_2)).trans hx1108_2
         replace hx1108_3 := (HB.out.cell (World.block_lt_of_cell? w _ hx1108_3)).trans hx1108_3
         replace p1108 := eq_true p1108
         replace q1108 := eq_true q1108
         go_wp2_with (first | ((with_reducible refine gate_dst (N := 8) rfl ?_); refine box_event ?hg (N := 8) ?hd (cs := #[.int .i64 0, .int .i64 0, .int .i64 0, .int .i64 0]) (t := 45) ?hr ?_; (case hd => rfl); (case hg => rfl); (case hr => first | (go_simp; done) | (go_simp; rfl)); intro gb1109 hg w42 hbox hb; have n0_ := Aside0.mk (Kd.R_below (Kd.R_elderB (by (with_reducible repeat (first | apply Kd.R_alloc | apply Kd.R_drewN | apply Kd.R_drew)); exact HO_1102001.out) gb1109 (Nat.le_of_eq hg.symm)) hb); have n1_ := Aside0.mk (blk_below (g := gb1090) (o := .cells #[.int .i64 a0_0, .slice A0_1 l0_1.length c0_1] 26 (0, 0)) (by (with_reducible repeat (first | refine blk_drewN ?_ _ | refine blk_drew ?_ | refine blk_alloc ?_ _)); exact BK1090.out) hb); have n2_ := Aside0.mk (blk_below (g := gb1091) (o := .cells #[.int .i64 a1_0, .slice (some ad1108) l1_1.length c1_1] 26 (0, 0)) (by (with_reducible repeat (first | refine blk_drewN ?_ _ | refine blk_drew ?_ | refine blk_alloc ?_ _)); exact BK1091.out) hb); have n3_ := Aside0.mk (blk_below (g := gb1092) (o := .cells #[.int .i64 0, .slice none 0 0] 26 (0, 0)) (by (with_reducible repeat (first | refine blk_drewN ?_ _ | refine blk_drew ?_ | refine blk_alloc ?_ _)); exact BK1092.out) hb); have n4_ := Aside0.mk (blk_below (g := gb1101) (o := .cells #[.int .i64 (wrap64 (a0_0 + a1_0)), u1102001] 26 (0, 0)) (by (with_reducible repeat (first | refine blk_drewN ?_ _ | refine blk_drew ?_ | refine blk_alloc ?_ _)); exact BK1101.out) hb); have n5_ := Aside0.mk (below_step (by repeat (first | (with_reducible first | exact HB.out | apply below_alloc | apply pw_below_drewN | apply below_drew1 | refine below_set ?_ GE1090.out | refine below_set ?_ GE1091.out | refine below_set ?_ GE1092.out | refine below_set ?_ GE1101.out) | exact HB.out)) hb); have n6_ := Aside0.mk (hbox); have n7_ := Aside0.mk ((by rw [hg]; exact (below_size (by repeat (first | (with_reducible first | exact HB.out | apply below_alloc | apply pw_below_drewN | apply below_drew1 | refine below_set ?_ GE1090.out | refine below_set ?_ GE1091.out | refine below_set ?_ GE1092.out | refine below_set ?_ GE1101.out) | exact HB.out))) : w.heap.size ≤ gb1109)); have n8_ := Aside0.mk ((by rw [hg]; exact (below_size (by repeat (first | (with_reducible first | exact HB.out | apply below_alloc | apply pw_below_drewN | apply below_drew1 | refine below_set ?_ GE1090.out | refine below_set ?_ GE1091.out | refine below_set ?_ GE1092.out | refine below_set ?_ GE1101.out) | exact HB.out))) : w.heap.size ≤ gb1109)); have n9_ := Aside0.mk ((by rw [hg]; exact Nat.ne_of_lt (blk_lt (g := gb1090) (o := .cells #[.int .i64 a0_0, .slice A0_1 l0_1.length c0_1] 26 (0, 0)) (by (with_reducible repeat (first | refine blk_drewN ?_ _ | refine blk_drew ?_ | refine blk_alloc ?_ _)); exact BK1090.out)) : gb1090 ≠ gb1109)); have n10_ := Aside0.mk ((by rw [hg]; exact Nat.ne_of_gt (blk_lt (g := gb1090) (o := .cells #[.int .i64 a0_0, .slice A0_1 l0_1.length c0_1] 26 (0, 0)) (by (with_reducible repeat (first | refine blk_drewN ?_ _ | refine blk_drew ?_ | refine blk_alloc ?_ _)); exact BK1090.out)) : gb1109 ≠ gb1090)); have n11_ := Aside0.mk ((by rw [hg]; exact Nat.ne_of_lt (blk_lt (g := gb1091) (o := .cells #[.int .i64 a1_0, .slice (some ad1108) l1_1.length c1_1] 26 (0, 0)) (by (with_reducible repeat (first | refine blk_drewN ?_ _ | refine blk_drew ?_ | refine blk_alloc ?_ _)); exact BK1091.out)) : gb1091 ≠ gb1109)); have n12_ := Aside0.mk ((by rw [hg]; exact Nat.ne_of_gt (blk_lt (g := gb1091) (o := .cells #[.int .i64 a1_0, .slice (some ad1108) l1_1.length c1_1] 26 (0, 0)) (by (with_reducible repeat (first | refine blk_drewN ?_ _ | refine blk_drew ?_ | refine blk_alloc ?_ _)); exact BK1091.out)) : gb1109 ≠ gb1091)); have n13_ := Aside0.mk ((by rw [hg]; exact Nat.ne_of_lt (blk_lt (g := gb1092) (o := .cells #[.int .i64 0, .slice none 0 0] 26 (0, 0)) (by (with_reducible repeat (first | refine blk_drewN ?_ _ | refine blk_drew ?_ | refine blk_alloc ?_ _)); exact BK1092.out)) : gb1092 ≠ gb1109)); have n14_ := Aside0.mk ((by rw [hg]; exact Nat.ne_of_gt (blk_lt (g := gb1092) (o := .cells #[.int .i64 0, .slice none 0 0] 26 (0, 0)) (by (with_reducible repeat (first | refine blk_drewN ?_ _ | refine blk_drew ?_ | refine blk_alloc ?_ _)); exact BK1092.out)) : gb1109 ≠ gb1092)); have n15_ := Aside0.mk ((by rw [hg]; exact Nat.ne_of_lt (blk_lt (g := gb1101) (o := .cells #[.int .i64 (wrap64 (a0_0 + a1_0)), u1102001] 26 (0, 0)) (by (with_reducible repeat (first | refine blk_drewN ?_ _ | refine blk_drew ?_ | refine blk_alloc ?_ _)); exact BK1101.out)) : gb1101 ≠ gb1109)); have n16_ := Aside0.mk ((by rw [hg]; exact Nat.ne_of_gt (blk_lt (g := gb1101) (o := .cells #[.int .i64 (wrap64 (a0_0 + a1_0)), u1102001] 26 (0, 0)) (by (with_reducible repeat (first | refine blk_drewN ?_ _ | refine blk_drew ?_ | refine blk_alloc ?_ _)); exact BK1101.out)) : gb1109 ≠ gb1101)); clear HO_1102001; clear BK1090; clear BK1091; clear BK1092; clear BK1101; clear HB; have HO_1102001 := n0_; have BK1090 := n1_; have BK1091 := n2_; have BK1092 := n3_; have BK1101 := n4_; have HB := n5_; have BK1109 := n6_; have GW1109 := n7_; have GE1109 := n8_; have NB1090_1109 := n9_; have NB1109_1090 := n10_; have NB1091_1109 := n11_; have NB1109_1091 := n12_; have NB1092_1109 := n13_; have NB1109_1092 := n14_; have NB1101_1109 := n15_; have NB1109_1101 := n16_; clear n0_ n1_ n2_ n3_ n4_ n5_ n6_ n7_ n8_ n9_ n10_ n11_ n12_ n13_ n14_ n15_ n16_; clear hb hbox hg; have hnb43 := NB1109_1090.out; have hnc43 := NB1090_1109.out; have hnb44 := NB1109_1091.out; have hnc44 := NB1091_1109.out; have hnb45 := NB1109_1092.out; have hnc45 := NB1092_1109.out; have hnb46 := NB1109_1101.out; have hnc46 := NB1101_1109.out; have hcz47_0 : w42.cell? ⟨gb1109, 0, none⟩ = some (.int .i64 0) := (blk_cell BK1109.out 0).trans rfl; have hcz47_1 : w42.cell? ⟨gb1109, 1, none⟩ = some (.int .i64 0) := (blk_cell BK1109.out 1).trans rfl; have hcz47_2 : w42.cell? ⟨gb1109, 2, none⟩ = some (.int .i64 0) := (blk_cell BK1109.out 2).trans rfl; have hcz47_3 : w42.cell? ⟨gb1109, 3, none⟩ = some (.int .i64 0) := (blk_cell BK1109.out 3).trans rfl; have hfz47_0 := blk_frozen BK1109.out 0; have hfz47_1 := blk_frozen BK1109.out 1; have hfz47_2 := blk_frozen BK1109.out 2; have hfz47_3 := blk_frozen BK1109.out 3))
         go_loopg [9] k2 (fun kq v9 w' => ∃ (x9_3 : Int) (x1110000_3 : Int) (x1110001_3 : Int) (x1110002_3 : Int) (x1110003_3 : Int), v9 = .int .i64 x9_3 ∧ Aside0 (spec_JoinSets.l1 kq x7_2 x9_3 a0_0 l0_1 a1_0 l1_1 (wrap64 (a0_0 + a1_0)) x1102001_2 x1110000_3 x1110001_3 x1110002_3 x1110003_3 = some (r1, r2, r3)) ∧ Aside0 (kq ≤ k2) ∧ Aside0 (Kd.R k45 45 w' w.heap.size (fun k_ => k_ ≠ gb1109) u1102001 x1102001_2) ∧ Aside0 (w'.heap[gb1090]? = some (.cells #[.int .i64 a0_0, (.slice A0_1 l0_1.length c0_1)] 26 (0, 0))) ∧ Aside0 (w'.heap[gb1091]? = some (.cells #[.int .i64 a1_0, (.slice (some ad1108) l1_1.length c1_1)] 26 (0, 0))) ∧ Aside0 (w'.heap[gb1092]? = some (.cells #[.int .i64 0, (.slice none 0 0)] 26 (0, 0))) ∧ Aside0 (w'.heap[gb1101]? = some (.cells #[.int .i64 (wrap64 (a0_0 + a1_0)), u1102001] 26 (0, 0))) ∧ Aside0 (w'.heap[gb1109]? = some (.cells #[.int .i64 x1110000_3, .int .i64 x1110001_3, .int .i64 x1110002_3, .int .i64 x1110003_3] 45 (0, 0))) ∧ Aside0 (Below w.heap.size w w'))
         case atStart => exact ⟨(0), ((rd_T45 l1_1 x7_2).f0), ((rd_T45 l1_1 x7_2).f1), ((rd_T45 l1_1 x7_2).f2), ((rd_T45 l1_1 x7_2).f3), (by first | rfl | (simp; done) | (simp [*]; done) | (simp; decide +kernel)), H', ⟨Nat.le_refl _⟩, ⟨by (with_reducible repeat (first | apply Kd.R_alloc | apply Kd.R_drewN | apply Kd.R_drew)); exact Kd.R_mono (Kd.R_far (p := ⟨gb1109, 3, none⟩) (Kd.R_far (p := ⟨gb1109, 2, none⟩) (Kd.R_far (p := ⟨gb1109, 1, none⟩) (Kd.R_far (p := ⟨gb1109, 0, none⟩) (Kd.R_mono HO_1102001.out (fun k_ hk => (⟨hk, hk.2⟩ : _ ∧ k_ ≠ gb1109))) (fun _ hk => hk.2) (.int .i64 ((rd_T45 l1_1 x7_2).f0))) (fun _ hk => hk.2) (.int .i64 ((rd_T45 l1_1 x7_2).f1))) (fun _ hk => hk.2) (.int .i64 ((rd_T45 l1_1 x7_2).f2))) (fun _ hk => hk.2) (.int .i64 ((rd_T45 l1_1 x7_2).f3))) (fun _ hk => hk.1.2)⟩, ⟨by (with_reducible repeat (first | refine blk_drewN ?_ _ | refine blk_drew ?_ | refine blk_alloc ?_ _)); refine blk_far ?_ NB1090_1109.out _; (with_reducible repeat (first | refine blk_drewN ?_ _ | refine blk_drew ?_ | refine blk_alloc ?_ _)); refine blk_far ?_ NB1090_1109.out _; (with_reducible repeat (first | refine blk_drewN ?_ _ | refine blk_drew ?_ | refine blk_alloc ?_ _)); refine blk_far ?_ NB1090_1109.out _; (with_reducible repeat (first | refine blk_drewN ?_ _ | refine blk_drew ?_ | refine blk_alloc ?_ _)); refine blk_far ?_ NB1090_1109.out _; (with_reducible repeat (first | refine blk_drewN ?_ _ | refine blk_drew ?_ | refine blk_alloc ?_ _)); exact BK1090.out⟩, ⟨by (with_reducible repeat (first | refine blk_drewN ?_ _ | refine blk_drew ?_ | refine blk_alloc ?_ _)); refine blk_far ?_ NB1091_1109.out _; (with_reducible repeat (first | refine blk_drewN ?_ _ | refine blk_drew ?_ | refine blk_alloc ?_ _)); refine blk_far ?_ NB1091_1109.out _; (with_reducible repeat (first | refine blk_drewN ?_ _ | refine blk_drew ?_ | refine blk_alloc ?_ _)); refine blk_far ?_ NB1091_1109.out _; (with_reducible repeat (first | refine blk_drewN ?_ _ | refine blk_drew ?_ | refine blk_alloc ?_ _)); refine blk_far ?_ NB1091_1109.out _; (with_reducible repeat (first | refine blk_drewN ?_ _ | refine blk_drew ?_ | refine blk_alloc ?_ _)); exact BK1091.out⟩, ⟨by (with_reducible repeat (first | refine blk_drewN ?_ _ | refine blk_drew ?_ | refine blk_alloc ?_ _)); refine blk_far ?_ NB1092_1109.out _; (with_reducible repeat (first | refine blk_drewN ?_ _ | refine blk_drew ?_ | refine blk_alloc ?_ _)); refine blk_far ?_ NB1092_1109.out _; (with_reducible repeat (first | refine blk_drewN ?_ _ | refine blk_drew ?_ | refine blk_alloc ?_ _)); refine blk_far ?_ NB1092_1109.out _; (with_reducible repeat (first | refine blk_drewN ?_ _ | refine blk_drew ?_ | refine blk_alloc ?_ _)); refine blk_far ?_ NB1092_1109.out _; (with_reducible repeat (first | refine blk_drewN ?_ _ | refine blk_drew ?_ | refine blk_alloc ?_ _)); exact BK1092.out⟩, ⟨by (with_reducible repeat (first | refine blk_drewN ?_ _ | refine blk_drew ?_ | refine blk_alloc ?_ _)); refine blk_far ?_ NB1101_1109.out _; (with_reducible repeat (first | refine blk_drewN ?_ _ | refine blk_drew ?_ | refine blk_alloc ?_ _)); refine blk_far ?_ NB1101_1109.out _; (with_reducible repeat (first | refine blk_drewN ?_ _ | refine blk_drew ?_ | refine blk_alloc ?_ _)); refine blk_far ?_ NB1101_1109.out _; (with_reducible repeat (first | refine blk_drewN ?_ _ | refine blk_drew ?_ | refine blk_alloc ?_ _)); refine blk_far ?_ NB1101_1109.out _; (with_reducible repeat (first | refine blk_drewN ?_ _ | refine blk_drew ?_ | refine blk_alloc ?_ _)); exact BK1101.out⟩, ⟨by (with_reducible repeat (first | refine blk_drewN ?_ _ | refine blk_drew ?_ | refine blk_alloc ?_ _)); refine blk_put (cs := #[.int .i64 ((rd_T45 l1_1 x7_2).f0), .int .i64 ((rd_T45 l1_1 x7_2).f1), .int .i64 ((rd_T45 l1_1 x7_2).f2), .int .i64 0]) ?_ 3 _ rfl; (with_reducible repeat (first | refine blk_drewN ?_ _ | refine blk_drew ?_ | refine blk_alloc ?_ _)); refine blk_put (cs := #[.int .i64 ((rd_T45 l1_1 x7_2).f0), .int .i64 ((rd_T45 l1_1 x7_2).f1), .int .i64 0, .int .i64 0]) ?_ 2 _ rfl; (with_reducible repeat (first | refine blk_drewN ?_ _ | refine blk_drew ?_ | refine blk_alloc ?_ _)); refine blk_put (cs := #[.int .i64 ((rd_T45 l1_1 x7_2).f0), .int .i64 0, .int .i64 0, .int .i64 0]) ?_ 1 _ rfl; (with_reducible repeat (first | refine blk_drewN ?_ _ | refine blk_drew ?_ | refine blk_alloc ?_ _)); refine blk_put (cs := #[.int .i64 0, .int .i64 0, .int .i64 0, .int .i64 0]) ?_ 0 _ rfl; (with_reducible repeat (first | refine blk_drewN ?_ _ | refine blk_drew ?_ | refine blk_alloc ?_ _)); exact BK1109.out⟩, ⟨by repeat (first | (with_reducible first | exact HB.out | apply below_alloc | apply pw_below_drewN | apply below_drew1 | refine below_set ?_ GE1090.out | refine below_set ?_ GE1091.out | refine below_set ?_ GE1092.out | refine below_set ?_ GE1101.out | refine below_set ?_ GE1109.out) | exact HB.out)⟩⟩
         case round =>
          clear H'
          try clear c1
          try clear p1
          try clear q1
          try clear hx1
          try clear c2
          try clear p2
          try clear c3
          try clear c4
          try clear c6
          try clear p6
          try clear c8
          try clear c10
          try clear c11
          try clear p11
          try clear q11
          try clear hx11
          try clear c14
          try clear c17
          try clear c18
          try clear c21
          try clear c22
          try clear c23
          try clear c25
          try clear c36
          try clear c36b0
          try clear c37
          try clear c37b0
          try clear c38
          try clear c39
          try clear c40
          try clear c43
          try clear c44
          try clear c45
          try clear c46
          try clear hcz12_0
          try clear hcz12_1
          try clear hcz15_0
          try clear hcz15_1
          try clear hcz19_0
          try clear hcz19_1
          try clear hcz24_0
          try clear hcz24_1
          try clear hcz41_0
          try clear hcz41_1
          try clear hcz47_0
          try clear hcz47_1
          try clear hcz47_2
          try clear hcz47_3
          try clear hfz12_0
          try clear hfz12_1
          try clear hfz15_0
          try clear hfz15_1
          try clear hfz19_0
          try clear hfz19_1
          try clear hfz24_0
          try clear hfz24_1
          try clear hfz41_0
          try clear hfz41_1
          try clear hfz47_0
          try clear hfz47_1
          try clear hfz47_2
          try clear hfz47_3
          try clear hx1108_0
          try clear hx1108_1
          try clear hx1108_2
          try clear hx1108_3
          try clear p1108
          try clear p2
          try clear p6
          try clear q1108
          obtain ⟨x9_3, x1110000_3, x1110001_3, x1110002_3, x1110003_3, rfl, HA, HK3, HO_1102001, BK1090, BK1091, BK1092, BK1101, BK1109, HB⟩ := hrel
          cases gk with
          | zero => exact absurd HA.out (by simp [spec_JoinSets.l1])
          | succ k3 =>
           have H := HA.out
           clear HA
           simp only [spec_JoinSets.l1] at H
           by_cases c48 : x9_3 < 4
           ·rw [if_pos c48] at H
            have c48b0 : decide (x9_3 < 4) = true := decide_eq_true c48
            clear c48
            by_cases c49 : x9_3 = 0
            ·subst c49
             have H1 : (spec_JoinSets.l1 k3 x7_2 (wrap64 (0 + 1)) a0_0 l0_1 a1_0 l1_1 (wrap64 (a0_0 + a1_0)) x1102001_2 (wrap64 (x1110000_3 + a0_0)) x1110001_3 x1110002_3 x1110003_3) = some (r1, r2, r3) := by rw [if_pos rfl] at H; exact H
             clear H
             have H := H1
             clear H1
             have H' := Aside0.mk H
             clear H
             try go_wp2
             have n0_ := Aside0.mk (Kd.R_drew HO_1102001.out)
             have n1_ := Aside0.mk (blk_drew BK1090.out)
             have n2_ := Aside0.mk (blk_drew BK1091.out)
             have n3_ := Aside0.mk (blk_drew BK1092.out)
             have n4_ := Aside0.mk (blk_drew BK1101.out)
             have n5_ := Aside0.mk (blk_drew BK1109.out)
             have n6_ := Aside0.mk (below_drew1 HB.out)
             clear HO_1102001
             clear BK1090
             clear BK1091
             clear BK1092
             clear BK1101
             clear BK1109
             clear HB
             have HO_1102001 := n0_
             have BK1090 := n1_
             have BK1091 := n2_
             have BK1092 := n3_
             have BK1101 := n4_
             have BK1109 := n5_
             have HB := n6_
             clear n0_ n1_ n2_ n3_ n4_ n5_ n6_
             refine start_ (n := 9) (S := fun w' => w'.cell? ⟨gb1109, 0, none⟩ = some (.int .i64 x1110000_3) ∧ w'.cell? ⟨gb1109, 1, none⟩ = some (.int .i64 x1110001_3) ∧ w'.cell? ⟨gb1109, 2, none⟩ = some (.int .i64 x1110002_3) ∧ w'.cell? ⟨gb1109, 3, none⟩ = some (.int .i64 x1110003_3) ∧ w'.cell? ⟨gb1090, 0, none⟩ = some (.int .i64 a0_0) ∧ w'.cell? ⟨gb1090, 1, none⟩ = some (.slice A0_1 l0_1.length c0_1)) (ds := [8]) #[false, false, false, false, false, false, false, false, false] (by kernel_rfl) rfl rfl ⟨(blk_cell BK1109.out 0).trans rfl, (blk_cell BK1109.out 1).trans rfl, (blk_cell BK1109.out 2).trans rfl, (blk_cell BK1109.out 3).trans rfl, (blk_cell BK1090.out 0).trans rfl, (blk_cell BK1090.out 1).trans rfl⟩ (fun hHeld => ?_); refine with_tabW spec_JoinSets.tab11 spec_JoinSets.bits11 (fun HT_ HW_ => ?_)
             generalize wr.drew = w50 at HO_1102001 BK1090 BK1091 BK1092 BK1101 BK1109 HB hHeld ⊢
             refine pure_ (i := 0) (N := some 47) (v := ?_) (a' := ?_) #[true, false, false, false, false, false, false, false, false] rfl rfl (any_of HT_.out (by kernel_rfl)) (fun _ _ _ h => h) (Or.inl ⟨by rfl, ?_⟩) ?_ ?_
             rotate_left
             ·intro w'
              go_simp
              with_reducible rfl
             rotate_left
             ·simp only [Act.put, List.setIfInBounds_toArray, List.set_cons_zero, List.set_cons_succ, i64_w, i32_w]
              rfl
             refine pure_ (i := 1) (N := some 48) (v := ?_) (a' := ?_) #[true, true, false, false, false, false, false, false, false] rfl rfl (any_of HT_.out (by kernel_rfl)) (fun _ _ _ h => h) (Or.inl ⟨by rfl, ?_⟩) ?_ ?_
             rotate_left
             ·intro w'
              go_simp
              with_reducible rfl
             rotate_left
             ·simp only [Act.put, List.setIfInBounds_toArray, List.set_cons_zero, List.set_cons_succ, i64_w, i32_w]
              rfl
             refine pure_ (i := 2) (N := some 49) (v := ?_) (a' := ?_) #[true, true, true, false, false, false, false, false, false] rfl rfl (any_of HT_.out (by kernel_rfl)) (fun _ _ _ h => h) (Or.inl ⟨by rfl, ?_⟩) ?_ ?_
             rotate_left
             ·intro w'
              go_simp
              with_reducible rfl
             rotate_left
             ·simp only [Act.put, List.setIfInBounds_toArray, List.set_cons_zero, List.set_cons_succ, i64_w, i32_w]
              rfl
             refine pure_ (i := 4) (N := some 51) (v := ?_) (a' := ?_) #[true, true, true, false, true, false, false, false, false] rfl rfl (any_of HT_.out (by kernel_rfl)) (fun _ _ _ h => h) (Or.inl ⟨by rfl, ?_⟩) ?_ ?_
             rotate_left
             ·intro w'
              go_simp
              with_reducible rfl
             rotate_left
             ·simp only [Act.put, List.setIfInBounds_toArray, List.set_cons_zero, List.set_cons_succ, i64_w, i32_w]
              rfl
             refine take_ (i := 3) (N := some 50) (v := ?_) (a' := ?_) #[true, true, true, true, true, false, false, false, false] rfl rfl (take_ofW HT_.out HW_.out (by kernel_rfl)) (fun _ _ _ h => h) (Or.inl ⟨by rfl, ?_⟩) hHeld ?_ ?_
             rotate_left
             ·rintro w' ⟨s0, s1, s2, s3, s4, s5⟩
              go_simp
              with_reducible rfl
             rotate_left
             ·simp only [Act.put, List.setIfInBounds_toArray, List.set_cons_zero, List.set_cons_succ, i64_w, i32_w]
              rfl
             refine take_ (i := 5) (N := some 52) (v := ?_) (a' := ?_) #[true, true, true, true, true, true, false, false, false] rfl rfl (take_ofW HT_.out HW_.out (by kernel_rfl)) (fun _ _ _ h => h) (Or.inl ⟨by rfl, ?_⟩) hHeld ?_ ?_
             rotate_left
             ·rintro w' ⟨s0, s1, s2, s3, s4, s5⟩
              go_simp
              with_reducible rfl
             rotate_left
             ·simp only [Act.put, List.setIfInBounds_toArray, List.set_cons_zero, List.set_cons_succ, i64_w, i32_w]
              rfl
             refine pure_ (i := 6) (N := some 53) (v := ?_) (a' := ?_) #[true, true, true, true, true, true, true, false, false] rfl rfl (any_of HT_.out (by kernel_rfl)) (fun _ _ _ h => h) (Or.inl ⟨by rfl, ?_⟩) ?_ ?_
             rotate_left
             ·intro w'
              go_simp
              with_reducible rfl
             rotate_left
             ·simp only [Act.put, List.setIfInBounds_toArray, List.set_cons_zero, List.set_cons_succ, i64_w, i32_w]
              rfl
             refine pure_ (i := 7) (N := some 54) (v := ?_) (a' := ?_) #[true, true, true, true, true, true, true, true, false] rfl rfl (any_of HT_.out (by kernel_rfl)) (fun _ _ _ h => h) (Or.inl ⟨by rfl, ?_⟩) ?_ ?_
             rotate_left
             ·intro w'
              go_simp
              with_reducible rfl
             rotate_left
             ·simp only [Act.put, List.setIfInBounds_toArray, List.set_cons_zero, List.set_cons_succ, i64_w, i32_w]
              rfl
             refine last_ (i := 8) (N := none) #[true, true, true, true, true, true, true, true, true] rfl rfl (one_of HT_.out (by kernel_rfl)) (by decide) (fun K hK => ?_)
             have hs51 : w50.cell? ⟨gb1109, 0, none⟩ = some (.int .i64 x1110000_3) := (blk_cell BK1109.out 0).trans rfl
             have hfs51 := blk_frozen BK1109.out 0
             have hns51_0 := NB1090_1109.out
             have hns51_1 := NB1091_1109.out
             have hns51_2 := NB1092_1109.out
             have hns51_3 := NB1101_1109.out
             have hms51_0 := NB1109_1090.out
             have hms51_1 := NB1109_1091.out
             have hms51_2 := NB1109_1092.out
             have hms51_3 := NB1109_1101.out
             refine skip_ (w1 := ?_) (by rfl) rfl ?_ ?_
             rotate_left
             ·go_simp
              rfl
             refine hK.out _ _ ?_
             clear hK K
             refine done_ (done_of HT_.out (by kernel_rfl)) ?_
             try go_wp2
             go_roundg k3
             case measure => have := HJ2.out; have := HK2.out; have := HK3.out; omega
             case rel => exact ⟨(wrap64 (0 + 1)), (wrap64 (x1110000_3 + a0_0)), (x1110001_3), (x1110002_3), (x1110003_3), (by first | rfl | (simp; done) | (simp [*]; done) | (simp; decide +kernel)), H', ⟨by have := HJ2.out; have := HK2.out; have := HK3.out; omega⟩, ⟨by (with_reducible repeat (first | apply Kd.R_alloc | apply Kd.R_drewN | apply Kd.R_drew)); exact Kd.R_mono (Kd.R_far (p := ⟨gb1109, 0, none⟩) (Kd.R_mono HO_1102001.out (fun k_ hk => (⟨hk, hk⟩ : _ ∧ k_ ≠ gb1109))) (fun _ hk => hk.2) (.int .i64 (wrap64 (x1110000_3 + a0_0)))) (fun _ hk => hk.1)⟩, ⟨by (with_reducible repeat (first | refine blk_drewN ?_ _ | refine blk_drew ?_ | refine blk_alloc ?_ _)); refine blk_far ?_ NB1090_1109.out _; (with_reducible repeat (first | refine blk_drewN ?_ _ | refine blk_drew ?_ | refine blk_alloc ?_ _)); exact BK1090.out⟩, ⟨by (with_reducible repeat (first | refine blk_drewN ?_ _ | refine blk_drew ?_ | refine blk_alloc ?_ _)); refine blk_far ?_ NB1091_1109.out _; (with_reducible repeat (first | refine blk_drewN ?_ _ | refine blk_drew ?_ | refine blk_alloc ?_ _)); exact BK1091.out⟩, ⟨by (with_reducible repeat (first | refine blk_drewN ?_ _ | refine blk_drew ?_ | refine blk_alloc ?_ _)); refine blk_far ?_ NB1092_1109.out _; (with_reducible repeat (first | refine blk_drewN ?_ _ | refine blk_drew ?_ | refine blk_alloc ?_ _)); exact BK1092.out⟩, ⟨by (with_reducible repeat (first | refine blk_drewN ?_ _ | refine blk_drew ?_ | refine blk_alloc ?_ _)); refine blk_far ?_ NB1101_1109.out _; (with_reducible repeat (first | refine blk_drewN ?_ _ | refine blk_drew ?_ | refine blk_alloc ?_ _)); exact BK1101.out⟩, ⟨by (with_reducible repeat (first | refine blk_drewN ?_ _ | refine blk_drew ?_ | refine blk_alloc ?_ _)); refine blk_put (cs := #[.int .i64 x1110000_3, .int .i64 x1110001_3, .int .i64 x1110002_3, .int .i64 x1110003_3]) ?_ 0 _ rfl; (with_reducible repeat (first | refine blk_drewN ?_ _ | refine blk_drew ?_ | refine blk_alloc ?_ _)); exact BK1109.out⟩, ⟨by repeat (first | (with_reducible first | exact HB.out | apply below_alloc | apply pw_below_drewN | apply below_drew1 | refine below_set ?_ GE1090.out | refine below_set ?_ GE1091.out | refine below_set ?_ GE1092.out | refine below_set ?_ GE1101.out | refine below_set ?_ GE1109.out) | exact HB.out)⟩⟩
            ·rw [if_neg c49] at H
             clear c49
             by_cases c52 : x9_3 = 1
             ·subst c52
              have H1 : (spec_JoinSets.l1 k3 x7_2 (wrap64 (1 + 1)) a0_0 l0_1 a1_0 l1_1 (wrap64 (a0_0 + a1_0)) x1102001_2 x1110000_3 (wrap64 (x1110001_3 + a0_0)) x1110002_3 x1110003_3) = some (r1, r2, r3) := by rw [if_pos rfl] at H; exact H
              clear H
              have H := H1
              clear H1
              have H' := Aside0.mk H
              clear H
              try go_wp2
              have n0_ := Aside0.mk (Kd.R_drew HO_1102001.out)
              have n1_ := Aside0.mk (blk_drew BK1090.out)
              have n2_ := Aside0.mk (blk_drew BK1091.out)
              have n3_ := Aside0.mk (blk_drew BK1092.out)
              have n4_ := Aside0.mk (blk_drew BK1101.out)
              have n5_ := Aside0.mk (blk_drew BK1109.out)
              have n6_ := Aside0.mk (below_drew1 HB.out)
              clear HO_1102001
              clear BK1090
              clear BK1091
              clear BK1092
              clear BK1101
              clear BK1109
              clear HB
              have HO_1102001 := n0_
              have BK1090 := n1_
              have BK1091 := n2_
              have BK1092 := n3_
              have BK1101 := n4_
              have BK1109 := n5_
              have HB := n6_
              clear n0_ n1_ n2_ n3_ n4_ n5_ n6_
              refine start_ (n := 9) (S := fun w' => w'.cell? ⟨gb1109, 0, none⟩ = some (.int .i64 x1110000_3) ∧ w'.cell? ⟨gb1109, 1, none⟩ = some (.int .i64 x1110001_3) ∧ w'.cell? ⟨gb1109, 2, none⟩ = some (.int .i64 x1110002_3) ∧ w'.cell? ⟨gb1109, 3, none⟩ = some (.int .i64 x1110003_3) ∧ w'.cell? ⟨gb1090, 0, none⟩ = some (.int .i64 a0_0) ∧ w'.cell? ⟨gb1090, 1, none⟩ = some (.slice A0_1 l0_1.length c0_1)) (ds := [8]) #[false, false, false, false, false, false, false, false, false] (by kernel_rfl) rfl rfl ⟨(blk_cell BK1109.out 0).trans rfl, (blk_cell BK1109.out 1).trans rfl, (blk_cell BK1109.out 2).trans rfl, (blk_cell BK1109.out 3).trans rfl, (blk_cell BK1090.out 0).trans rfl, (blk_cell BK1090.out 1).trans rfl⟩ (fun hHeld => ?_); refine with_tabW spec_JoinSets.tab11 spec_JoinSets.bits11 (fun HT_ HW_ => ?_)
              generalize wr.drew = w53 at HO_1102001 BK1090 BK1091 BK1092 BK1101 BK1109 HB hHeld ⊢
              refine pure_ (i := 0) (N := some 47) (v := ?_) (a' := ?_) #[true, false, false, false, false, false, false, false, false] rfl rfl (any_of HT_.out (by kernel_rfl)) (fun _ _ _ h => h) (Or.inl ⟨by rfl, ?_⟩) ?_ ?_
              rotate_left
              ·intro w'
               go_simp
               with_reducible rfl
              rotate_left
              ·simp only [Act.put, List.setIfInBounds_toArray, List.set_cons_zero, List.set_cons_succ, i64_w, i32_w]
               rfl
              refine pure_ (i := 1) (N := some 48) (v := ?_) (a' := ?_) #[true, true, false, false, false, false, false, false, false] rfl rfl (any_of HT_.out (by kernel_rfl)) (fun _ _ _ h => h) (Or.inl ⟨by rfl, ?_⟩) ?_ ?_
              rotate_left
              ·intro w'
               go_simp
               with_reducible rfl
              rotate_left
              ·simp only [Act.put, List.setIfInBounds_toArray, List.set_cons_zero, List.set_cons_succ, i64_w, i32_w]
               rfl
              refine pure_ (i := 2) (N := some 49) (v := ?_) (a' := ?_) #[true, true, true, false, false, false, false, false, false] rfl rfl (any_of HT_.out (by kernel_rfl)) (fun _ _ _ h => h) (Or.inl ⟨by rfl, ?_⟩) ?_ ?_
              rotate_left
              ·intro w'
               go_simp
               with_reducible rfl
              rotate_left
              ·simp only [Act.put, List.setIfInBounds_toArray, List.set_cons_zero, List.set_cons_succ, i64_w, i32_w]
               rfl
              refine pure_ (i := 4) (N := some 51) (v := ?_) (a' := ?_) #[true, true, true, false, true, false, false, false, false] rfl rfl (any_of HT_.out (by kernel_rfl)) (fun _ _ _ h => h) (Or.inl ⟨by rfl, ?_⟩) ?_ ?_
              rotate_left
              ·intro w'
               go_simp
               with_reducible rfl
              rotate_left
              ·simp only [Act.put, List.setIfInBounds_toArray, List.set_cons_zero, List.set_cons_succ, i64_w, i32_w]
               rfl
              refine take_ (i := 3) (N := some 50) (v := ?_) (a' := ?_) #[true, true, true, true, true, false, false, false, false] rfl rfl (take_ofW HT_.out HW_.out (by kernel_rfl)) (fun _ _ _ h => h) (Or.inl ⟨by rfl, ?_⟩) hHeld ?_ ?_
              rotate_left
              ·rintro w' ⟨s0, s1, s2, s3, s4, s5⟩
               go_simp
               with_reducible rfl
              rotate_left
              ·simp only [Act.put, List.setIfInBounds_toArray, List.set_cons_zero, List.set_cons_succ, i64_w, i32_w]
               rfl
              refine take_ (i := 5) (N := some 52) (v := ?_) (a' := ?_) #[true, true, true, true, true, true, false, false, false] rfl rfl (take_ofW HT_.out HW_.out (by kernel_rfl)) (fun _ _ _ h => h) (Or.inl ⟨by rfl, ?_⟩) hHeld ?_ ?_
              rotate_left
              ·rintro w' ⟨s0, s1, s2, s3, s4, s5⟩
               go_simp
               with_reducible rfl
              rotate_left
              ·simp only [Act.put, List.setIfInBounds_toArray, List.set_cons_zero, List.set_cons_succ, i64_w, i32_w]
               rfl
              refine pure_ (i := 6) (N := some 53) (v := ?_) (a' := ?_) #[true, true, true, true, true, true, true, false, false] rfl rfl (any_of HT_.out (by kernel_rfl)) (fun _ _ _ h => h) (Or.inl ⟨by rfl, ?_⟩) ?_ ?_
              rotate_left
              ·intro w'
               go_simp
               with_reducible rfl
              rotate_left
              ·simp only [Act.put, List.setIfInBounds_toArray, List.set_cons_zero, List.set_cons_succ, i64_w, i32_w]
               rfl
              refine pure_ (i := 7) (N := some 54) (v := ?_) (a' := ?_) #[true, true, true, true, true, true, true, true, false] rfl rfl (any_of HT_.out (by kernel_rfl)) (fun _ _ _ h => h) (Or.inl ⟨by rfl, ?_⟩) ?_ ?_
              rotate_left
              ·intro w'
               go_simp
               with_reducible rfl
              rotate_left
              ·simp only [Act.put, List.setIfInBounds_toArray, List.set_cons_zero, List.set_cons_succ, i64_w, i32_w]
               rfl
              refine last_ (i := 8) (N := none) #[true, true, true, true, true, true, true, true, true] rfl rfl (one_of HT_.out (by kernel_rfl)) (by decide) (fun K hK => ?_)
              have hs54 : w53.cell? ⟨gb1109, 1, none⟩ = some (.int .i64 x1110001_3) := (blk_cell BK1109.out 1).trans rfl
              have hfs54 := blk_frozen BK1109.out 1
              have hns54_0 := NB1090_1109.out
              have hns54_1 := NB1091_1109.out
              have hns54_2 := NB1092_1109.out
              have hns54_3 := NB1101_1109.out
              have hms54_0 := NB1109_1090.out
              have hms54_1 := NB1109_1091.out
              have hms54_2 := NB1109_1092.out
              have hms54_3 := NB1109_1101.out
              refine skip_ (w1 := ?_) (by rfl) rfl ?_ ?_
              rotate_left
              ·go_simp
               rfl
              refine hK.out _ _ ?_
              clear hK K
              refine done_ (done_of HT_.out (by kernel_rfl)) ?_
              try go_wp2
              go_roundg k3
              case measure => have := HJ2.out; have := HK2.out; have := HK3.out; omega
              case rel => exact ⟨(wrap64 (1 + 1)), (x1110000_3), (wrap64 (x1110001_3 + a0_0)), (x1110002_3), (x1110003_3), (by first | rfl | (simp; done) | (simp [*]; done) | (simp; decide +kernel)), H', ⟨by have := HJ2.out; have := HK2.out; have := HK3.out; omega⟩, ⟨by (with_reducible repeat (first | apply Kd.R_alloc | apply Kd.R_drewN | apply Kd.R_drew)); exact Kd.R_mono (Kd.R_far (p := ⟨gb1109, 1, none⟩) (Kd.R_mono HO_1102001.out (fun k_ hk => (⟨hk, hk⟩ : _ ∧ k_ ≠ gb1109))) (fun _ hk => hk.2) (.int .i64 (wrap64 (x1110001_3 + a0_0)))) (fun _ hk => hk.1)⟩, ⟨by (with_reducible repeat (first | refine blk_drewN ?_ _ | refine blk_drew ?_ | refine blk_alloc ?_ _)); refine blk_far ?_ NB1090_1109.out _; (with_reducible repeat (first | refine blk_drewN ?_ _ | refine blk_drew ?_ | refine blk_alloc ?_ _)); exact BK1090.out⟩, ⟨by (with_reducible repeat (first | refine blk_drewN ?_ _ | refine blk_drew ?_ | refine blk_alloc ?_ _)); refine blk_far ?_ NB1091_1109.out _; (with_reducible repeat (first | refine blk_drewN ?_ _ | refine blk_drew ?_ | refine blk_alloc ?_ _)); exact BK1091.out⟩, ⟨by (with_reducible repeat (first | refine blk_drewN ?_ _ | refine blk_drew ?_ | refine blk_alloc ?_ _)); refine blk_far ?_ NB1092_1109.out _; (with_reducible repeat (first | refine blk_drewN ?_ _ | refine blk_drew ?_ | refine blk_alloc ?_ _)); exact BK1092.out⟩, ⟨by (with_reducible repeat (first | refine blk_drewN ?_ _ | refine blk_drew ?_ | refine blk_alloc ?_ _)); refine blk_far ?_ NB1101_1109.out _; (with_reducible repeat (first | refine blk_drewN ?_ _ | refine blk_drew ?_ | refine blk_alloc ?_ _)); exact BK1101.out⟩, ⟨by (with_reducible repeat (first | refine blk_drewN ?_ _ | refine blk_drew ?_ | refine blk_alloc ?_ _)); refine blk_put (cs := #[.int .i64 x1110000_3, .int .i64 x1110001_3, .int .i64 x1110002_3, .int .i64 x1110003_3]) ?_ 1 _ rfl; (with_reducible repeat (first | refine blk_drewN ?_ _ | refine blk_drew ?_ | refine blk_alloc ?_ _)); exact BK1109.out⟩, ⟨by repeat (first | (with_reducible first | exact HB.out | apply below_alloc | apply pw_below_drewN | apply below_drew1 | refine below_set ?_ GE1090.out | refine below_set ?_ GE1091.out | refine below_set ?_ GE1092.out | refine below_set ?_ GE1101.out | refine below_set ?_ GE1109.out) | exact HB.out)⟩⟩
             ·rw [if_neg c52] at H
              clear c52
              by_cases c55 : x9_3 = 2
              ·subst c55
               have H1 : (spec_JoinSets.l1 k3 x7_2 (wrap64 (2 + 1)) a0_0 l0_1 a1_0 l1_1 (wrap64 (a0_0 + a1_0)) x1102001_2 x1110000_3 x1110001_3 (wrap64 (x1110002_3 + a0_0)) x1110003_3) = some (r1, r2, r3) := by rw [if_pos rfl] at H; exact H
               clear H
               have H := H1
               clear H1
               have H' := Aside0.mk H
               clear H
               try go_wp2
               have n0_ := Aside0.mk (Kd.R_drew HO_1102001.out)
               have n1_ := Aside0.mk (blk_drew BK1090.out)
               have n2_ := Aside0.mk (blk_drew BK1091.out)
               have n3_ := Aside0.mk (blk_drew BK1092.out)
               have n4_ := Aside0.mk (blk_drew BK1101.out)
               have n5_ := Aside0.mk (blk_drew BK1109.out)
               have n6_ := Aside0.mk (below_drew1 HB.out)
               clear HO_1102001
               clear BK1090
               clear BK1091
               clear BK1092
               clear BK1101
               clear BK1109
               clear HB
               have HO_1102001 := n0_
               have BK1090 := n1_
               have BK1091 := n2_
               have BK1092 := n3_
               have BK1101 := n4_
               have BK1109 := n5_
               have HB := n6_
               clear n0_ n1_ n2_ n3_ n4_ n5_ n6_
               refine start_ (n := 9) (S := fun w' => w'.cell? ⟨gb1109, 0, none⟩ = some (.int .i64 x1110000_3) ∧ w'.cell? ⟨gb1109, 1, none⟩ = some (.int .i64 x1110001_3) ∧ w'.cell? ⟨gb1109, 2, none⟩ = some (.int .i64 x1110002_3) ∧ w'.cell? ⟨gb1109, 3, none⟩ = some (.int .i64 x1110003_3) ∧ w'.cell? ⟨gb1090, 0, none⟩ = some (.int .i64 a0_0) ∧ w'.cell? ⟨gb1090, 1, none⟩ = some (.slice A0_1 l0_1.length c0_1)) (ds := [8]) #[false, false, false, false, false, false, false, false, false] (by kernel_rfl) rfl rfl ⟨(blk_cell BK1109.out 0).trans rfl, (blk_cell BK1109.out 1).trans rfl, (blk_cell BK1109.out 2).trans rfl, (blk_cell BK1109.out 3).trans rfl, (blk_cell BK1090.out 0).trans rfl, (blk_cell BK1090.out 1).trans rfl⟩ (fun hHeld => ?_); refine with_tabW spec_JoinSets.tab11 spec_JoinSets.bits11 (fun HT_ HW_ => ?_)
               generalize wr.drew = w56 at HO_1102001 BK1090 BK1091 BK1092 BK1101 BK1109 HB hHeld ⊢
               refine pure_ (i := 0) (N := some 47) (v := ?_) (a' := ?_) #[true, false, false, false, false, false, false, false, false] rfl rfl (any_of HT_.out (by kernel_rfl)) (fun _ _ _ h => h) (Or.inl ⟨by rfl, ?_⟩) ?_ ?_
               rotate_left
               ·intro w'
                go_simp
                with_reducible rfl
               rotate_left
               ·simp only [Act.put, List.setIfInBounds_toArray, List.set_cons_zero, List.set_cons_succ, i64_w, i32_w]
                rfl
               refine pure_ (i := 1) (N := some 48) (v := ?_) (a' := ?_) #[true, true, false, false, false, false, false, false, false] rfl rfl (any_of HT_.out (by kernel_rfl)) (fun _ _ _ h => h) (Or.inl ⟨by rfl, ?_⟩) ?_ ?_
               rotate_left
               ·intro w'
                go_simp
                with_reducible rfl
               rotate_left
               ·simp only [Act.put, List.setIfInBounds_toArray, List.set_cons_zero, List.set_cons_succ, i64_w, i32_w]
                rfl
               refine pure_ (i := 2) (N := some 49) (v := ?_) (a' := ?_) #[true, true, true, false, false, false, false, false, false] rfl rfl (any_of HT_.out (by kernel_rfl)) (fun _ _ _ h => h) (Or.inl ⟨by rfl, ?_⟩) ?_ ?_
               rotate_left
               ·intro w'
                go_simp
                with_reducible rfl
               rotate_left
               ·simp only [Act.put, List.setIfInBounds_toArray, List.set_cons_zero, List.set_cons_succ, i64_w, i32_w]
                rfl
               refine pure_ (i := 4) (N := some 51) (v := ?_) (a' := ?_) #[true, true, true, false, true, false, false, false, false] rfl rfl (any_of HT_.out (by kernel_rfl)) (fun _ _ _ h => h) (Or.inl ⟨by rfl, ?_⟩) ?_ ?_
               rotate_left
               ·intro w'
                go_simp
                with_reducible rfl
               rotate_left
               ·simp only [Act.put, List.setIfInBounds_toArray, List.set_cons_zero, List.set_cons_succ, i64_w, i32_w]
                rfl
               refine take_ (i := 3) (N := some 50) (v := ?_) (a' := ?_) #[true, true, true, true, true, false, false, false, false] rfl rfl (take_ofW HT_.out HW_.out (by kernel_rfl)) (fun _ _ _ h => h) (Or.inl ⟨by rfl, ?_⟩) hHeld ?_ ?_
               rotate_left
               ·rintro w' ⟨s0, s1, s2, s3, s4, s5⟩
                go_simp
                with_reducible rfl
               rotate_left
               ·simp only [Act.put, List.setIfInBounds_toArray, List.set_cons_zero, List.set_cons_succ, i64_w, i32_w]
                rfl
               refine take_ (i := 5) (N := some 52) (v := ?_) (a' := ?_) #[true, true, true, true, true, true, false, false, false] rfl rfl (take_ofW HT_.out HW_.out (by kernel_rfl)) (fun _ _ _ h => h) (Or.inl ⟨by rfl, ?_⟩) hHeld ?_ ?_
               rotate_left
               ·rintro w' ⟨s0, s1, s2, s3, s4, s5⟩
                go_simp
                with_reducible rfl
               rotate_left
               ·simp only [Act.put, List.setIfInBounds_toArray, List.set_cons_zero, List.set_cons_succ, i64_w, i32_w]
                rfl
               refine pure_ (i := 6) (N := some 53) (v := ?_) (a' := ?_) #[true, true, true, true, true, true, true, false, false] rfl rfl (any_of HT_.out (by kernel_rfl)) (fun _ _ _ h => h) (Or.inl ⟨by rfl, ?_⟩) ?_ ?_
               rotate_left
               ·intro w'
                go_simp
                with_reducible rfl
               rotate_left
               ·simp only [Act.put, List.setIfInBounds_toArray, List.set_cons_zero, List.set_cons_succ, i64_w, i32_w]
                rfl
               refine pure_ (i := 7) (N := some 54) (v := ?_) (a' := ?_) #[true, true, true, true, true, true, true, true, false] rfl rfl (any_of HT_.out (by kernel_rfl)) (fun _ _ _ h => h) (Or.inl ⟨by rfl, ?_⟩) ?_ ?_
               rotate_left
               ·intro w'
                go_simp
                with_reducible rfl
               rotate_left
               ·simp only [Act.put, List.setIfInBounds_toArray, List.set_cons_zero, List.set_cons_succ, i64_w, i32_w]
                rfl
               refine last_ (i := 8) (N := none) #[true, true, true, true, true, true, true, true, true] rfl rfl (one_of HT_.out (by kernel_rfl)) (by decide) (fun K hK => ?_)
               have hs57 : w56.cell? ⟨gb1109, 2, none⟩ = some (.int .i64 x1110002_3) := (blk_cell BK1109.out 2).trans rfl
               have hfs57 := blk_frozen BK1109.out 2
               have hns57_0 := NB1090_1109.out
               have hns57_1 := NB1091_1109.out
               have hns57_2 := NB1092_1109.out
               have hns57_3 := NB1101_1109.out
               have hms57_0 := NB1109_1090.out
               have hms57_1 := NB1109_1091.out
               have hms57_2 := NB1109_1092.out
               have hms57_3 := NB1109_1101.out
               refine skip_ (w1 := ?_) (by rfl) rfl ?_ ?_
               rotate_left
               ·go_simp
                rfl
               refine hK.out _ _ ?_
               clear hK K
               refine done_ (done_of HT_.out (by kernel_rfl)) ?_
               try go_wp2
               go_roundg k3
               case measure => have := HJ2.out; have := HK2.out; have := HK3.out; omega
               case rel => exact ⟨(wrap64 (2 + 1)), (x1110000_3), (x1110001_3), (wrap64 (x1110002_3 + a0_0)), (x1110003_3), (by first | rfl | (simp; done) | (simp [*]; done) | (simp; decide +kernel)), H', ⟨by have := HJ2.out; have := HK2.out; have := HK3.out; omega⟩, ⟨by (with_reducible repeat (first | apply Kd.R_alloc | apply Kd.R_drewN | apply Kd.R_drew)); exact Kd.R_mono (Kd.R_far (p := ⟨gb1109, 2, none⟩) (Kd.R_mono HO_1102001.out (fun k_ hk => (⟨hk, hk⟩ : _ ∧ k_ ≠ gb1109))) (fun _ hk => hk.2) (.int .i64 (wrap64 (x1110002_3 + a0_0)))) (fun _ hk => hk.1)⟩, ⟨by (with_reducible repeat (first | refine blk_drewN ?_ _ | refine blk_drew ?_ | refine blk_alloc ?_ _)); refine blk_far ?_ NB1090_1109.out _; (with_reducible repeat (first | refine blk_drewN ?_ _ | refine blk_drew ?_ | refine blk_alloc ?_ _)); exact BK1090.out⟩, ⟨by (with_reducible repeat (first | refine blk_drewN ?_ _ | refine blk_drew ?_ | refine blk_alloc ?_ _)); refine blk_far ?_ NB1091_1109.out _; (with_reducible repeat (first | refine blk_drewN ?_ _ | refine blk_drew ?_ | refine blk_alloc ?_ _)); exact BK1091.out⟩, ⟨by (with_reducible repeat (first | refine blk_drewN ?_ _ | refine blk_drew ?_ | refine blk_alloc ?_ _)); refine blk_far ?_ NB1092_1109.out _; (with_reducible repeat (first | refine blk_drewN ?_ _ | refine blk_drew ?_ | refine blk_alloc ?_ _)); exact BK1092.out⟩, ⟨by (with_reducible repeat (first | refine blk_drewN ?_ _ | refine blk_drew ?_ | refine blk_alloc ?_ _)); refine blk_far ?_ NB1101_1109.out _; (with_reducible repeat (first | refine blk_drewN ?_ _ | refine blk_drew ?_ | refine blk_alloc ?_ _)); exact BK1101.out⟩, ⟨by (with_reducible repeat (first | refine blk_drewN ?_ _ | refine blk_drew ?_ | refine blk_alloc ?_ _)); refine blk_put (cs := #[.int .i64 x1110000_3, .int .i64 x1110001_3, .int .i64 x1110002_3, .int .i64 x1110003_3]) ?_ 2 _ rfl; (with_reducible repeat (first | refine blk_drewN ?_ _ | refine blk_drew ?_ | refine blk_alloc ?_ _)); exact BK1109.out⟩, ⟨by repeat (first | (with_reducible first | exact HB.out | apply below_alloc | apply pw_below_drewN | apply below_drew1 | refine below_set ?_ GE1090.out | refine below_set ?_ GE1091.out | refine below_set ?_ GE1092.out | refine below_set ?_ GE1101.out | refine below_set ?_ GE1109.out) | exact HB.out)⟩⟩
              ·rw [if_neg c55] at H
               clear c55
               by_cases c58 : x9_3 = 3
               ·subst c58
                have H1 : (spec_JoinSets.l1 k3 x7_2 (wrap64 (3 + 1)) a0_0 l0_1 a1_0 l1_1 (wrap64 (a0_0 + a1_0)) x1102001_2 x1110000_3 x1110001_3 x1110002_3 (wrap64 (x1110003_3 + a0_0))) = some (r1, r2, r3) := by rw [if_pos rfl] at H; exact H
                clear H
                have H := H1
                clear H1
                have H' := Aside0.mk H
                clear H
                try go_wp2
                have n0_ := Aside0.mk (Kd.R_drew HO_1102001.out)
                have n1_ := Aside0.mk (blk_drew BK1090.out)
                have n2_ := Aside0.mk (blk_drew BK1091.out)
                have n3_ := Aside0.mk (blk_drew BK1092.out)
                have n4_ := Aside0.mk (blk_drew BK1101.out)
                have n5_ := Aside0.mk (blk_drew BK1109.out)
                have n6_ := Aside0.mk (below_drew1 HB.out)
                clear HO_1102001
                clear BK1090
                clear BK1091
                clear BK1092
                clear BK1101
                clear BK1109
                clear HB
                have HO_1102001 := n0_
                have BK1090 := n1_
                have BK1091 := n2_
                have BK1092 := n3_
                have BK1101 := n4_
                have BK1109 := n5_
                have HB := n6_
                clear n0_ n1_ n2_ n3_ n4_ n5_ n6_
                refine start_ (n := 9) (S := fun w' => w'.cell? ⟨gb1109, 0, none⟩ = some (.int .i64 x1110000_3) ∧ w'.cell? ⟨gb1109, 1, none⟩ = some (.int .i64 x1110001_3) ∧ w'.cell? ⟨gb1109, 2, none⟩ = some (.int .i64 x1110002_3) ∧ w'.cell? ⟨gb1109, 3, none⟩ = some (.int .i64 x1110003_3) ∧ w'.cell? ⟨gb1090, 0, none⟩ = some (.int .i64 a0_0) ∧ w'.cell? ⟨gb1090, 1, none⟩ = some (.slice A0_1 l0_1.length c0_1)) (ds := [8]) #[false, false, false, false, false, false, false, false, false] (by kernel_rfl) rfl rfl ⟨(blk_cell BK1109.out 0).trans rfl, (blk_cell BK1109.out 1).trans rfl, (blk_cell BK1109.out 2).trans rfl, (blk_cell BK1109.out 3).trans rfl, (blk_cell BK1090.out 0).trans rfl, (blk_cell BK1090.out 1).trans rfl⟩ (fun hHeld => ?_); refine with_tabW spec_JoinSets.tab11 spec_JoinSets.bits11 (fun HT_ HW_ => ?_)
                generalize wr.drew = w59 at HO_1102001 BK1090 BK1091 BK1092 BK1101 BK1109 HB hHeld ⊢
                refine pure_ (i := 0) (N := some 47) (v := ?_) (a' := ?_) #[true, false, false, false, false, false, false, false, false] rfl rfl (any_of HT_.out (by kernel_rfl)) (fun _ _ _ h => h) (Or.inl ⟨by rfl, ?_⟩) ?_ ?_
                rotate_left
                ·intro w'
                 go_simp
                 with_reducible rfl
                rotate_left
                ·simp only [Act.put, List.setIfInBounds_toArray, List.set_cons_zero, List.set_cons_succ, i64_w, i32_w]
                 rfl
                refine pure_ (i := 1) (N := some 48) (v := ?_) (a' := ?_) #[true, true, false, false, false, false, false, false, false] rfl rfl (any_of HT_.out (by kernel_rfl)) (fun _ _ _ h => h) (Or.inl ⟨by rfl, ?_⟩) ?_ ?_
                rotate_left
                ·intro w'
                 go_simp
                 with_reducible rfl
                rotate_left
                ·simp only [Act.put, List.setIfInBounds_toArray, List.set_cons_zero, List.set_cons_succ, i64_w, i32_w]
                 rfl
                refine pure_ (i := 2) (N := some 49) (v := ?_) (a' := ?_) #[true, true, true, false, false, false, false, false, false] rfl rfl (any_of HT_.out (by kernel_rfl)) (fun _ _ _ h => h) (Or.inl ⟨by rfl, ?_⟩) ?_ ?_
                rotate_left
                ·intro w'
                 go_simp
                 with_reducible rfl
                rotate_left
                ·simp only [Act.put, List.setIfInBounds_toArray, List.set_cons_zero, List.set_cons_succ, i64_w, i32_w]
                 rfl
                refine pure_ (i := 4) (N := some 51) (v := ?_) (a' := ?_) #[true, true, true, false, true, false, false, false, false] rfl rfl (any_of HT_.out (by kernel_rfl)) (fun _ _ _ h => h) (Or.inl ⟨by rfl, ?_⟩) ?_ ?_
                rotate_left
                ·intro w'
                 go_simp
                 with_reducible rfl
                rotate_left
                ·simp only [Act.put, List.setIfInBounds_toArray, List.set_cons_zero, List.set_cons_succ, i64_w, i32_w]
                 rfl
                refine take_ (i := 3) (N := some 50) (v := ?_) (a' := ?_) #[true, true, true, true, true, false, false, false, false] rfl rfl (take_ofW HT_.out HW_.out (by kernel_rfl)) (fun _ _ _ h => h) (Or.inl ⟨by rfl, ?_⟩) hHeld ?_ ?_
                rotate_left
                ·rintro w' ⟨s0, s1, s2, s3, s4, s5⟩
                 go_simp
                 with_reducible rfl
                rotate_left
                ·simp only [Act.put, List.setIfInBounds_toArray, List.set_cons_zero, List.set_cons_succ, i64_w, i32_w]
                 rfl
                refine take_ (i := 5) (N := some 52) (v := ?_) (a' := ?_) #[true, true, true, true, true, true, false, false, false] rfl rfl (take_ofW HT_.out HW_.out (by kernel_rfl)) (fun _ _ _ h => h) (Or.inl ⟨by rfl, ?_⟩) hHeld ?_ ?_
                rotate_left
                ·rintro w' ⟨s0, s1, s2, s3, s4, s5⟩
                 go_simp
                 with_reducible rfl
                rotate_left
                ·simp only [Act.put, List.setIfInBounds_toArray, List.set_cons_zero, List.set_cons_succ, i64_w, i32_w]
                 rfl
                refine pure_ (i := 6) (N := some 53) (v := ?_) (a' := ?_) #[true, true, true, true, true, true, true, false, false] rfl rfl (any_of HT_.out (by kernel_rfl)) (fun _ _ _ h => h) (Or.inl ⟨by rfl, ?_⟩) ?_ ?_
                rotate_left
                ·intro w'
                 go_simp
                 with_reducible rfl
                rotate_left
                ·simp only [Act.put, List.setIfInBounds_toArray, List.set_cons_zero, List.set_cons_succ, i64_w, i32_w]
                 rfl
                refine pure_ (i := 7) (N := some 54) (v := ?_) (a' := ?_) #[true, true, true, true, true, true, true, true, false] rfl rfl (any_of HT_.out (by kernel_rfl)) (fun _ _ _ h => h) (Or.inl ⟨by rfl, ?_⟩) ?_ ?_
                rotate_left
                ·intro w'
                 go_simp
                 with_reducible rfl
                rotate_left
                ·simp only [Act.put, List.setIfInBounds_toArray, List.set_cons_zero, List.set_cons_succ, i64_w, i32_w]
                 rfl
                refine last_ (i := 8) (N := none) #[true, true, true, true, true, true, true, true, true] rfl rfl (one_of HT_.out (by kernel_rfl)) (by decide) (fun K hK => ?_)
                have hs60 : w59.cell? ⟨gb1109, 3, none⟩ = some (.int .i64 x1110003_3) := (blk_cell BK1109.out 3).trans rfl
                have hfs60 := blk_frozen BK1109.out 3
                have hns60_0 := NB1090_1109.out
                have hns60_1 := NB1091_1109.out
                have hns60_2 := NB1092_1109.out
                have hns60_3 := NB1101_1109.out
                have hms60_0 := NB1109_1090.out
                have hms60_1 := NB1109_1091.out
                have hms60_2 := NB1109_1092.out
                have hms60_3 := NB1109_1101.out
                refine skip_ (w1 := ?_) (by rfl) rfl ?_ ?_
                rotate_left
                ·go_simp
                 rfl
                refine hK.out _ _ ?_
                clear hK K
                refine done_ (done_of HT_.out (by kernel_rfl)) ?_
                try go_wp2
                go_roundg k3
                case measure => have := HJ2.out; have := HK2.out; have := HK3.out; omega
                case rel => exact ⟨(wrap64 (3 + 1)), (x1110000_3), (x1110001_3), (x1110002_3), (wrap64 (x1110003_3 + a0_0)), (by first | rfl | (simp; done) | (simp [*]; done) | (simp; decide +kernel)), H', ⟨by have := HJ2.out; have := HK2.out; have := HK3.out; omega⟩, ⟨by (with_reducible repeat (first | apply Kd.R_alloc | apply Kd.R_drewN | apply Kd.R_drew)); exact Kd.R_mono (Kd.R_far (p := ⟨gb1109, 3, none⟩) (Kd.R_mono HO_1102001.out (fun k_ hk => (⟨hk, hk⟩ : _ ∧ k_ ≠ gb1109))) (fun _ hk => hk.2) (.int .i64 (wrap64 (x1110003_3 + a0_0)))) (fun _ hk => hk.1)⟩, ⟨by (with_reducible repeat (first | refine blk_drewN ?_ _ | refine blk_drew ?_ | refine blk_alloc ?_ _)); refine blk_far ?_ NB1090_1109.out _; (with_reducible repeat (first | refine blk_drewN ?_ _ | refine blk_drew ?_ | refine blk_alloc ?_ _)); exact BK1090.out⟩, ⟨by (with_reducible repeat (first | refine blk_drewN ?_ _ | refine blk_drew ?_ | refine blk_alloc ?_ _)); refine blk_far ?_ NB1091_1109.out _; (with_reducible repeat (first | refine blk_drewN ?_ _ | refine blk_drew ?_ | refine blk_alloc ?_ _)); exact BK1091.out⟩, ⟨by (with_reducible repeat (first | refine blk_drewN ?_ _ | refine blk_drew ?_ | refine blk_alloc ?_ _)); refine blk_far ?_ NB1092_1109.out _; (with_reducible repeat (first | refine blk_drewN ?_ _ | refine blk_drew ?_ | refine blk_alloc ?_ _)); exact BK1092.out⟩, ⟨by (with_reducible repeat (first | refine blk_drewN ?_ _ | refine blk_drew ?_ | refine blk_alloc ?_ _)); refine blk_far ?_ NB1101_1109.out _; (with_reducible repeat (first | refine blk_drewN ?_ _ | refine blk_drew ?_ | refine blk_alloc ?_ _)); exact BK1101.out⟩, ⟨by (with_reducible repeat (first | refine blk_drewN ?_ _ | refine blk_drew ?_ | refine blk_alloc ?_ _)); refine blk_put (cs := #[.int .i64 x1110000_3, .int .i64 x1110001_3, .int .i64 x1110002_3, .int .i64 x1110003_3]) ?_ 3 _ rfl; (with_reducible repeat (first | refine blk_drewN ?_ _ | refine blk_drew ?_ | refine blk_alloc ?_ _)); exact BK1109.out⟩, ⟨by repeat (first | (with_reducible first | exact HB.out | apply below_alloc | apply pw_below_drewN | apply below_drew1 | refine below_set ?_ GE1090.out | refine below_set ?_ GE1091.out | refine below_set ?_ GE1092.out | refine below_set ?_ GE1101.out | refine below_set ?_ GE1109.out) | exact HB.out)⟩⟩
               ·rw [if_neg c58] at H
                clear c58
                exact absurd H (by simp)
           ·rw [if_neg c48] at H
            have c48b0 : decide (x9_3 < 4) = false := decide_eq_false c48
            clear c48
            by_cases c61 : x1102001_2.length < 4398046511104
            ·rw [if_pos c61] at H
             have LMc61 := Aside0.mk c61
             clear c61
             obtain ⟨y1110, hy1110⟩ : ∃ y_ : List (S45), y_ = (x1102001_2 ++ [(⟨x1110000_3, x1110001_3, x1110002_3, x1110003_3⟩ : S45)]) := ⟨_, rfl⟩
             replace H : (spec_JoinSets.l0 k3 (wrap64 (x7_2 + 1)) a0_0 l0_1 a1_0 l1_1 (wrap64 (a0_0 + a1_0)) y1110) = some (r1, r2, r3) := by first | (rw [hy1110]; with_reducible exact H) | (have H2_ := (Option.bind_some _ _).symm.trans H; rw [hy1110]; with_reducible exact H2_) | (have H2_ := (Option.bind_some _ _).symm.trans H; with_reducible exact H2_) | with_reducible exact H | (rw [hy1110]; exact H) | exact H
             have Ny1110 := Aside0.mk hy1110
             clear hy1110
             have H' := Aside0.mk H
             clear H
             have hnb62 := NB1101_1090.out
             have hnc62 := NB1090_1101.out
             have hnb63 := NB1101_1091.out
             have hnc63 := NB1091_1101.out
             have hnb64 := NB1101_1092.out
             have hnc64 := NB1092_1101.out
             have hnb65 := NB1101_1109.out
             have hnc65 := NB1109_1101.out
             have hcz66_0 : wr.cell? ⟨gb1101, 0, none⟩ = some (.int .i64 (wrap64 (a0_0 + a1_0))) := (blk_cell BK1101.out 0).trans rfl
             have hcz66_1 : wr.cell? ⟨gb1101, 1, none⟩ = some (u1102001) := (blk_cell BK1101.out 1).trans rfl
             have hfz66_0 := blk_frozen BK1101.out 0
             have hfz66_1 := blk_frozen BK1101.out 1
             have hnb67 := NB1109_1090.out
             have hnc67 := NB1090_1109.out
             have hnb68 := NB1109_1091.out
             have hnc68 := NB1091_1109.out
             have hnb69 := NB1109_1092.out
             have hnc69 := NB1092_1109.out
             have hcz70_0 : wr.cell? ⟨gb1109, 0, none⟩ = some (.int .i64 x1110000_3) := (blk_cell BK1109.out 0).trans rfl
             have hcz70_1 : wr.cell? ⟨gb1109, 1, none⟩ = some (.int .i64 x1110001_3) := (blk_cell BK1109.out 1).trans rfl
             have hcz70_2 : wr.cell? ⟨gb1109, 2, none⟩ = some (.int .i64 x1110002_3) := (blk_cell BK1109.out 2).trans rfl
             have hcz70_3 : wr.cell? ⟨gb1109, 3, none⟩ = some (.int .i64 x1110003_3) := (blk_cell BK1109.out 3).trans rfl
             have hfz70_0 := blk_frozen BK1109.out 0
             have hfz70_1 := blk_frozen BK1109.out 1
             have hfz70_2 := blk_frozen BK1109.out 2
             have hfz70_3 := blk_frozen BK1109.out 3
             go_wp2_with (first | ((with_reducible refine gate_builtin (b := .append) (xs := #[.tmp 56, .tmp 58]) rfl ?_); at_builtin; refine Kd.R_append k45 (w0 := w) w.heap.size rfl (.tmp 56) (.tmp 58) 24 45 (.agg #[(.int .i64 0), (.int .i64 0), (.int .i64 0), (.int .i64 0)]) 32 rfl Try.underlying24 info45 rfl (by decide) (by omega) u1102001 x1102001_2 (⟨x1110000_3, x1110001_3, x1110002_3, x1110003_3⟩ : S45) [.int .i64 x1110000_3, .int .i64 x1110001_3, .int .i64 x1110002_3, .int .i64 x1110003_3] (fun k_ => k_ ≠ gb1109) (fun _ => False) rfl rfl ?aP (fun _ hk => hk.elim) ?aF ?aO ?aB ?aS ?aL ?_; (case aP => exact k45_mkM _ _ _ (⟨x1110000_3, x1110001_3, x1110002_3, x1110003_3⟩ : S45)); (case aB => exact (by repeat (first | (with_reducible first | exact HB.out | apply below_alloc | apply pw_below_drewN | apply below_drew1 | refine below_set ?_ GE1090.out | refine below_set ?_ GE1091.out | refine below_set ?_ GE1092.out | refine below_set ?_ GE1101.out | refine below_set ?_ GE1109.out) | exact HB.out))); (case aF => exact (fun k_ hk => Kd.freshB (g := gb1109) (o := .cells #[.int .i64 x1110000_3, .int .i64 x1110001_3, .int .i64 x1110002_3, .int .i64 x1110003_3] 45 (0, 0)) (by (with_reducible repeat (first | refine blk_drewN ?_ _ | refine blk_drew ?_ | refine blk_alloc ?_ _)); exact BK1109.out) k_ hk)); (case aO => exact (by (with_reducible repeat (first | apply Kd.R_alloc | apply Kd.R_drewN | apply Kd.R_drew)); exact HO_1102001.out)); (case aS => exact (below_size (by repeat (first | (with_reducible first | exact HB.out | apply below_alloc | apply pw_below_drewN | apply below_drew1 | refine below_set ?_ GE1090.out | refine below_set ?_ GE1091.out | refine below_set ?_ GE1092.out | refine below_set ?_ GE1101.out | refine below_set ?_ GE1109.out) | exact HB.out)))); (case aL => have := LMc61.out; omega); intro v1111 w71 ho hb hg hat; rw [← Ny1110.out] at ho; have n0_ := Aside0.mk (blk_grown (g := gb1090) (o := .cells #[.int .i64 a0_0, .slice A0_1 l0_1.length c0_1] 26 (0, 0)) (by (with_reducible repeat (first | refine blk_drewN ?_ _ | refine blk_drew ?_ | refine blk_alloc ?_ _)); exact BK1090.out) hg (Kd.R_ne HO_1102001.out BK1090.out (by decide))); have n1_ := Aside0.mk (blk_grown (g := gb1091) (o := .cells #[.int .i64 a1_0, .slice (some ad1108) l1_1.length c1_1] 26 (0, 0)) (by (with_reducible repeat (first | refine blk_drewN ?_ _ | refine blk_drew ?_ | refine blk_alloc ?_ _)); exact BK1091.out) hg (Kd.R_ne HO_1102001.out BK1091.out (by decide))); have n2_ := Aside0.mk (blk_grown (g := gb1092) (o := .cells #[.int .i64 0, .slice none 0 0] 26 (0, 0)) (by (with_reducible repeat (first | refine blk_drewN ?_ _ | refine blk_drew ?_ | refine blk_alloc ?_ _)); exact BK1092.out) hg (Kd.R_ne HO_1102001.out BK1092.out (by decide))); have n3_ := Aside0.mk (blk_grown (g := gb1101) (o := .cells #[.int .i64 (wrap64 (a0_0 + a1_0)), u1102001] 26 (0, 0)) (by (with_reducible repeat (first | refine blk_drewN ?_ _ | refine blk_drew ?_ | refine blk_alloc ?_ _)); exact BK1101.out) hg (Kd.R_ne HO_1102001.out BK1101.out (by decide))); have n4_ := Aside0.mk (blk_grown (g := gb1109) (o := .cells #[.int .i64 x1110000_3, .int .i64 x1110001_3, .int .i64 x1110002_3, .int .i64 x1110003_3] 45 (0, 0)) (by (with_reducible repeat (first | refine blk_drewN ?_ _ | refine blk_drew ?_ | refine blk_alloc ?_ _)); exact BK1109.out) hg (Kd.R_away HO_1102001.out (fun _ hk => hk))); have n5_ := Aside0.mk (hb); have n6_ := Aside0.mk (ho); clear BK1090; clear BK1091; clear BK1092; clear BK1101; clear BK1109; clear HB; clear HO_1102001; have BK1090 := n0_; have BK1091 := n1_; have BK1092 := n2_; have BK1101 := n3_; have BK1109 := n4_; have HB := n5_; have HO1112 := n6_; clear n0_ n1_ n2_ n3_ n4_ n5_ n6_; clear ho hb hg hat; obtain ⟨Ao72, co72, eo72⟩ := Kd.R_slice HO1112.out; subst eo72; have hcz73_0 : w71.cell? ⟨gb1101, 0, none⟩ = some (.int .i64 (wrap64 (a0_0 + a1_0))) := (blk_cell BK1101.out 0).trans rfl; have hcz73_1 : w71.cell? ⟨gb1101, 1, none⟩ = some (u1102001) := (blk_cell BK1101.out 1).trans rfl; have hfz73_0 := blk_frozen BK1101.out 0; have hfz73_1 := blk_frozen BK1101.out 1))
             go_roundg k3
             case measure => have := HJ2.out; have := HK2.out; have := HK3.out; omega
             case rel => exact ⟨(wrap64 (x7_2 + 1)), (y1110), (.slice Ao72 y1110.length co72), (by first | rfl | (simp; done) | (simp [*]; done) | (simp; decide +kernel)), H', ⟨by have := HJ2.out; have := HK2.out; have := HK3.out; omega⟩, ⟨by (with_reducible repeat (first | apply Kd.R_alloc | apply Kd.R_drewN | apply Kd.R_drew)); exact Kd.R_mono (Kd.R_far (p := ⟨gb1101, 1, none⟩) (Kd.R_types HO1112.out BK1101.out (by decide)) (fun _ hk => hk.2) (.slice Ao72 y1110.length co72)) (fun _ hk => trivial)⟩, ⟨by (with_reducible repeat (first | refine blk_drewN ?_ _ | refine blk_drew ?_ | refine blk_alloc ?_ _)); refine blk_far ?_ NB1090_1101.out _; (with_reducible repeat (first | refine blk_drewN ?_ _ | refine blk_drew ?_ | refine blk_alloc ?_ _)); exact BK1090.out⟩, ⟨by (with_reducible repeat (first | refine blk_drewN ?_ _ | refine blk_drew ?_ | refine blk_alloc ?_ _)); refine blk_far ?_ NB1091_1101.out _; (with_reducible repeat (first | refine blk_drewN ?_ _ | refine blk_drew ?_ | refine blk_alloc ?_ _)); exact BK1091.out⟩, ⟨by (with_reducible repeat (first | refine blk_drewN ?_ _ | refine blk_drew ?_ | refine blk_alloc ?_ _)); refine blk_far ?_ NB1092_1101.out _; (with_reducible repeat (first | refine blk_drewN ?_ _ | refine blk_drew ?_ | refine blk_alloc ?_ _)); exact BK1092.out⟩, ⟨by (with_reducible repeat (first | refine blk_drewN ?_ _ | refine blk_drew ?_ | refine blk_alloc ?_ _)); refine blk_put (cs := #[.int .i64 (wrap64 (a0_0 + a1_0)), u1102001]) ?_ 1 _ rfl; (with_reducible repeat (first | refine blk_drewN ?_ _ | refine blk_drew ?_ | refine blk_alloc ?_ _)); exact BK1101.out⟩, ⟨by repeat (first | (with_reducible first | exact HB.out | apply below_alloc | apply pw_below_drewN | apply below_drew1 | refine below_set ?_ GE1090.out | refine below_set ?_ GE1091.out | refine below_set ?_ GE1092.out | refine below_set ?_ GE1101.out | refine below_set ?_ GE1109.out) | exact HB.out)⟩⟩
            ·rw [if_neg c61] at H
             exact absurd H (by simp)
        ·rw [if_neg c37] at H
         exact absurd H (by simp)
       ·rw [if_neg c36] at H
        have c36b0 : decide (x7_2 < (l1_1.length : Int)) = false := decide_eq_false c36
        clear c36
        replace H := Option.bind_eq_some_iff.mp H
        obtain ⟨⟨t1102, t1103, t1106⟩, A740, H⟩ := H
        replace H : (some (t1102, t1103, t1106)) = some (r1, r2, r3) := H
        have A74 := Aside0.mk A740
        clear A740
        simp only [Option.some.injEq, Prod.mk.injEq] at H
        obtain ⟨rfl, rfl, rfl⟩ := H
        have hnb75 := NB1091_1090.out
        have hnc75 := NB1090_1091.out
        have hnb76 := NB1091_1092.out
        have hnc76 := NB1092_1091.out
        have hnb77 := NB1091_1101.out
        have hnc77 := NB1101_1091.out
        have hcz78_0 : wr.cell? ⟨gb1091, 0, none⟩ = some (.int .i64 a1_0) := (blk_cell BK1091.out 0).trans rfl
        have hcz78_1 : wr.cell? ⟨gb1091, 1, none⟩ = some (.slice A1_1 l1_1.length c1_1) := (blk_cell BK1091.out 1).trans rfl
        have hfz78_0 := blk_frozen BK1091.out 0
        have hfz78_1 := blk_frozen BK1091.out 1
        have hnb79 := NB1101_1090.out
        have hnc79 := NB1090_1101.out
        have hnb80 := NB1101_1092.out
        have hnc80 := NB1092_1101.out
        have hcz81_0 : wr.cell? ⟨gb1101, 0, none⟩ = some (.int .i64 (wrap64 (a0_0 + a1_0))) := (blk_cell BK1101.out 0).trans rfl
        have hcz81_1 : wr.cell? ⟨gb1101, 1, none⟩ = some (u1102001) := (blk_cell BK1101.out 1).trans rfl
        have hfz81_0 := blk_frozen BK1101.out 0
        have hfz81_1 := blk_frozen BK1101.out 1
        obtain ⟨Ao82, co82, eo82⟩ := Kd.R_slice HO_1102001.out
        subst eo82
        go_wp2_with (first | ((with_reducible refine gate_callee (f := 51) rfl ?_); refine goesL_ (some 63) rfl rfl Try.func51 (by kernel_rfl) rfl #[.agg #[.int .i64 (wrap64 (a0_0 + a1_0)), .slice Ao82 x1102001_2.length co82]] rfl (by (try simp only [List.map_toArray, List.map_cons, List.map_nil]); first | done | rfl | (simp only [List.length_drop, List.length_take]; rfl)) ?_; (with_reducible refine (spec_l01Told.calls (wrap64 (a0_0 + a1_0)) (fun k_ => some k_ = (.slice Ao82 x1102001_2.length co82 : Value).ownBlock) (.slice Ao82 x1102001_2.length co82) x1102001_2 t1102 t1103 t1106 w _ ?side1 ?side2 A74.out).mono ?_); (case side1 => repeat (first | (with_reducible first | exact HB.out | apply below_alloc | apply pw_below_drewN | apply below_drew1 | refine below_set ?_ GE1090.out | refine below_set ?_ GE1091.out | refine below_set ?_ GE1092.out | refine below_set ?_ GE1101.out) | exact HB.out)); (case side2 => exact Kd.R_tight rfl HO_1102001.out); rintro e w83 ⟨v1104, rfl, ho0, hb, hkp⟩; refine ⟨_, rfl, ?_⟩; have n0_ := Aside0.mk (blk_kept (by (with_reducible repeat (first | refine blk_drewN ?_ _ | refine blk_drew ?_ | refine blk_alloc ?_ _)); exact BK1090.out) hkp (fun hs_ => (fun e_ => (Kd.R_ne HO_1102001.out BK1090.out (by decide)) e_) hs_)); have n1_ := Aside0.mk (blk_kept (by (with_reducible repeat (first | refine blk_drewN ?_ _ | refine blk_drew ?_ | refine blk_alloc ?_ _)); exact BK1091.out) hkp (fun hs_ => (fun e_ => (Kd.R_ne HO_1102001.out BK1091.out (by decide)) e_) hs_)); have n2_ := Aside0.mk (blk_kept (by (with_reducible repeat (first | refine blk_drewN ?_ _ | refine blk_drew ?_ | refine blk_alloc ?_ _)); exact BK1092.out) hkp (fun hs_ => (fun e_ => (Kd.R_ne HO_1102001.out BK1092.out (by decide)) e_) hs_)); have n3_ := Aside0.mk (blk_kept (by (with_reducible repeat (first | refine blk_drewN ?_ _ | refine blk_drew ?_ | refine blk_alloc ?_ _)); exact BK1101.out) hkp (fun hs_ => (fun e_ => (Kd.R_ne HO_1102001.out BK1101.out (by decide)) e_) hs_)); have n4_ := Aside0.mk (Kd.R_mono (ok' := fun k_ => True) ho0 (fun k_ hk_ => trivial)); have n5_ := Aside0.mk (hb); clear BK1090; clear BK1091; clear BK1092; clear BK1101; clear HB; clear HO_1102001; have BK1090 := n0_; have BK1091 := n1_; have BK1092 := n2_; have BK1101 := n3_; have HO1105 := n4_; have HB := n5_; clear n0_ n1_ n2_ n3_ n4_ n5_; (try clear hb); (try clear hkp); (try clear ho0)) | ((with_reducible refine gate_dst (N := 10) rfl ?_); refine box_event ?hg (N := 10) ?hd (cs := #[.int .i64 0, .slice none 0 0]) (t := 26) ?hr ?_; (case hd => rfl); (case hg => rfl); (case hr => first | (go_simp; done) | (go_simp; rfl)); intro gb1107 hg w84 hbox hb; have n0_ := Aside0.mk (Kd.R_below (by (with_reducible repeat (first | apply Kd.R_alloc | apply Kd.R_drewN | apply Kd.R_drew)); exact HO1105.out) hb); have n1_ := Aside0.mk (blk_below (g := gb1090) (o := .cells #[.int .i64 a0_0, .slice A0_1 l0_1.length c0_1] 26 (0, 0)) (by (with_reducible repeat (first | refine blk_drewN ?_ _ | refine blk_drew ?_ | refine blk_alloc ?_ _)); exact BK1090.out) hb); have n2_ := Aside0.mk (blk_below (g := gb1091) (o := .cells #[.int .i64 a1_0, .slice A1_1 l1_1.length c1_1] 26 (0, 0)) (by (with_reducible repeat (first | refine blk_drewN ?_ _ | refine blk_drew ?_ | refine blk_alloc ?_ _)); exact BK1091.out) hb); have n3_ := Aside0.mk (blk_below (g := gb1092) (o := .cells #[.int .i64 0, .slice none 0 0] 26 (0, 0)) (by (with_reducible repeat (first | refine blk_drewN ?_ _ | refine blk_drew ?_ | refine blk_alloc ?_ _)); exact BK1092.out) hb); have n4_ := Aside0.mk (blk_below (g := gb1101) (o := .cells #[.int .i64 (wrap64 (a0_0 + a1_0)), .slice Ao82 x1102001_2.length co82] 26 (0, 0)) (by (with_reducible repeat (first | refine blk_drewN ?_ _ | refine blk_drew ?_ | refine blk_alloc ?_ _)); exact BK1101.out) hb); have n5_ := Aside0.mk (below_step (by repeat (first | (with_reducible first | exact HB.out | apply below_alloc | apply pw_below_drewN | apply below_drew1 | refine below_set ?_ GE1090.out | refine below_set ?_ GE1091.out | refine below_set ?_ GE1092.out | refine below_set ?_ GE1101.out) | exact HB.out)) hb); have n6_ := Aside0.mk (hbox); have n7_ := Aside0.mk ((by rw [hg]; exact (below_size (by repeat (first | (with_reducible first | exact HB.out | apply below_alloc | apply pw_below_drewN | apply below_drew1 | refine below_set ?_ GE1090.out | refine below_set ?_ GE1091.out | refine below_set ?_ GE1092.out | refine below_set ?_ GE1101.out) | exact HB.out))) : w.heap.size ≤ gb1107)); have n8_ := Aside0.mk ((by rw [hg]; exact (below_size (by repeat (first | (with_reducible first | exact HB.out | apply below_alloc | apply pw_below_drewN | apply below_drew1 | refine below_set ?_ GE1090.out | refine below_set ?_ GE1091.out | refine below_set ?_ GE1092.out | refine below_set ?_ GE1101.out) | exact HB.out))) : w.heap.size ≤ gb1107)); have n9_ := Aside0.mk ((by rw [hg]; exact Nat.ne_of_lt (blk_lt (g := gb1090) (o := .cells #[.int .i64 a0_0, .slice A0_1 l0_1.length c0_1] 26 (0, 0)) (by (with_reducible repeat (first | refine blk_drewN ?_ _ | refine blk_drew ?_ | refine blk_alloc ?_ _)); exact BK1090.out)) : gb1090 ≠ gb1107)); have n10_ := Aside0.mk ((by rw [hg]; exact Nat.ne_of_gt (blk_lt (g := gb1090) (o := .cells #[.int .i64 a0_0, .slice A0_1 l0_1.length c0_1] 26 (0, 0)) (by (with_reducible repeat (first | refine blk_drewN ?_ _ | refine blk_drew ?_ | refine blk_alloc ?_ _)); exact BK1090.out)) : gb1107 ≠ gb1090)); have n11_ := Aside0.mk ((by rw [hg]; exact Nat.ne_of_lt (blk_lt (g := gb1091) (o := .cells #[.int .i64 a1_0, .slice A1_1 l1_1.length c1_1] 26 (0, 0)) (by (with_reducible repeat (first | refine blk_drewN ?_ _ | refine blk_drew ?_ | refine blk_alloc ?_ _)); exact BK1091.out)) : gb1091 ≠ gb1107)); have n12_ := Aside0.mk ((by rw [hg]; exact Nat.ne_of_gt (blk_lt (g := gb1091) (o := .cells #[.int .i64 a1_0, .slice A1_1 l1_1.length c1_1] 26 (0, 0)) (by (with_reducible repeat (first | refine blk_drewN ?_ _ | refine blk_drew ?_ | refine blk_alloc ?_ _)); exact BK1091.out)) : gb1107 ≠ gb1091)); have n13_ := Aside0.mk ((by rw [hg]; exact Nat.ne_of_lt (blk_lt (g := gb1092) (o := .cells #[.int .i64 0, .slice none 0 0] 26 (0, 0)) (by (with_reducible repeat (first | refine blk_drewN ?_ _ | refine blk_drew ?_ | refine blk_alloc ?_ _)); exact BK1092.out)) : gb1092 ≠ gb1107)); have n14_ := Aside0.mk ((by rw [hg]; exact Nat.ne_of_gt (blk_lt (g := gb1092) (o := .cells #[.int .i64 0, .slice none 0 0] 26 (0, 0)) (by (with_reducible repeat (first | refine blk_drewN ?_ _ | refine blk_drew ?_ | refine blk_alloc ?_ _)); exact BK1092.out)) : gb1107 ≠ gb1092)); have n15_ := Aside0.mk ((by rw [hg]; exact Nat.ne_of_lt (blk_lt (g := gb1101) (o := .cells #[.int .i64 (wrap64 (a0_0 + a1_0)), .slice Ao82 x1102001_2.length co82] 26 (0, 0)) (by (with_reducible repeat (first | refine blk_drewN ?_ _ | refine blk_drew ?_ | refine blk_alloc ?_ _)); exact BK1101.out)) : gb1101 ≠ gb1107)); have n16_ := Aside0.mk ((by rw [hg]; exact Nat.ne_of_gt (blk_lt (g := gb1101) (o := .cells #[.int .i64 (wrap64 (a0_0 + a1_0)), .slice Ao82 x1102001_2.length co82] 26 (0, 0)) (by (with_reducible repeat (first | refine blk_drewN ?_ _ | refine blk_drew ?_ | refine blk_alloc ?_ _)); exact BK1101.out)) : gb1107 ≠ gb1101)); clear HO1105; clear BK1090; clear BK1091; clear BK1092; clear BK1101; clear HB; have HO1105 := n0_; have BK1090 := n1_; have BK1091 := n2_; have BK1092 := n3_; have BK1101 := n4_; have HB := n5_; have BK1107 := n6_; have GW1107 := n7_; have GE1107 := n8_; have NB1090_1107 := n9_; have NB1107_1090 := n10_; have NB1091_1107 := n11_; have NB1107_1091 := n12_; have NB1092_1107 := n13_; have NB1107_1092 := n14_; have NB1101_1107 := n15_; have NB1107_1101 := n16_; clear n0_ n1_ n2_ n3_ n4_ n5_ n6_ n7_ n8_ n9_ n10_ n11_ n12_ n13_ n14_ n15_ n16_; clear hb hbox hg; have hnb85 := NB1107_1090.out; have hnc85 := NB1090_1107.out; have hnb86 := NB1107_1091.out; have hnc86 := NB1091_1107.out; have hnb87 := NB1107_1092.out; have hnc87 := NB1092_1107.out; have hnb88 := NB1107_1101.out; have hnc88 := NB1101_1107.out; have hcz89_0 : w84.cell? ⟨gb1107, 0, none⟩ = some (.int .i64 0) := (blk_cell BK1107.out 0).trans rfl; have hcz89_1 : w84.cell? ⟨gb1107, 1, none⟩ = some (.slice none 0 0) := (blk_cell BK1107.out 1).trans rfl; have hfz89_0 := blk_frozen BK1107.out 0; have hfz89_1 := blk_frozen BK1107.out 1; obtain ⟨Ao90, co90, eo90⟩ := Kd.R_slice HO1105.out; subst eo90; have hnb91 := NB1092_1090.out; have hnc91 := NB1090_1092.out; have hcz92_0 : w84.cell? ⟨gb1092, 0, none⟩ = some (.int .i64 0) := (blk_cell BK1092.out 0).trans rfl; have hcz92_1 : w84.cell? ⟨gb1092, 1, none⟩ = some (.slice none 0 0) := (blk_cell BK1092.out 1).trans rfl; have hfz92_0 := blk_frozen BK1092.out 0; have hfz92_1 := blk_frozen BK1092.out 1))
        refine bodyPost_ret (results_ct rfl _ _ gb1092 26 #[.int .i64 t1102, .slice Ao90 t1103.length co90] (0, 0) _ rfl (by (with_reducible repeat (first | refine blk_drewN ?_ _ | refine blk_drew ?_ | refine blk_alloc ?_ _)); refine blk_put (cs := #[.int .i64 t1102, .slice none 0 0]) ?_ 1 _ rfl; (with_reducible repeat (first | refine blk_drewN ?_ _ | refine blk_drew ?_ | refine blk_alloc ?_ _)); refine blk_put (cs := #[.int .i64 0, .slice none 0 0]) ?_ 0 _ rfl; (with_reducible repeat (first | refine blk_drewN ?_ _ | refine blk_drew ?_ | refine blk_alloc ?_ _)); refine blk_far ?_ NB1092_1107.out _; (with_reducible repeat (first | refine blk_drewN ?_ _ | refine blk_drew ?_ | refine blk_alloc ?_ _)); refine blk_far ?_ NB1092_1107.out _; (with_reducible repeat (first | refine blk_drewN ?_ _ | refine blk_drew ?_ | refine blk_alloc ?_ _)); exact BK1092.out) Try.underlying26 rfl (by kernel_rfl)) rfl ?_
        exact ⟨_, by first | rfl | (simp [errW_none, errW_some] <;> rfl) | (simp [*, errW_none, errW_some] <;> rfl), by (with_reducible repeat (first | apply Kd.R_alloc | apply Kd.R_drewN | apply Kd.R_drew)); exact Kd.R_mono (Kd.R_far (p := ⟨gb1092, 1, none⟩) (Kd.R_far (p := ⟨gb1092, 0, none⟩) (Kd.R_far (p := ⟨gb1107, 1, none⟩) (Kd.R_far (p := ⟨gb1107, 0, none⟩) (Kd.R_types (Kd.R_types HO1105.out BK1107.out (by decide)) BK1092.out (by decide)) (fun _ hk => hk.1.2) (.int .i64 t1102)) (fun _ hk => hk.1.2) (.slice Ao90 t1103.length co90)) (fun _ hk => hk.2) (.int .i64 t1102)) (fun _ hk => hk.2) (.slice Ao90 t1103.length co90)) (fun _ hk => trivial), by repeat (first | (with_reducible first | exact HB.out | apply below_alloc | apply pw_below_drewN | apply below_drew1 | refine below_set ?_ GE1090.out | refine below_set ?_ GE1091.out | refine below_set ?_ GE1092.out | refine below_set ?_ GE1101.out | refine below_set ?_ GE1107.out) | exact HB.out)⟩
    ·rw [if_neg c25] at H
     exact absurd H (by simp)

end Go.Proofs.Ytnjmgmdpkogocaa.Q

/-
  Contracts: a tile coloured anew by a closure.
-/
namespace Go.Proofs.Ytnjmgmdpkogocaa
open Go Go.RowKit Go.Proofs Go.Proofs.YtnjmgmdpkogocaaW.PrintWords Go.Proofs.Ytnjmgmdpkogocaa.Q
set_option linter.unusedVariables false
set_option linter.unusedSimpArgs false

set_option maxHeartbeats 4000000 in
set_option maxRecDepth 100000 in
theorem ColJ_any (x0 x1 x2 x3 y0 y1 y2 y3 : Int) (g : Nat) (C : Int) (A : Option Addr) (c : Nat) (l : List STile) (w : World) (hr : Kd.C k45 w A l.length l) (hc : l.length ≤ c) (hb : w.heap[g]? = some (.cells #[.int .i64 C, .slice A l.length c] 26 (0, 0))) (h0 : impl_JoinSets_1.f x0 C l = some y0) (h1 : impl_JoinSets_1.f x1 C l = some y1) (h2 : impl_JoinSets_1.f x2 C l = some y2) (h3 : impl_JoinSets_1.f x3 C l = some y3) :
    Calls Try.prog 73 #[.agg #[.int .i64 x0, .int .i64 x1, .int .i64 x2, .int .i64 x3], .func (.func 74) #[] #[.pointer (some ⟨g, 0, none⟩)]] w fun e w' => e = .returned (.agg #[.int .i64 y0, .int .i64 y1, .int .i64 y2, .int .i64 y3]) ∧ Below w.heap.size w w' := by
  have H0 := Lib.hid h0; have H1 := Lib.hid h1; have H2 := Lib.hid h2; have H3 := Lib.hid h3; have HR := Lib.hid hr; have hb2 : BK w g #[.int .i64 C, .slice A l.length c] 26 := hb; have HBG := Lib.hid hb2; clear h0 h1 h2 h3 hr hb hb2
  have hgl : g < w.heap.size := HBG.out.lt
  go_enter Try.func73, Try.ntmps73
  go_wp2_with fail
  refine name2 ?_
  intro W b1 b2 hz hb0
  have HZ := Lib.hid hz; have hs0 := hb0.size; clear hz
  have hW := (Below.refl W.heap.size W).drew
  have HE := Lib.hid (below_to hb0 hW); have HLO := Lib.hid (show w.heap.size + 2 ≤ W.heap.size by have := HZ.out; omega)
  replace b1 := b1.below hW b1.lt; replace b2 := b2.below hW b2.lt
  have l1 := b1.lt
  have z0 := b2.cell (k := 0) (v := .int .i64 0) rfl; have z1 := b2.cell (k := 1) (v := .int .i64 0) rfl; have z2 := b2.cell (k := 2) (v := .int .i64 0) rfl; have z3 := b2.cell (k := 3) (v := .int .i64 0) rfl
  have f0 := b2.frozen 0; have f1 := b2.frozen 1; have f2 := b2.frozen 2; have f3 := b2.frozen 3
  have l2 := b2.lt
  clear hb0
  have hX : ∀ (W2 : World) v0 v1 v2 v3, BK W2 w.heap.size #[.int .i64 x0, .int .i64 x1, .int .i64 x2, .int .i64 x3] 45 → BK ((((W2.setCell ⟨w.heap.size + 1, 0, none⟩ v0).setCell ⟨w.heap.size + 1, 1, none⟩ v1).setCell ⟨w.heap.size + 1, 2, none⟩ v2).setCell ⟨w.heap.size + 1, 3, none⟩ v3) w.heap.size #[.int .i64 x0, .int .i64 x1, .int .i64 x2, .int .i64 x3] 45 := by
    intro W2 v0 v1 v2 v3 b
    exact b.only (((((Only.refl (w.heap.size + 1) (w.heap.size + 2) W2).setCell (Nat.le_refl _) (by omega) _ _).setCell (Nat.le_refl _) (by omega) _ _).setCell (Nat.le_refl _) (by omega) _ _).setCell (Nat.le_refl _) (by omega) _ _) (.inl (by omega))
  go_region_held3 (fun w_ => w_.cell? ⟨w.heap.size, 0, none⟩ = some (.int .i64 x0) ∧ w_.cell? ⟨w.heap.size, 1, none⟩ = some (.int .i64 x1) ∧ w_.cell? ⟨w.heap.size, 2, none⟩ = some (.int .i64 x2) ∧ w_.cell? ⟨w.heap.size, 3, none⟩ = some (.int .i64 x3))
    (first | exact ⟨b1.cell rfl, b1.cell rfl, b1.cell rfl, b1.cell rfl⟩ | exact ⟨(hX _ _ _ _ _ b1).cell rfl, (hX _ _ _ _ _ b1).cell rfl, (hX _ _ _ _ _ b1).cell rfl, (hX _ _ _ _ _ b1).cell rfl⟩ | fail)
    (first
      | (go_at_call 74; refine (impl_JoinSets_1.calls x0 g C A c l y0 _ (Kd.C_below HR.out HE.out) hc (HBG.out.below HE.out HBG.out.lt) H0.out).mono ?_; rintro e w3 ⟨rfl, hD⟩; have hB3 := hD.below; replace b1 := b1.below hB3 b1.lt; replace b2 := b2.below hB3 b2.lt; replace HE := Lib.hid (below_to HE.out hB3); clear z0 z1 z2 z3 f0 f1 f2 f3 l2; have z0 := b2.cell (k := 0) (v := .int .i64 0) rfl; have z1 := b2.cell (k := 1) (v := .int .i64 0) rfl; have z2 := b2.cell (k := 2) (v := .int .i64 0) rfl; have z3 := b2.cell (k := 3) (v := .int .i64 0) rfl; have f0 := b2.frozen 0; have f1 := b2.frozen 1; have f2 := b2.frozen 2; have f3 := b2.frozen 3; have l2 := b2.lt; clear hD hB3)
      | (go_at_call 74; refine (impl_JoinSets_1.calls x1 g C A c l y1 _ (Kd.C_below HR.out HE.out) hc (HBG.out.below HE.out HBG.out.lt) H1.out).mono ?_; rintro e w3 ⟨rfl, hD⟩; have hB3 := hD.below; replace b1 := b1.below hB3 b1.lt; replace b2 := b2.below hB3 b2.lt; replace HE := Lib.hid (below_to HE.out hB3); clear z0 z1 z2 z3 f0 f1 f2 f3 l2; have z0 := b2.cell (k := 0) (v := .int .i64 0) rfl; have z1 := b2.cell (k := 1) (v := .int .i64 0) rfl; have z2 := b2.cell (k := 2) (v := .int .i64 0) rfl; have z3 := b2.cell (k := 3) (v := .int .i64 0) rfl; have f0 := b2.frozen 0; have f1 := b2.frozen 1; have f2 := b2.frozen 2; have f3 := b2.frozen 3; have l2 := b2.lt; clear hD hB3)
      | (go_at_call 74; refine (impl_JoinSets_1.calls x2 g C A c l y2 _ (Kd.C_below HR.out HE.out) hc (HBG.out.below HE.out HBG.out.lt) H2.out).mono ?_; rintro e w3 ⟨rfl, hD⟩; have hB3 := hD.below; replace b1 := b1.below hB3 b1.lt; replace b2 := b2.below hB3 b2.lt; replace HE := Lib.hid (below_to HE.out hB3); clear z0 z1 z2 z3 f0 f1 f2 f3 l2; have z0 := b2.cell (k := 0) (v := .int .i64 0) rfl; have z1 := b2.cell (k := 1) (v := .int .i64 0) rfl; have z2 := b2.cell (k := 2) (v := .int .i64 0) rfl; have z3 := b2.cell (k := 3) (v := .int .i64 0) rfl; have f0 := b2.frozen 0; have f1 := b2.frozen 1; have f2 := b2.frozen 2; have f3 := b2.frozen 3; have l2 := b2.lt; clear hD hB3)
      | (go_at_call 74; refine (impl_JoinSets_1.calls x3 g C A c l y3 _ (Kd.C_below HR.out HE.out) hc (HBG.out.below HE.out HBG.out.lt) H3.out).mono ?_; rintro e w3 ⟨rfl, hD⟩; have hB3 := hD.below; replace b1 := b1.below hB3 b1.lt; replace b2 := b2.below hB3 b2.lt; replace HE := Lib.hid (below_to HE.out hB3); clear z0 z1 z2 z3 f0 f1 f2 f3 l2; have z0 := b2.cell (k := 0) (v := .int .i64 0) rfl; have z1 := b2.cell (k := 1) (v := .int .i64 0) rfl; have z2 := b2.cell (k := 2) (v := .int .i64 0) rfl; have z3 := b2.cell (k := 3) (v := .int .i64 0) rfl; have f0 := b2.frozen 0; have f1 := b2.frozen 1; have f2 := b2.frozen 2; have f3 := b2.frozen 3; have l2 := b2.lt; clear hD hB3))
  go_wp2_with fail
  have hbk : BK ((((w3.setCell ⟨w.heap.size + 1, 0, none⟩ (.int .i64 y0)).setCell ⟨w.heap.size + 1, 1, none⟩ (.int .i64 y1)).setCell ⟨w.heap.size + 1, 2, none⟩ (.int .i64 y2)).setCell ⟨w.heap.size + 1, 3, none⟩ (.int .i64 y3)) (w.heap.size + 1) #[.int .i64 y0, .int .i64 y1, .int .i64 y2, .int .i64 y3] 45 := (((b2.set 0 _).set 1 _).set 2 _).set 3 _
  ((try simp only [Exit.inBlock, Exit.then]); refine bodyPost_ret (results_cell_row rfl _ _ _ _ _ _ _ rfl hbk Try.underlying45 rfl iszT) rfl ?_)
  exact ⟨rfl, below_only HE.out (((((Only.refl (w.heap.size + 1) (w.heap.size + 2) w3).setCell (Nat.le_refl _) (by omega) _ _).setCell (Nat.le_refl _) (by omega) _ _).setCell (Nat.le_refl _) (by omega) _ _).setCell (Nat.le_refl _) (by omega) _ _) (by omega)⟩
end Go.Proofs.Ytnjmgmdpkogocaa
namespace Go.Proofs.Ytnjmgmdpkogocaa.Q
open Go Go.RowKit Go.Proofs Go.Proofs.YtnjmgmdpkogocaaW.PrintWords Go.Proofs.Ytnjmgmdpkogocaa
def impl_Tile_coloured_at_impl_JoinSets_1.f (a0_0 a0_1 a0_2 a0_3 : Int) (a1_0_0 : Int) (l1_0_1 : List STile) : Option (Int × Int × Int × Int) :=
  (impl_JoinSets_1.f a0_0 a1_0_0 l1_0_1).bind fun y0 => (impl_JoinSets_1.f a0_1 a1_0_0 l1_0_1).bind fun y1 => (impl_JoinSets_1.f a0_2 a1_0_0 l1_0_1).bind fun y2 => (impl_JoinSets_1.f a0_3 a1_0_0 l1_0_1).bind fun y3 => some (y0, y1, y2, y3)
theorem impl_Tile_coloured_at_impl_JoinSets_1.calls (a0_0 a0_1 a0_2 a0_3 : Int) (g1_0_ : Nat) (a1_0_0 : Int) (A1_0_1 : Option Addr) (c1_0_1 : Nat) (l1_0_1 : List STile) (r1 r2 r3 r4 : Int) (w : World) (hr1_0_1 : Kd.C k45 w A1_0_1 l1_0_1.length l1_0_1) (hc1_0_1 : l1_0_1.length ≤ c1_0_1) (hb1_0_ : w.heap[g1_0_]? = some (.cells #[.int .i64 a1_0_0, .slice A1_0_1 l1_0_1.length c1_0_1] 26 (0, 0))) (h : impl_Tile_coloured_at_impl_JoinSets_1.f a0_0 a0_1 a0_2 a0_3 a1_0_0 l1_0_1 = some (r1, r2, r3, r4)) :
    Calls Try.prog 73 #[.agg #[.int .i64 a0_0, .int .i64 a0_1, .int .i64 a0_2, .int .i64 a0_3], .func (.func 74) #[] #[.pointer (some ⟨g1_0_, 0, none⟩)]] w fun e w' => e = .returned (.agg #[.int .i64 r1, .int .i64 r2, .int .i64 r3, .int .i64 r4]) ∧ Below w.heap.size w w' := by
  unfold impl_Tile_coloured_at_impl_JoinSets_1.f at h
  obtain ⟨y0, h0, h⟩ := Option.bind_eq_some_iff.1 h
  obtain ⟨y1, h1, h⟩ := Option.bind_eq_some_iff.1 h
  obtain ⟨y2, h2, h⟩ := Option.bind_eq_some_iff.1 h
  obtain ⟨y3, h3, h⟩ := Option.bind_eq_some_iff.1 h
  simp only [Option.some.injEq, Prod.mk.injEq] at h
  obtain ⟨rfl, rfl, rfl, rfl⟩ := h
  exact ColJ_any a0_0 a0_1 a0_2 a0_3 y0 y1 y2 y3 g1_0_ a1_0_0 A1_0_1 c1_0_1 l1_0_1 w hr1_0_1 hc1_0_1 hb1_0_ h0 h1 h2 h3
end Go.Proofs.Ytnjmgmdpkogocaa.Q

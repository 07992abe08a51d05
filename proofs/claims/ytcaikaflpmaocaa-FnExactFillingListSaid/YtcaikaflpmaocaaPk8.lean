/-
 Parts of the proof, in their order: Bridge, Counts, PEdge, PNx, Law2, Ext, PWay, QImplSetCodeAtImplPlanCode1, QImplPlanCode, Law3, Law4.
-/
import Derived.Test.YtcaikaflpmaocaaSq
import Derived.Test.YtcaikaflpmaocaaPk7
import Derived.Test.YtcaikaflpmaocaaPk4
import Derived.Test.YtcaikaflpmaocaaWMore
import Derived.Test.YtcaikaflpmaocaaPk5
import Derived.Test.YtcaikaflpmaocaaPk2
namespace Go.Proofs.Ytcaikaflpmaocaa
open Go Go.RowKit Go.Proofs Go.Proofs.YtcaikaflpmaocaaW.PrintWords Go.Proofs.Ytcaikaflpmaocaa.Q
set_option linter.unusedVariables false
set_option linter.unusedSimpArgs false
abbrev STile := Q.S85
def toT (s : STile) : T4 := ⟨s.f0, s.f1, s.f2, s.f3⟩
def toS (t : T4) : STile := ⟨t.a, t.b, t.c, t.d⟩
theorem toT_toS (t : T4) : toT (toS t) = t := rfl
theorem toS_toT (s : STile) : toS (toT s) = s := rfl
theorem map_toTS (l : List T4) : (l.map toS).map toT = l := by simp [List.map_map, Function.comp_def, toT_toS]
theorem map_toST (l : List STile) : (l.map toT).map toS = l := by simp [List.map_map, Function.comp_def, toS_toT]
theorem spot_none {w : World} {a : Addr} {v : Value} (h : w.cell? a = some v) : a.spot = none := by
 unfold World.cell? at h
 split at h
 ·split at h
  ·exact absurd h (by simp)
  ·rename_i hn
   cases hs : a.spot with
   | none => rfl
   | some x => rw [hs] at hn; simp at hn
 ·exact absurd h (by simp)
theorem tk_map (l : List STile) (k : Nat) (h : k < l.length) : tk (l.map toT) k = toT l[k] := by
 simp [tk, List.getD, List.getElem?_map, List.getElem?_eq_getElem h]
theorem rt_of_C {w : World} {A : Option Addr} {l : List STile} (h : Kd.C k85 w A l.length l) : RT w A (l.map toT) := by
 intro k hk
 rw [List.length_map] at hk
 obtain ⟨ad, e, hc⟩ := h.2.2 (by omega)
 have g : ∀ j (hj : j < l.length) i v, ([.int .i64 l[j].f0, .int .i64 l[j].f1, .int .i64 l[j].f2, .int .i64 l[j].f3] : List Value)[i]? = some v → w.cell? (ad.add (j * 4 + i)) = some v := by
  intro j hj i v hv
  obtain ⟨c, hcl, hK, hcell⟩ := hc j l[j] (List.getElem?_eq_getElem hj)
  rw [k85_open hK] at hcell
  exact hcell i v hv
 have h0 := g 0 (by omega) 0 _ rfl
 have hs : ad.spot = none := by
  have := spot_none h0
  simpa [Addr.add] using this
 obtain ⟨b, o, s⟩ := ad
 simp only at hs
 subst hs
 have hb : b < w.heap.size := by
  have := World.block_lt_of_cell? w _ h0
  simpa [Addr.add] using this
 refine ⟨b, o, e, hb, ?_, ?_, ?_, ?_⟩ <;> rw [tk_map _ _ hk]
 ·have := g k hk 0 _ rfl; rwa [add_off] at this
 ·have := g k hk 1 _ rfl; rwa [add_off, ← Nat.add_assoc] at this
 ·have := g k hk 2 _ rfl; rwa [add_off, ← Nat.add_assoc] at this
 ·have := g k hk 3 _ rfl; rwa [add_off, ← Nat.add_assoc] at this
theorem C_of_rt {w : World} {A : Option Addr} {ts : List T4} (h : RT w A ts) (hl : ts.length ≤ 9223372036854775807) : Kd.C k85 w A (ts.map toS).length (ts.map toS) := by
 refine ⟨rfl, by simpa using hl, fun hn => ?_⟩
 rw [List.length_map] at hn
 obtain ⟨b, o, e, hb, -⟩ := h 0 hn
 refine ⟨_, e, fun j p hj => ?_⟩
 have hjl : j < ts.length := by have := (List.getElem?_eq_some_iff.1 hj).1; simpa using this
 have hp : p = toS (tk ts j) := by
  rw [List.getElem?_map, List.getElem?_eq_getElem hjl] at hj
  simp only [Option.map_some, Option.some.injEq] at hj
  rw [← hj]; simp [tk, List.getD, List.getElem?_eq_getElem hjl]
 subst hp
 obtain ⟨b', o', e', -, c0, c1, c2, c3⟩ := h j hjl
 rw [e] at e'
 injection e' with e'; injection e' with e1 e2; subst e1 e2
 refine ⟨_, rfl, k85_mk w (toS (tk ts j)), fun i u hu => ?_⟩
 rw [add_off, ← Nat.add_assoc]
 match i, hu with
 | 0, hu => simp at hu; subst hu; exact c0
 | 1, hu => simp at hu; subst hu; exact c1
 | 2, hu => simp at hu; subst hu; exact c2
 | 3, hu => simp at hu; subst hu; exact c3
 | i + 4, hu => simp at hu
theorem ri_of_C {w : World} {A : Option Addr} {l : List Int} (h : Kd.C (Kd.int .i64) w A l.length l) : RI w A l := by
 intro k hk
 obtain ⟨ad, e, hc⟩ := h.2.2 (by omega)
 have g : ∀ j (hj : j < l.length), w.cell? (ad.add j) = some (.int .i64 l[j]) := by
  intro j hj
  obtain ⟨c, hcl, hK, hcell⟩ := hc j l[j] (List.getElem?_eq_getElem hj)
  have hK' : c = [.int .i64 l[j]] := hK
  subst hK'
  have := hcell 0 _ rfl
  have e1 : (Kd.int IntKind.i64).sz = 1 := rfl
  rwa [e1, Nat.mul_one, Nat.add_zero] at this
 have h0 := g 0 (by omega)
 have hs : ad.spot = none := by
  have := spot_none h0
  simpa [Addr.add] using this
 obtain ⟨b, o, s⟩ := ad
 simp only at hs
 subst hs
 have hb : b < w.heap.size := by
  have := World.block_lt_of_cell? w _ h0
  simpa [Addr.add] using this
 refine ⟨b, o, e, hb, ?_⟩
 have := g k hk
 rw [add_off] at this
 rw [this]
 simp [ik, List.getD, List.getElem?_eq_getElem hk]
theorem C_of_ri {w : World} {A : Option Addr} {xs : List Int} (h : RI w A xs) (hl : xs.length ≤ 9223372036854775807) : Kd.C (Kd.int .i64) w A xs.length xs := by
 refine ⟨rfl, hl, fun hn => ?_⟩
 obtain ⟨b, o, e, hb, -⟩ := h 0 hn
 refine ⟨_, e, fun j p hj => ?_⟩
 have hjl := (List.getElem?_eq_some_iff.1 hj).1
 have hp : p = ik xs j := by
  rw [List.getElem?_eq_getElem hjl] at hj
  simp only [Option.some.injEq] at hj
  rw [← hj]; simp [ik, List.getD, List.getElem?_eq_getElem hjl]
 subst hp
 obtain ⟨b', o', e', -, c0⟩ := h j hjl
 rw [e] at e'
 injection e' with e'; injection e' with e1 e2; subst e1 e2
 refine ⟨[.int .i64 (ik xs j)], rfl, rfl, fun i u hu => ?_⟩
 have e1 : (Kd.int IntKind.i64).sz = 1 := rfl
 match i, hu with
 | 0, hu => simp at hu; subst hu; rw [e1, Nat.mul_one, Nat.add_zero, add_off]; exact c0
 | i + 1, hu => simp at hu
theorem ow_of_R {w : World} {base : Nat} {e : TypeId} {v : Value} {xs : List Int} {ok : Nat → Prop} (h : Kd.R (Kd.int .i64) e w base ok v xs) : OW w base w.heap.size e 1 v xs.length (icells xs) := by
 obtain ⟨-, inner, ho, hr⟩ := h
 have e1 : (Kd.int IntKind.i64).sz = 1 := rfl
 have : inner = icells xs := by
  apply List.ext_getElem?
  intro j
  by_cases hj : j < xs.length
  ·have h2 := hr.2 j _ (List.getElem?_eq_getElem hj)
   have hl : j < inner.length := by rw [hr.1, e1]; omega
   rw [e1, Nat.mul_one, List.drop_eq_getElem_cons hl, List.take_succ_cons, List.take_zero] at h2
   have h3 : [inner[j]] = [Value.int .i64 xs[j]] := h2
   rw [List.getElem?_eq_getElem hl, icells, List.getElem?_map, List.getElem?_eq_getElem hj]
   simpa using h3
  ·rw [List.getElem?_eq_none (by rw [hr.1, e1]; omega), List.getElem?_eq_none (by rw [icells_length]; omega)]
 subst this
 exact OW.of ho
end Go.Proofs.Ytcaikaflpmaocaa
namespace Go.Proofs.Ytcaikaflpmaocaa
open Go Go.RowKit Go.Proofs Go.Proofs.YtcaikaflpmaocaaW.PrintWords Go.Proofs.YtcaikaflpmaocaaW.PrintMore Go.Proofs.Ytcaikaflpmaocaa.Q
set_option linter.unusedVariables false
set_option linter.unusedSimpArgs false
theorem wrap_id {x : Int} (h : -9223372036854775808 ≤ x) (h2 : x ≤ 9223372036854775807) : wrap64 x = x := by unfold wrap64; omega
def cap (x : Int) : Int := if x ≤ 1000000000000000 then x else 1000000000000001
theorem cap_nn {x : Int} (h : 0 ≤ x) : 0 ≤ cap x := by unfold cap; split <;> omega
theorem cap_le (x : Int) : cap x ≤ 1000000000000001 := by unfold cap; split <;> omega
theorem cap_add {x y : Int} (hx : 0 ≤ x) (hy : 0 ≤ y) : cap (cap x + cap y) = cap (x + y) := by unfold cap; split <;> split <;> split <;> (try split) <;> omega
theorem cap_small {x : Int} (h : x ≤ 1000000000000000) : cap x = x := by unfold cap; rw [if_pos h]
def dot : List Int → (Nat → Int) → Int
 | [], _ => 0
 | x :: xs, p => x * p 0 + dot xs (fun i => p (i + 1))
theorem rd_nat (xs : List Int) (i : Nat) : rd xs (i : Int) = xs.getD i 0 := by simp [rd]
theorem dot_set (v : List Int) (e : Nat) (x : Int) (p : Nat → Int) (h : e < v.length) : dot (v.set e x) p = dot v p + (x - v.getD e 0) * p e := by
 induction v generalizing e p with
 | nil => simp at h
 | cons y ys ih =>
  cases e with
  | zero => simp [dot, List.getD]; rw [Int.sub_mul]; omega
  | succ e =>
   simp only [List.set_cons_succ, dot]
   rw [ih e _ (by simpa using h)]
   simp only [List.getD_cons_succ]
   omega
theorem dot_zero (n : Nat) (p : Nat → Int) : dot (List.replicate n 0) p = 0 := by
 induction n generalizing p with
 | zero => rfl
 | succ n ih => simp [List.replicate_succ, dot, ih]
theorem dot_add (v : List Int) (p q : Nat → Int) : dot v (fun i => p i + q i) = dot v p + dot v q := by
 induction v generalizing p q with
 | nil => rfl
 | cons y ys ih =>
  simp only [dot]
  rw [ih (fun i => p (i + 1)) (fun i => q (i + 1)), Int.mul_add]; omega
theorem dot_nil (v : List Int) : dot v (fun _ => 0) = 0 := by
 induction v with
 | nil => rfl
 | cons y ys ih => simp only [dot, ih]; omega
theorem dot_one (v : List Int) (e : Nat) (y : Int) (h : e < v.length) : dot v (fun i => if i = e then y else 0) = v.getD e 0 * y := by
 induction v generalizing e with
 | nil => simp at h
 | cons z zs ih =>
  cases e with
  | zero =>
   simp only [dot]
   have : (fun i => if i + 1 = 0 then y else 0) = fun _ : Nat => (0 : Int) := by funext i; simp
   rw [this, dot_nil]; simp [List.getD]
  | succ e =>
   simp only [dot, List.getD_cons_succ]
   have : (fun i => if i + 1 = e + 1 then y else 0) = fun i : Nat => if i = e then y else 0 := by funext i; simp
   rw [this, ih e (by simpa using h)]; simp
theorem dot_sum (v : List Int) : dot v (fun _ => 1) = v.sum := by
 induction v with
 | nil => rfl
 | cons y ys ih => simp only [dot, ih, List.sum_cons]; omega
def Fine (c : Nat) (L : List STile) : Prop := ∀ t ∈ L, 0 ≤ t.f0 ∧ t.f0 < c ∧ 0 ≤ t.f2 ∧ t.f2 < c
def addT (now acc : List Int) (t : STile) : List Int := acc.set t.f2.toNat (rd acc t.f2 + rd now t.f0)
def stepW (c : Nat) (now : List Int) (L : List STile) : List Int := L.foldl (addT now) (List.replicate c 0)
def waysW (c : Nat) (now : List Int) (Ls : List (List STile)) : List Int := Ls.foldl (stepW c) now
def paths : List (List STile) → Nat → Int
 | [], _ => 1
 | L :: Ls, a => (L.map fun t => if a = t.f0.toNat then paths Ls t.f2.toNat else 0).sum
def capT (now acc : List Int) (t : STile) : List Int := acc.set t.f2.toNat (cap (rd acc t.f2 + rd now t.f0))
def stepC (c : Nat) (now : List Int) (L : List STile) : List Int := L.foldl (capT now) (List.replicate c 0)
def waysC (c : Nat) (now : List Int) (Ls : List (List STile)) : List Int := Ls.foldl (stepC c) now
theorem addT_len (now acc : List Int) (t : STile) : (addT now acc t).length = acc.length := by simp [addT]
theorem fold_len (f : List Int → STile → List Int) (hf : ∀ a t, (f a t).length = a.length) (L : List STile) (acc : List Int) : (L.foldl f acc).length = acc.length := by
 induction L generalizing acc with
 | nil => rfl
 | cons t L ih => simp only [List.foldl_cons]; rw [ih, hf]
theorem stepW_len (c : Nat) (now : List Int) (L : List STile) : (stepW c now L).length = c := by
 rw [stepW, fold_len _ (fun a t => addT_len now a t)]; simp
theorem capT_len (now acc : List Int) (t : STile) : (capT now acc t).length = acc.length := by simp [capT]
theorem stepC_len (c : Nat) (now : List Int) (L : List STile) : (stepC c now L).length = c := by
 rw [stepC, fold_len _ (fun a t => capT_len now a t)]; simp
theorem rd_at {xs : List Int} {i : Int} (h : 0 ≤ i) : rd xs i = xs.getD i.toNat 0 := by simp [rd]
theorem fold_dot (c : Nat) (now : List Int) (p : Nat → Int) (hn : now.length = c) (L : List STile) (hL : Fine c L) (acc : List Int) (ha : acc.length = c) :
 dot (L.foldl (addT now) acc) p = dot acc p + dot now (fun a => (L.map fun t => if a = t.f0.toNat then p t.f2.toNat else 0).sum) := by
 induction L generalizing acc with
 | nil => simp [dot_nil]
 | cons t L ih =>
  obtain ⟨h0, h1, h2, h3⟩ := hL t (by simp)
  simp only [List.foldl_cons]
  rw [ih (fun u hu => hL u (List.mem_cons_of_mem _ hu)) _ (by rw [addT_len, ha])]
  rw [addT, dot_set _ _ _ _ (by omega), rd_at h2, rd_at h0]
  simp only [List.map_cons, List.sum_cons]
  rw [dot_add, dot_one _ _ _ (by omega)]
  have : acc.getD t.f2.toNat 0 + now.getD t.f0.toNat 0 - acc.getD t.f2.toNat 0 = now.getD t.f0.toNat 0 := by omega
  rw [this]; omega
theorem ways_dot (c : Nat) (Ls : List (List STile)) (now : List Int) (hn : now.length = c) (hL : ∀ L ∈ Ls, Fine c L) : (waysW c now Ls).sum = dot now (paths Ls) := by
 induction Ls generalizing now with
 | nil => simp only [waysW, List.foldl_nil]; rw [← dot_sum]; rfl
 | cons L Ls ih =>
  simp only [waysW, List.foldl_cons]
  rw [show List.foldl (stepW c) (stepW c now L) Ls = waysW c (stepW c now L) Ls from rfl, ih _ (stepW_len _ _ _) (fun M hM => hL M (List.mem_cons_of_mem _ hM))]
  rw [stepW, fold_dot c now _ hn L (hL L (by simp)) _ (by simp), dot_zero, Int.zero_add]
  rfl
def Cut (u v : List Int) : Prop := u.length = v.length ∧ (∀ i, 0 ≤ v.getD i 0) ∧ ∀ i, u.getD i 0 = cap (v.getD i 0)
theorem getD_set (v : List Int) (e i : Nat) (x : Int) (h : e < v.length) : (v.set e x).getD i 0 = if i = e then x else v.getD i 0 := by
 simp only [List.getD_eq_getElem?_getD, List.getElem?_set]
 by_cases hi : e = i
 ·subst hi; simp [h]
 ·simp [hi, Ne.symm hi]
theorem Cut.step {c : Nat} {u v a b : List Int} (hn : Cut u v) (ha : Cut a b) (hu : u.length = c) (hb : a.length = c) {t : STile} (ht : 0 ≤ t.f0 ∧ t.f0 < c ∧ 0 ≤ t.f2 ∧ t.f2 < c) : Cut (capT u a t) (addT v b t) := by
 obtain ⟨h0, h1, h2, h3⟩ := ht
 have hl := ha.1
 refine ⟨by rw [capT_len, addT_len]; exact ha.1, fun i => ?_, fun i => ?_⟩
 ·rw [addT, getD_set _ _ _ _ (by omega)]
  split
  ·rw [rd_at h2, rd_at h0]; have := ha.2.1 t.f2.toNat; have := hn.2.1 t.f0.toNat; omega
  ·exact ha.2.1 i
 ·rw [capT, addT, getD_set _ _ _ _ (by omega), getD_set _ _ _ _ (by omega)]
  split
  ·rw [rd_at h2, rd_at h0, rd_at h2, rd_at h0, ha.2.2, hn.2.2, cap_add (ha.2.1 _) (hn.2.1 _)]
  ·exact ha.2.2 i
theorem cut_zero (c : Nat) : Cut (List.replicate c 0) (List.replicate c 0) := by
 refine ⟨rfl, fun i => ?_, fun i => ?_⟩
 ·simp [List.getD_eq_getElem?_getD, List.getElem?_replicate]; split <;> simp
 ·have h : (List.replicate c (0 : Int)).getD i 0 = 0 := by simp [List.getD_eq_getElem?_getD, List.getElem?_replicate]; split <;> simp
  rw [h]; rfl
theorem cut_fold {c : Nat} {u v : List Int} (hn : Cut u v) (hu : u.length = c) (L : List STile) (hL : Fine c L) : ∀ a b : List Int, Cut a b → a.length = c → Cut (L.foldl (capT u) a) (L.foldl (addT v) b) := by
 induction L with
 | nil => intro a b h _; exact h
 | cons t L ih =>
  intro a b h ha
  simp only [List.foldl_cons]
  exact ih (fun s hs => hL s (List.mem_cons_of_mem _ hs)) _ _ (hn.step h hu ha (hL t (by simp))) (by rw [capT_len, ha])
theorem cut_ways {c : Nat} (Ls : List (List STile)) (hL : ∀ L ∈ Ls, Fine c L) : ∀ u v : List Int, Cut u v → u.length = c → Cut (waysC c u Ls) (waysW c v Ls) := by
 induction Ls with
 | nil => intro u v h _; exact h
 | cons L Ls ih =>
  intro u v h hu
  simp only [waysC, waysW, List.foldl_cons]
  exact ih (fun M hM => hL M (List.mem_cons_of_mem _ hM)) _ _ (cut_fold h hu L (hL L (by simp)) _ _ (cut_zero c) (by simp)) (stepC_len _ _ _)
theorem waysC_len (c : Nat) (Ls : List (List STile)) (u : List Int) (h : u.length = c) : (waysC c u Ls).length = c := by
 induction Ls generalizing u with
 | nil => exact h
 | cons L Ls ih => simp only [waysC, List.foldl_cons]; exact ih _ (stepC_len _ _ _)
def capSum (u : List Int) : Int := u.foldl (fun s x => cap (s + x)) 0
theorem capSum_go {u v : List Int} (h : u.length = v.length) (h0 : ∀ i, 0 ≤ v.getD i 0) (hc : ∀ i, u.getD i 0 = cap (v.getD i 0)) : ∀ s, 0 ≤ s → u.foldl (fun s x => cap (s + x)) (cap s) = cap (s + v.sum) := by
 induction u generalizing v with
 | nil =>
  intro s _
  have : v = [] := List.eq_nil_of_length_eq_zero h.symm
  subst this; simp
 | cons x xs ih =>
  intro s hs
  cases v with
  | nil => simp at h
  | cons y ys =>
   have hx := hc 0; have hy := h0 0
   simp only [List.getD_cons_zero] at hx hy
   simp only [List.foldl_cons, List.sum_cons]
   rw [hx, cap_add hs hy, ih (by simpa using h) (fun i => by have := h0 (i + 1); simpa using this) (fun i => by have := hc (i + 1); simpa using this) (s + y) (by omega), Int.add_assoc]
theorem capSum_cut {u v : List Int} (h : Cut u v) : capSum u = cap v.sum := by
 have := capSum_go h.1 h.2.1 h.2.2 0 (by omega)
 simpa [capSum, cap] using this
theorem succ_wrap (m : Nat) (h : m < 1000000000) : wrap64 ((m : Int) + 1) = ((m + 1 : Nat) : Int) := by unfold wrap64; omega
def Bd (v : List Int) : Prop := ∀ i, 0 ≤ v.getD i 0 ∧ v.getD i 0 ≤ 1000000000000001
theorem bd_capT {c : Nat} {now acc : List Int} (hn : Bd now) (ha : Bd acc) (hl : acc.length = c) {t : STile} (ht : 0 ≤ t.f0 ∧ t.f0 < c ∧ 0 ≤ t.f2 ∧ t.f2 < c) : Bd (capT now acc t) := by
 intro i
 rw [capT, getD_set _ _ _ _ (by omega)]
 split
 ·rw [rd_at ht.2.2.1, rd_at ht.1]
  have := hn t.f0.toNat; have := ha t.f2.toNat
  exact ⟨cap_nn (by omega), cap_le _⟩
 ·exact ha i
theorem getD_rep0 (c i : Nat) : (List.replicate c (0 : Int)).getD i 0 = 0 := by simp [List.getD_eq_getElem?_getD, List.getElem?_replicate]; split <;> simp
theorem bd_zero (c : Nat) : Bd (List.replicate c 0) := by
 intro i
 rw [getD_rep0]; omega
theorem bd_fold {c : Nat} {now : List Int} (hn : Bd now) (L : List STile) (hL : Fine c L) : ∀ acc, Bd acc → acc.length = c → Bd (L.foldl (capT now) acc) := by
 induction L with
 | nil => intro acc h _; exact h
 | cons t L ih =>
  intro acc h hl
  exact ih (fun s hs => hL s (List.mem_cons_of_mem _ hs)) _ (bd_capT hn h hl (hL t (by simp))) (by rw [capT_len, hl])
theorem bd_step {c : Nat} {now : List Int} (hn : Bd now) (L : List STile) (hL : Fine c L) : Bd (stepC c now L) := bd_fold hn L hL _ (bd_zero c) (by simp)
def unit (c a : Nat) : List Int := (List.replicate c 0).set a 1
theorem unit_len (c a : Nat) : (unit c a).length = c := by simp [unit]
theorem bd_unit (c a : Nat) : Bd (unit c a) := by
 intro i
 by_cases h : a < c
 ·rw [unit, getD_set _ _ _ _ (by simpa using h)]
  split
  ·omega
  ·exact bd_zero c i
 ·rw [unit, List.set_eq_of_length_le (by simp; omega)]; exact bd_zero c i
theorem sum_nn (xs : List Int) (h : ∀ x ∈ xs, 0 ≤ x) : 0 ≤ xs.sum := by
 induction xs with
 | nil => simp
 | cons x xs ih => rw [List.sum_cons]; have := h x (by simp); have := ih (fun y hy => h y (List.mem_cons_of_mem _ hy)); omega
theorem unit_dot (c a : Nat) (h : a < c) (p : Nat → Int) : dot (unit c a) p = p a := by
 rw [unit, dot_set _ _ _ _ (by simpa using h), dot_zero, getD_rep0]; omega
theorem cut_unit (c a : Nat) : Cut (unit c a) (unit c a) := by
 refine ⟨rfl, fun i => (bd_unit c a i).1, fun i => ?_⟩
 rw [cap_small]
 by_cases h : a < c
 ·rw [unit, getD_set _ _ _ _ (by simpa using h)]
  split
  ·omega
  ·rw [getD_rep0]; omega
 ·rw [unit, List.set_eq_of_length_le (by simp; omega), getD_rep0]; omega
theorem capSum_unit (c : Nat) (Ls : List (List STile)) (hL : ∀ L ∈ Ls, Fine c L) (a : Nat) (ha : a < c) : capSum (waysC c (unit c a) Ls) = cap (paths Ls a) := by
 rw [capSum_cut (cut_ways Ls hL _ _ (cut_unit c a) (unit_len _ _)), ways_dot c Ls _ (unit_len _ _) hL, unit_dot c a ha]
def capRow (c : Nat) (q : Nat → Int) : List Int := (List.range c).map fun a => cap (q a)
theorem capRow_len (c : Nat) (q : Nat → Int) : (capRow c q).length = c := by simp [capRow]
theorem capRow_get {c : Nat} {q : Nat → Int} {a : Nat} (h : a < c) : (capRow c q).getD a 0 = cap (q a) := by
 simp [capRow, List.getD_eq_getElem?_getD, List.getElem?_range h]
theorem capRow_set {c e : Nat} {q : Nat → Int} {y : Int} (he : e < c) : (capRow c q).set e (cap (q e + y)) = capRow c (fun a => q a + if a = e then y else 0) := by
 apply List.ext_getElem
 ·simp [capRow]
 ·intro i h1 h2
  rw [List.getElem_set]
  simp only [capRow, List.getElem_map, List.getElem_range]
  by_cases hi : e = i
  ·subst hi; simp
  ·rw [if_neg hi, if_neg (fun h => hi h.symm), Int.add_zero]
theorem capRow_zero (c : Nat) : capRow c (fun _ => 0) = List.replicate c 0 := by
 apply List.ext_getElem
 ·simp [capRow]
 ·intro i h1 h2; simp [capRow, cap]
theorem capRow_one (c : Nat) : capRow c (fun _ => 1) = List.replicate c 1 := by
 apply List.ext_getElem
 ·simp [capRow]
 ·intro i h1 h2; simp [capRow, cap]
theorem capRow_congr {c : Nat} {q r : Nat → Int} (h : ∀ a, a < c → q a = r a) : capRow c q = capRow c r := by
 apply List.map_congr_left
 intro a ha
 rw [h a (List.mem_range.1 ha)]
abbrev Nx := Nat → Nat → Nat → Option Nat
def val (q : Nat → Int) : Option Nat → Int
 | none => 0
 | some b => q b
def onw (T : Nx) (n : Nat) : Nat → Nat → Nat → Int
 | 0, _, _ => 1
 | d + 1, p, s => ((List.range n).map fun i => val (onw T n d (p + 1)) (T p s i)).sum
theorem onw_nn (T : Nx) (n d : Nat) : ∀ p s, 0 ≤ onw T n d p s := by
 induction d with
 | zero => intro p s; simp [onw]
 | succ d ih =>
  intro p s
  rw [onw]
  apply sum_nn
  intro x hx
  obtain ⟨i, -, rfl⟩ := List.mem_map.1 hx
  cases T p s i with
  | none => simp [val]
  | some b => exact ih _ _
theorem sum_pos {xs : List Int} (h : ∀ x ∈ xs, 0 ≤ x) : 0 < xs.sum ↔ ∃ x ∈ xs, 0 < x := by
 induction xs with
 | nil => simp
 | cons x xs ih =>
  have h0 := h x (by simp)
  have h1 := sum_nn xs (fun y hy => h y (List.mem_cons_of_mem _ hy))
  have h2 := ih (fun y hy => h y (List.mem_cons_of_mem _ hy))
  rw [List.sum_cons]
  constructor
  ·intro hp
   by_cases hx : 0 < x
   ·exact ⟨x, by simp, hx⟩
   ·obtain ⟨y, hy, hy2⟩ := h2.1 (by omega)
    exact ⟨y, List.mem_cons_of_mem _ hy, hy2⟩
  ·rintro ⟨y, hy, hy2⟩
   rcases List.mem_cons.1 hy with rfl | hy
   ·omega
   ·have := h2.2 ⟨y, hy, hy2⟩; omega
theorem onw_pos (T : Nx) (n d p s : Nat) : 0 < onw T n (d + 1) p s ↔ ∃ i, i < n ∧ ∃ b, T p s i = some b ∧ 0 < onw T n d (p + 1) b := by
 rw [onw, sum_pos]
 ·constructor
  ·rintro ⟨x, hx, hp⟩
   obtain ⟨i, hi, rfl⟩ := List.mem_map.1 hx
   refine ⟨i, List.mem_range.1 hi, ?_⟩
   cases hb : T p s i with
   | none => rw [hb] at hp; simp [val] at hp
   | some b => rw [hb] at hp; exact ⟨b, rfl, hp⟩
  ·rintro ⟨i, hi, b, hb, hp⟩
   exact ⟨_, List.mem_map.2 ⟨i, List.mem_range.2 hi, rfl⟩, by rw [hb]; exact hp⟩
 ·intro x hx
  obtain ⟨i, -, rfl⟩ := List.mem_map.1 hx
  cases T p s i with
  | none => simp [val]
  | some b => exact onw_nn _ _ _ _ _
def edge (s b : Nat) : STile := ⟨(s : Int), 0, (b : Int), 0⟩
def edgesOf (T : Nx) (p s : Nat) (js : List Nat) : List STile := js.filterMap fun i => (T p s i).map (edge s)
def edgesTo (T : Nx) (n p m : Nat) : List STile := (List.range m).flatMap fun s => edgesOf T p s (List.range n)
def edges (T : Nx) (n c p : Nat) : List STile := edgesTo T n p c
def Stay (T : Nx) (n c p : Nat) : Prop := ∀ s i b, s < c → i < n → T p s i = some b → b < c
theorem mem_edges {T : Nx} {n p m : Nat} {t : STile} (h : t ∈ edgesTo T n p m) : ∃ s i b, s < m ∧ i < n ∧ T p s i = some b ∧ t = edge s b := by
 simp only [edgesTo, edgesOf, List.mem_flatMap, List.mem_range, List.mem_filterMap, Option.map_eq_some_iff] at h
 obtain ⟨s, hs, i, hi, b, hb, rfl⟩ := h
 exact ⟨s, i, b, hs, hi, hb, rfl⟩
theorem edgesTo_fine {T : Nx} {n c p m : Nat} (h : Stay T n c p) (hm : m ≤ c) : Fine c (edgesTo T n p m) := by
 intro t ht
 obtain ⟨s, i, b, hs, hi, hb, rfl⟩ := mem_edges ht
 have := h s i b (by omega) hi hb
 simp only [edge]
 omega
theorem edges_fine {T : Nx} {n c p : Nat} (h : Stay T n c p) : Fine c (edges T n c p) := edgesTo_fine h (Nat.le_refl c)
theorem sum_zero {α : Type} (xs : List α) (f : α → Int) (h : ∀ x ∈ xs, f x = 0) : (xs.map f).sum = 0 := by
 induction xs with
 | nil => rfl
 | cons x xs ih => rw [List.map_cons, List.sum_cons, h x (by simp), ih (fun y hy => h y (List.mem_cons_of_mem _ hy))]; rfl
theorem edgesOf_self (T : Nx) (p s : Nat) (q : Nat → Int) (js : List Nat) : ((edgesOf T p s js).map fun t => if s = t.f0.toNat then q t.f2.toNat else 0).sum = (js.map fun i => val q (T p s i)).sum := by
 induction js with
 | nil => rfl
 | cons j js ih =>
  rw [List.map_cons, List.sum_cons, ← ih]
  cases hb : T p s j with
  | none => simp [edgesOf, hb, val]
  | some b => simp [edgesOf, hb, val, edge]
theorem edgesOf_other (T : Nx) (p s a : Nat) (q : Nat → Int) (js : List Nat) (h : a ≠ s) : ((edgesOf T p s js).map fun t => if a = t.f0.toNat then q t.f2.toNat else 0).sum = 0 := by
 apply sum_zero
 intro t ht
 simp only [edgesOf, List.mem_filterMap, Option.map_eq_some_iff] at ht
 obtain ⟨i, hi, b, hb, rfl⟩ := ht
 have : ¬ a = (edge s b).f0.toNat := by simpa [edge] using h
 rw [if_neg this]
theorem edges_sum (T : Nx) (n p : Nat) (q : Nat → Int) (a m : Nat) : ((edgesTo T n p m).map fun t => if a = t.f0.toNat then q t.f2.toNat else 0).sum = if a < m then ((List.range n).map fun i => val q (T p a i)).sum else 0 := by
 induction m with
 | zero => simp [edgesTo]
 | succ m ih =>
  have e : edgesTo T n p (m + 1) = edgesTo T n p m ++ edgesOf T p m (List.range n) := by simp [edgesTo, List.range_succ, List.flatMap_append]
  rw [e, List.map_append, List.sum_append, ih]
  by_cases h : a = m
  ·subst h; rw [edgesOf_self, if_neg (by omega), if_pos (by omega)]; omega
  ·rw [edgesOf_other _ _ _ _ _ _ h]
   by_cases h2 : a < m
   ·rw [if_pos h2, if_pos (by omega)]; omega
   ·rw [if_neg h2, if_neg (by omega)]; rfl
def edgesL (T : Nx) (n c p d : Nat) : List (List STile) := (List.range d).map fun j => edges T n c (p + j)
theorem edgesL_succ (T : Nx) (n c p d : Nat) : edgesL T n c p (d + 1) = edges T n c p :: edgesL T n c (p + 1) d := by
 simp only [edgesL, List.range_succ_eq_map, List.map_cons, List.map_map, Nat.add_zero]
 congr 1
 apply List.map_congr_left
 intro j _
 simp only [Function.comp_def, Nat.succ_eq_add_one]
 congr 1; omega
theorem paths_edges (T : Nx) (n c d : Nat) : ∀ p, (∀ j, j < d → Stay T n c (p + j)) → ∀ a, a < c → paths (edgesL T n c p d) a = onw T n d p a := by
 induction d with
 | zero => intro p _ a _; rfl
 | succ d ih =>
  intro p hp a ha
  rw [edgesL_succ, paths, onw, edges, edges_sum, if_pos ha]
  congr 1
  apply List.map_congr_left
  intro i hi
  cases hb : T p a i with
  | none => rfl
  | some b => exact ih (p + 1) (fun j hj => by have := hp (j + 1) (by omega); rwa [show p + 1 + j = p + (j + 1) by omega]) b (hp 0 (by omega) a i b ha (List.mem_range.1 hi) hb)
def fwd (T : Nx) (n c p : Nat) : List Int := waysC c (unit c 0) (edgesL T n c 0 p)
theorem fwd_succ (T : Nx) (n c p : Nat) : fwd T n c (p + 1) = stepC c (fwd T n c p) (edges T n c p) := by
 simp only [fwd, edgesL, waysC, List.range_succ, List.map_append, List.map_cons, List.map_nil, List.foldl_append, List.foldl_cons, List.foldl_nil, Nat.zero_add]
theorem fwd_len (T : Nx) (n c p : Nat) : (fwd T n c p).length = c := waysC_len _ _ _ (unit_len _ _)
theorem bd_fwd (T : Nx) (n c p : Nat) (h : ∀ j, j < p → Stay T n c j) : Bd (fwd T n c p) := by
 induction p with
 | zero => exact bd_unit c 0
 | succ p ih =>
  rw [fwd_succ]
  exact bd_step (ih (fun j hj => h j (by omega))) _ (edges_fine (h p (by omega)))
theorem fwd_count (T : Nx) (n c N : Nat) (hc : 0 < c) (h : ∀ j, j < N → Stay T n c j) : capSum (fwd T n c N) = cap (onw T n N 0 0) := by
 rw [fwd, capSum_unit c _ _ 0 hc, paths_edges T n c N 0 (fun j hj => by rw [Nat.zero_add]; exact h j hj) 0 hc]
 intro L hL
 simp only [edgesL, List.mem_map, List.mem_range, Nat.zero_add] at hL
 obtain ⟨j, hj, rfl⟩ := hL
 exact edges_fine (h j hj)
theorem cap_pos {x : Int} : 0 < cap x ↔ 0 < x := by unfold cap; split <;> omega
theorem fold_pos {c : Nat} {now : List Int} (hn : Bd now) (L : List STile) (hL : Fine c L) (b : Nat) (hb : b < c) : ∀ acc, Bd acc → acc.length = c → 0 < acc.getD b 0 → 0 < (L.foldl (capT now) acc).getD b 0 := by
 induction L with
 | nil => intro acc _ _ h; exact h
 | cons t L ih =>
  intro acc ha hl h
  have ht := hL t (by simp)
  rw [List.foldl_cons]
  refine ih (fun s hs => hL s (List.mem_cons_of_mem _ hs)) _ (bd_capT hn ha hl ht) (by rw [capT_len, hl]) ?_
  rw [capT, getD_set _ _ _ _ (by omega)]
  split
  ·rename_i e
   subst e
   rw [rd_at ht.2.2.1, rd_at ht.1, cap_pos]
   have := hn t.f0.toNat
   omega
  ·exact h
theorem fold_pos_mem {c : Nat} {now : List Int} (hn : Bd now) (L : List STile) (hL : Fine c L) (t : STile) (ht : t ∈ L) (hp : 0 < now.getD t.f0.toNat 0) : ∀ acc, Bd acc → acc.length = c → 0 < (L.foldl (capT now) acc).getD t.f2.toNat 0 := by
 induction L with
 | nil => simp at ht
 | cons u L ih =>
  intro acc ha hl
  have hu := hL u (by simp)
  have hL' : Fine c L := fun s hs => hL s (List.mem_cons_of_mem _ hs)
  rw [List.foldl_cons]
  have h1 := bd_capT hn ha hl hu
  have h2 : (capT now acc u).length = c := by rw [capT_len, hl]
  rcases List.mem_cons.1 ht with rfl | ht
  ·refine fold_pos hn L hL' _ (by omega) _ h1 h2 ?_
   rw [capT, getD_set _ _ _ _ (by omega), if_pos rfl, rd_at hu.2.2.1, rd_at hu.1, cap_pos]
   have := ha t.f2.toNat
   omega
  ·exact ih hL' ht _ h1 h2
theorem fwd_pos (T : Nx) (n c p s i b : Nat) (h : ∀ j, j < p + 1 → Stay T n c j) (hs : s < c) (hi : i < n) (hb : T p s i = some b) (hp : 0 < (fwd T n c p).getD s 0) : 0 < (fwd T n c (p + 1)).getD b 0 := by
 rw [fwd_succ]
 have hm : edge s b ∈ edges T n c p := by
  simp only [edges, edgesTo, edgesOf, List.mem_flatMap, List.mem_range, List.mem_filterMap, Option.map_eq_some_iff]
  exact ⟨s, hs, i, hi, b, hb, rfl⟩
 have := fold_pos_mem (bd_fwd T n c p (fun j hj => h j (by omega))) (edges T n c p) (edges_fine (h p (by omega))) (edge s b) hm (by simpa [edge] using hp) _ (bd_zero c) (by simp)
 rw [show (edge s b).f2.toNat = b by simp [edge]] at this
 exact this
theorem edgesTo_succ (T : Nx) (n p s : Nat) : edgesTo T n p (s + 1) = edgesTo T n p s ++ edgesOf T p s (List.range n) := by simp [edgesTo, List.range_succ, List.flatMap_append]
theorem edgesOf_succ (T : Nx) (p s j : Nat) : edgesOf T p s (List.range (j + 1)) = edgesOf T p s (List.range j) ++ edgesOf T p s [j] := by simp [edgesOf, List.range_succ, List.filterMap_append]
theorem cap_id {x : Int} (h : x ≤ 1000000000000001) : cap x = x := by unfold cap; split <;> omega
theorem fold_zero {c : Nat} {now : List Int} (L : List STile) (hL : Fine c L) (h0 : ∀ t ∈ L, now.getD t.f0.toNat 0 = 0) : ∀ acc, Bd acc → acc.length = c → L.foldl (capT now) acc = acc := by
 induction L with
 | nil => intro acc _ _; rfl
 | cons t L ih =>
  intro acc ha hl
  have ht := hL t (by simp)
  have e : capT now acc t = acc := by
   rw [capT, rd_at ht.2.2.1, rd_at ht.1, h0 t (by simp), Int.add_zero, cap_id (ha _).2]
   apply List.ext_getElem
   ·simp
   ·intro i h1 h2
    rw [List.getElem_set]
    split
    ·rename_i e
     subst e
     rw [List.getD_eq_getElem?_getD, List.getElem?_eq_getElem h2]; rfl
    ·rfl
  rw [List.foldl_cons, e]
  exact ih (fun s hs => hL s (List.mem_cons_of_mem _ hs)) (fun s hs => h0 s (List.mem_cons_of_mem _ hs)) acc ha hl
def tlAt (l : List STile) (i : Nat) : STile := l.getD i ⟨0, 0, 0, 0⟩
def dig (c s k : Nat) : Nat := s / c ^ k % c
def nextZ (full : Bool) (c w : Nat) (t : STile) (p s : Nat) : Int :=
 (s : Int) + (t.f3 - (dig c s (p % w) : Int)) * ((c ^ (p % w) : Nat) : Int) - ((s / c ^ w : Nat) : Int) * ((c ^ w : Nat) : Int) + (if full || decide (p % w + 1 < w) then t.f2 * ((c ^ w : Nat) : Int) else 0)
def nx (full : Bool) (c w : Nat) (l : List STile) (fit : Nat → Nat → Bool) : Nx := fun p s i =>
 if (fit p i && (decide (p < w) || decide ((dig c s (p % w) : Int) = (tlAt l i).f1)) && (decide (p % w = 0) || decide (((s / c ^ w : Nat) : Int) = (tlAt l i).f0))) = true
 then some (nextZ full c w (tlAt l i) p s).toNat else none
def Col (c : Nat) (t : STile) : Prop := (0 ≤ t.f0 ∧ t.f0 < c) ∧ (0 ≤ t.f1 ∧ t.f1 < c) ∧ (0 ≤ t.f2 ∧ t.f2 < c) ∧ (0 ≤ t.f3 ∧ t.f3 < c)
theorem mod_part (B c R s : Nat) : (s % (B * (c * R))) / B % c = s / B % c := by
 rw [Nat.mod_mul_right_div_self, Nat.mod_mod_of_dvd _ (Nat.dvd_mul_right c R)]
theorem lo_low (B c R s : Nat) : (s / B % c) * B ≤ s % (B * (c * R)) := by
 rw [← mod_part B c R s]
 have h1 : (s % (B * (c * R))) / B % c ≤ (s % (B * (c * R))) / B := Nat.mod_le _ _
 calc _ ≤ (s % (B * (c * R))) / B * B := Nat.mul_le_mul_right _ h1
  _ ≤ _ := Nat.div_mul_le_self _ _
theorem lo_high (B c R s a : Nat) (hB : 0 < B) (hc : 0 < c) (hR : 0 < R) (ha : a < c) : s % (B * (c * R)) + a * B < B * (c * R) + (s / B % c) * B := by
 rw [← mod_part B c R s]
 have hT : 0 < B * (c * R) := Nat.mul_pos hB (Nat.mul_pos hc hR)
 have hs : s % (B * (c * R)) < B * (c * R) := Nat.mod_lt _ hT
 generalize s % (B * (c * R)) = u at hs
 have h1 : u / B < c * R := (Nat.div_lt_iff_lt_mul hB).2 (by rwa [Nat.mul_comm B] at hs)
 generalize hq : u / B = q at h1
 have h2 : u < (q + 1) * B := by rw [← hq, ← Nat.div_lt_iff_lt_mul hB]; omega
 have h3 : q / c < R := (Nat.div_lt_iff_lt_mul hc).2 (by rwa [Nat.mul_comm c] at h1)
 have h4 : c * (q / c) + q % c = q := Nat.div_add_mod q c
 have h5 : c * (q / c + 1) ≤ c * R := Nat.mul_le_mul_left c h3
 have h6 : (q + 1) + a ≤ c * R + q % c := by rw [Nat.mul_add] at h5; omega
 have h7 : ((q + 1) + a) * B ≤ (c * R + q % c) * B := Nat.mul_le_mul_right B h6
 rw [Nat.add_mul, Nat.add_mul (c * R)] at h7
 rw [Nat.mul_comm B]
 omega
theorem next_parts (full : Bool) (c w : Nat) (t : STile) (p s : Nat) (hc : 0 < c) (hw : 0 < w) (ht : Col c t) :
 ∃ lo, lo < c ^ w ∧ (lo : Int) = ((s % c ^ w : Nat) : Int) + (t.f3 - (dig c s (p % w) : Int)) * ((c ^ (p % w) : Nat) : Int) ∧
  (nextZ full c w t p s).toNat = lo + (if full || decide (p % w + 1 < w) then t.f2.toNat else 0) * c ^ w ∧ 0 ≤ nextZ full c w t p s := by
 have hx : p % w < w := Nat.mod_lt _ hw
 have hB : 0 < c ^ (p % w) := Nat.pow_pos hc
 have hR : 0 < c ^ (w - p % w - 1) := Nat.pow_pos hc
 have hT : c ^ w = c ^ (p % w) * (c * c ^ (w - p % w - 1)) := by
  rw [← Nat.pow_succ', ← Nat.pow_add]; congr 1; omega
 obtain ⟨-, -, h2, h3⟩ := ht
 have a3 : t.f3 = (t.f3.toNat : Int) := by omega
 have a2 : t.f2 = (t.f2.toNat : Int) := by omega
 have l1 := lo_low (c ^ (p % w)) c (c ^ (w - p % w - 1)) s
 have l2 := lo_high (c ^ (p % w)) c (c ^ (w - p % w - 1)) s t.f3.toNat hB hc hR (by omega)
 rw [← hT] at l1 l2
 have hs : s = c ^ w * (s / c ^ w) + s % c ^ w := (Nat.div_add_mod s (c ^ w)).symm
 have e1 : (t.f3 - (dig c s (p % w) : Int)) * ((c ^ (p % w) : Nat) : Int) = ((t.f3.toNat * c ^ (p % w) : Nat) : Int) - ((dig c s (p % w) * c ^ (p % w) : Nat) : Int) := by
  rw [Int.sub_mul, a3, Int.toNat_natCast]; push_cast; rfl
 have e2 : ((s / c ^ w : Nat) : Int) * ((c ^ w : Nat) : Int) = ((c ^ w * (s / c ^ w) : Nat) : Int) := by push_cast; rw [Int.mul_comm]
 have hd : dig c s (p % w) = s / c ^ (p % w) % c := rfl
 rw [← hd] at l1 l2
 refine ⟨s % c ^ w + t.f3.toNat * c ^ (p % w) - dig c s (p % w) * c ^ (p % w), by omega, by rw [e1]; omega, ?_, ?_⟩
 ·rw [nextZ, e1, e2]
  split
  ·have e3 : t.f2 * ((c ^ w : Nat) : Int) = ((t.f2.toNat * c ^ w : Nat) : Int) := by rw [a2, Int.toNat_natCast]; push_cast; rfl
   rw [e3]; omega
  ·omega
 ·rw [nextZ, e1, e2]
  split
  ·have e3 : t.f2 * ((c ^ w : Nat) : Int) = ((t.f2.toNat * c ^ w : Nat) : Int) := by rw [a2, Int.toNat_natCast]; push_cast; rfl
   rw [e3]; omega
  ·omega
theorem parts_mod {T lo hi : Nat} (h : lo < T) : (lo + hi * T) % T = lo := by rw [Nat.add_mul_mod_self_right]; exact Nat.mod_eq_of_lt h
theorem parts_div {T lo hi : Nat} (h : lo < T) : (lo + hi * T) / T = hi := by rw [Nat.add_mul_div_right _ _ (by omega), Nat.div_eq_of_lt h]; omega
theorem nx_stay (full : Bool) (c w : Nat) (l : List STile) (fit : Nat → Nat → Bool) (hc : 0 < c) (hw : 0 < w) (hl : ∀ t ∈ l, Col c t) (p : Nat) : Stay (nx full c w l fit) l.length (c ^ (w + 1)) p := by
 intro s i b hs hi hb
 simp only [nx] at hb
 split at hb
 ·injection hb with hb
  have ht : Col c (tlAt l i) := by rw [tlAt, List.getD_eq_getElem?_getD, List.getElem?_eq_getElem hi]; exact hl _ (List.getElem_mem hi)
  obtain ⟨lo, h1, -, h2, -⟩ := next_parts full c w (tlAt l i) p s hc hw ht
  rw [← hb, h2, Nat.pow_succ]
  obtain ⟨-, -, h3, -⟩ := ht
  have : (if full || decide (p % w + 1 < w) then (tlAt l i).f2.toNat else 0) + 1 ≤ c := by split <;> omega
  have h4 := Nat.mul_le_mul_right (c ^ w) this
  rw [Nat.add_mul] at h4
  rw [Nat.mul_comm (c ^ w) c]
  omega
 ·cases hb
def Like (c w p s s' : Nat) : Prop := s % c ^ w = s' % c ^ w ∧ (p % w ≠ 0 → s / c ^ w = s' / c ^ w)
theorem like_dig {c w s s' x : Nat} (hx : x < w) (h : s % c ^ w = s' % c ^ w) : dig c s x = dig c s' x := by
 have hT : c ^ w = c ^ x * (c * c ^ (w - x - 1)) := by
  rw [← Nat.pow_succ', ← Nat.pow_add]; congr 1; omega
 rw [hT] at h
 have h1 := mod_part (c ^ x) c (c ^ (w - x - 1)) s
 have h2 := mod_part (c ^ x) c (c ^ (w - x - 1)) s'
 rw [dig, dig, ← h1, ← h2, h]
theorem onw_like (c w : Nat) (l : List STile) (fit : Nat → Nat → Bool) (hc : 0 < c) (hw : 0 < w) (hl : ∀ t ∈ l, Col c t) (d : Nat) : ∀ p s s', Like c w p s s' →
 onw (nx true c w l fit) l.length d p s = onw (nx false c w l fit) l.length d p s' := by
 induction d with
 | zero => intro p s s' _; rfl
 | succ d ih =>
  intro p s s' h
  rw [onw, onw]
  congr 1
  apply List.map_congr_left
  intro i hi
  have hi := List.mem_range.1 hi
  have ht : Col c (tlAt l i) := by rw [tlAt, List.getD_eq_getElem?_getD, List.getElem?_eq_getElem hi]; exact hl _ (List.getElem_mem hi)
  have hx : p % w < w := Nat.mod_lt _ hw
  have hd := like_dig hx h.1
  have hcond : (fit p i && (decide (p < w) || decide ((dig c s (p % w) : Int) = (tlAt l i).f1)) && (decide (p % w = 0) || decide (((s / c ^ w : Nat) : Int) = (tlAt l i).f0)))
   = (fit p i && (decide (p < w) || decide ((dig c s' (p % w) : Int) = (tlAt l i).f1)) && (decide (p % w = 0) || decide (((s' / c ^ w : Nat) : Int) = (tlAt l i).f0))) := by
   rw [hd]
   by_cases h0 : p % w = 0
   ·simp [h0]
   ·rw [h.2 h0]
  simp only [nx]
  rw [hcond]
  split
  ·obtain ⟨lo, h1, e1, h2, -⟩ := next_parts true c w (tlAt l i) p s hc hw ht
   obtain ⟨lo', h1', e1', h2', -⟩ := next_parts false c w (tlAt l i) p s' hc hw ht
   have hlo : lo = lo' := by rw [hd, h.1, ← e1'] at e1; omega
   subst hlo
   rw [val, val]
   apply ih
   rw [h2, h2']
   refine ⟨by rw [parts_mod h1, parts_mod h1], fun h0 => ?_⟩
   rw [parts_div h1, parts_div h1]
   have : p % w + 1 < w := by
    by_cases h5 : p % w + 1 = w
    ·exfalso; apply h0
     rw [Nat.add_mod, ]
     have : 1 % w = 1 ∨ w = 1 := by
      by_cases hw1 : w = 1
      ·exact .inr hw1
      ·exact .inl (Nat.mod_eq_of_lt (by omega))
     rcases this with h6 | h6
     ·rw [h6, h5, Nat.mod_self]
     ·rw [h6]; exact Nat.mod_one _
    ·omega
   simp [this]
  ·rfl
end Go.Proofs.Ytcaikaflpmaocaa
namespace Go.Proofs.Ytcaikaflpmaocaa
open Go Go.RowKit Go.Proofs Go.Proofs.YtcaikaflpmaocaaW.PrintWords Go.Proofs.Ytcaikaflpmaocaa.Q
set_option linter.unusedVariables false
set_option linter.unusedSimpArgs false
theorem OW.narrow {w : World} {lo hi : Nat} {E : TypeId} {size n : Nat} {v : Value} {cells : List Value} (h : OW w lo hi E size v n cells) :
 ∃ l u, OW w l u E size v n cells ∧ ∀ b, l ≤ b → b < u → v.ownBlock = some b := by
 obtain ⟨h1, h2⟩ := h.own
 rcases h2 with h2 | ⟨g, cap, cur, hv, hg, hh, r⟩
 ·refine ⟨0, 0, ⟨⟨h1, .inl h2⟩, fun b hb => ?_, Nat.zero_le _⟩, fun b _ hb => absurd hb (Nat.not_lt_zero _)⟩
  rw [h2.1] at hb
  simp [Value.ownBlock] at hb
 ·have hb : v.ownBlock = some g := by rw [hv]; rfl
  have hl := h.up g hb
  refine ⟨g, g + 1, ⟨⟨h1, .inr ⟨g, cap, cur, hv, Nat.le_refl _, hh, r⟩⟩, fun b hb2 => ?_, Nat.lt_of_lt_of_le hl h.top⟩, fun b h3 h4 => ?_⟩
  ·have : g = b := Option.some.inj (hb.symm.trans hb2)
   omega
  ·rw [hb, show b = g by omega]
theorem OW.apart {w w' : World} {lo hi lo' hi' : Nat} {E : TypeId} {size n : Nat} {v : Value} {cells : List Value} (h : OW w lo hi E size v n cells) (k : Only lo' hi' w w')
 (hd : ∀ b, lo' ≤ b → b < hi' → v.ownBlock ≠ some b) : OW w' lo hi E size v n cells := by
 refine ⟨?_, h.up, Nat.le_trans h.top k.size⟩
 obtain ⟨h1, h2⟩ := h.own
 refine ⟨h1, ?_⟩
 rcases h2 with h2 | ⟨g, cap, cur, hv, hg, hh, r⟩
 ·exact .inl h2
 ·refine .inr ⟨g, cap, cur, hv, hg, ?_, r⟩
  have hb : v.ownBlock = some g := by rw [hv]; rfl
  have hu := h.up g hb
  exact (k.block g (Nat.lt_of_lt_of_le hu h.top) (by
   by_cases h1 : lo' ≤ g
   ·by_cases h2 : g < hi'
    ·exact absurd hb (hd g h1 h2)
    ·exact .inr (by omega)
   ·exact .inl (by omega))).trans hh
def tot (m : Nat → Nat) : Nat → Nat
 | 0 => 0
 | n + 1 => tot m n + m n
theorem tot_le (m : Nat → Nat) {i n : Nat} (h : i ≤ n) : tot m i ≤ tot m n := by
 induction n with
 | zero => rw [Nat.le_zero.1 h]; exact Nat.le_refl _
 | succ n ih =>
  rcases Nat.lt_or_ge i (n + 1) with h1 | h1
  ·exact Nat.le_trans (ih (by omega)) (Nat.le_add_right _ _)
  ·rw [show i = n + 1 by omega]; exact Nat.le_refl _
structure RowsW (w : World) (lo hi g n : Nat) (v : Nat → Value) (m : Nat → Nat) (cs : Nat → List Value) : Prop where
 hdr : ∀ i, i < n → w.cell? ⟨g, i, none⟩ = some (v i)
 row : ∀ i, i < n → OW w lo hi 2 1 (v i) (m i) (cs i)
 apart : ∀ i j, i < n → j < n → i ≠ j → ∀ b, (v i).ownBlock = some b → (v j).ownBlock ≠ some b
 out : ∀ i, i < n → (v i).ownBlock ≠ some g
theorem RowsW.below {w w' : World} {lo hi g n : Nat} {v : Nat → Value} {m : Nat → Nat} {cs : Nat → List Value} (h : RowsW w lo hi g n v m cs) (k : Below w.heap.size w w') : RowsW w' lo hi g n v m cs :=
 ⟨fun i hi => k.cell (World.block_lt_of_cell? w _ (h.hdr i hi)) |>.trans (h.hdr i hi), fun i hi => (h.row i hi).to k, h.apart, h.out⟩
theorem RowsW.set {w w' : World} {lo hi g n : Nat} {v : Nat → Value} {m : Nat → Nat} {cs : Nat → List Value} (h : RowsW w lo hi g n v m cs) {i : Nat} (hi' : i < n) {l u : Nat} (k : Only l u w w')
 (hk : ∀ b, l ≤ b → b < u → (v i).ownBlock = some b) {c : List Value} (hr : OW w' lo hi 2 1 (v i) (m i) c) : RowsW w' lo hi g n v m (fun j => if j = i then c else cs j) := by
 refine ⟨fun j hj => ?_, fun j hj => ?_, h.apart, h.out⟩
 ·refine cell_only k ?_ (h.hdr j hj)
  by_cases h1 : l ≤ g
  ·by_cases h2 : g < u
   ·exact absurd (hk g h1 h2) (h.out i hi')
   ·exact .inr (by omega)
  ·exact .inl (by omega)
 ·by_cases e : j = i
  ·subst e; simpa using hr
  ·simp only [if_neg e]
   exact (h.row j hj).apart k fun b h1 h2 => h.apart i j hi' hj (fun e2 => e e2.symm) b (hk b h1 h2)
theorem Only.into {lo hi l u : Nat} {w w' : World} (h : Only l u w w') (k : ∀ b, l ≤ b → b < u → lo ≤ b ∧ b < hi) : Only lo hi w w' :=
 ⟨h.os, h.tape, h.output, h.size, fun i hi' hd => h.block i hi' (by
  by_cases h1 : l ≤ i
  ·by_cases h2 : i < u
   ·have := k i h1 h2
    omega
   ·exact .inr (by omega)
  ·exact .inl (by omega))⟩
theorem OW.inside {w : World} {lo hi : Nat} {E : TypeId} {size n : Nat} {v : Value} {cells : List Value} (h : OW w lo hi E size v n cells) {b : Nat} (hb : v.ownBlock = some b) : lo ≤ b ∧ b < hi :=
 ⟨(h.own.lt b hb).1, h.up b hb⟩
theorem OW.into {w : World} {lo hi l u : Nat} {E : TypeId} {size n : Nat} {v : Value} {cells : List Value} (h : OW w l u E size v n cells) (k : ∀ b, v.ownBlock = some b → lo ≤ b ∧ b < hi) (ht : hi ≤ w.heap.size) : OW w lo hi E size v n cells := by
 refine ⟨?_, fun b hb => (k b hb).2, ht⟩
 obtain ⟨h1, h2⟩ := h.own
 refine ⟨h1, ?_⟩
 rcases h2 with h2 | ⟨g, cap, cur, hv, hg, r⟩
 ·exact .inl h2
 ·exact .inr ⟨g, cap, cur, hv, (k g (by rw [hv]; rfl)).1, r⟩
theorem RowsW.congr {w : World} {lo hi g n : Nat} {v : Nat → Value} {m : Nat → Nat} {cs cs' : Nat → List Value} (h : RowsW w lo hi g n v m cs) (e : ∀ i, i < n → cs i = cs' i) : RowsW w lo hi g n v m cs' :=
 ⟨h.hdr, fun i hi => by rw [← e i hi]; exact h.row i hi, h.apart, h.out⟩
def mkRows (k : Int) (m : Nat → Nat) (cs : Nat → List Value) (d : Nat) : Nat → List Value := fun j => if j < d then icells (mkI (k + (tot m j : Int)) (m j * 1)) else cs j
set_option maxHeartbeats 1000000 in
theorem markInt64SS_any (lo hi g n c : Nat) (A : Option Addr) (v : Nat → Value) (m : Nat → Nat) (cs : Nat → List Value) (k : Int) (w : World) (hA : 0 < n → A = some ⟨g, 0, none⟩) (h : RowsW w lo hi g n v m cs) (hk : 0 ≤ k) (hk2 : k + (tot m n : Int) ≤ 1000000000000) (hl : n ≤ 35184372088832) :
 Calls Try.prog 13 #[.slice A n c, .int .i64 k] w fun e w' => e = .returned (.int .i64 (k + (tot m n : Int))) ∧ RowsW w' lo hi g n v m (mkRows k m cs n) ∧ Only lo hi w w' := by
 have HR := Lib.hid h; clear h
 go_enter Try.func13, Try.ntmps13
 go_wp2
 go_loopw [1, 5] (fun kk i wr => Only lo hi w wr ∧ ∃ d : Nat, d ≤ n ∧ i = .int .i64 d ∧ kk = .int .i64 (k + (tot m d : Int)) ∧ RowsW wr lo hi g n v m (mkRows k m cs d)) (fun _ i _ => n - (intOf i).toNat)
 case atStart => exact ⟨Only.refl _ _ _, 0, Nat.zero_le _, rfl, by simp [tot], HR.out.congr fun j _ => by simp [mkRows]⟩
 case round =>
  obtain ⟨hB, d, hd, rfl, rfl, hrows⟩ := hrel
  have HB := Lib.hid hB; have HW := Lib.hid hrows; clear hB hrows
  by_cases hlt : d < n
  ·have hA2 := hA (by omega)
   subst hA2
   obtain ⟨l, u, hO, hn⟩ := (HW.out.row d hlt).narrow
   have HO := Lib.hid hO; have HN := Lib.hid hn; clear hO hn
   have c0 := HW.out.hdr d hlt
   have ht := tot_le m (show d + 1 ≤ n from hlt)
   have HT := Lib.hid (show 0 ≤ k + (tot m d : Int) ∧ k + (tot m d : Int) ≤ 1000000000000 ∧ m d ≤ 35184372088832 by simp only [tot] at ht; omega)
   clear ht
   go_wp2_with (first | (go_at_call 41; refine (markInt64S_any l u (v d) (m d) _ _ _ HO.out HT.out.1 HT.out.2.1 HT.out.2.2).mono ?_; rintro e w2 ⟨rfl, hO2, hK2⟩; have HO2 := Lib.hid hO2; have HK2 := Lib.hid hK2; clear hO2 hK2))
   go_roundw
   case rel => exact ⟨HB.out.trans (HK2.out.into fun b h1 h2 => (HW.out.row d hlt).inside (HN.out b h1 h2)), d + 1, by omega, by go_num, by rw [show k + (tot m d : Int) + (m d : Int) = k + (tot m (d + 1) : Int) by simp only [tot]; omega], (HW.out.set hlt HK2.out HN.out (HO2.out.into (fun b hb => (HW.out.row d hlt).inside hb) (Nat.le_trans (HW.out.row d hlt).top HK2.out.size))).congr fun j _ => by
    unfold mkRows
    by_cases e : j = d
    ·subst e; simp
    ·by_cases e2 : j < d
     ·simp [e, e2, show j < d + 1 by omega]
     ·simp [e, e2, show ¬ j < d + 1 by omega]⟩
   case measure => simp [intOf]; omega
  ·have hdn : d = n := by omega
   subst hdn
   go_wp2
   go_ret
   exact ⟨rfl, HW.out, HB.out⟩
set_option maxHeartbeats 1000000 in
theorem heldInt64SS_any (lo hi g n c : Nat) (A : Option Addr) (v : Nat → Value) (m : Nat → Nat) (cs : Nat → List Value) (k : Int) (w : World) (hA : 0 < n → A = some ⟨g, 0, none⟩) (h : RowsW w lo hi g n v m (mkRows k m cs n)) (hk : 0 ≤ k) (hk2 : k + (tot m n : Int) ≤ 1000000000000) (hl : n ≤ 35184372088832) :
 Calls Try.prog 14 #[.slice A n c, .int .i64 k] w fun e w' => e = .returned (.int .i64 (k + (tot m n : Int))) ∧ Below w.heap.size w w' := by
 have HR := Lib.hid h; clear h
 go_enter Try.func14, Try.ntmps14
 go_wp2
 go_loopw [1, 5] (fun kk i wr => Below w.heap.size w wr ∧ ∃ d : Nat, d ≤ n ∧ i = .int .i64 d ∧ kk = .int .i64 (k + (tot m d : Int))) (fun _ i _ => n - (intOf i).toNat)
 case atStart => exact ⟨Below.refl _ _, 0, Nat.zero_le _, rfl, by simp [tot]⟩
 case round =>
  obtain ⟨hB, d, hd, rfl, rfl⟩ := hrel
  have HB := Lib.hid hB; clear hB
  by_cases hlt : d < n
  ·have hA2 := hA (by omega)
   subst hA2
   have HW := Lib.hid (HR.out.below HB.out)
   have HO := Lib.hid (show OW wr lo hi 2 1 (v d) (m d) (icells (mkI (k + (tot m d : Int)) (m d * 1))) by have := HW.out.row d hlt; unfold mkRows at this; rw [if_pos hlt] at this; exact this)
   have c0 := HW.out.hdr d hlt
   have ht := tot_le m (show d + 1 ≤ n from hlt)
   have HT := Lib.hid (show 0 ≤ k + (tot m d : Int) ∧ k + (tot m d : Int) ≤ 1000000000000 ∧ m d ≤ 35184372088832 by simp only [tot] at ht; omega)
   have n0 : ¬ k + (tot m d : Int) + (m d : Int) < 0 := by omega
   clear ht
   go_wp2_with (first | (go_at_call 42; refine (heldInt64S_any lo hi (v d) (m d) _ _ HO.out HT.out.1 HT.out.2.1 HT.out.2.2).mono ?_; rintro e w2 ⟨rfl, hK2⟩; have HK2 := Lib.hid hK2; clear hK2))
   go_roundw
   case rel => exact ⟨HB.out.trans (HK2.out.mono HB.out.size), d + 1, by omega, by go_num, by rw [show k + (tot m d : Int) + (m d : Int) = k + (tot m (d + 1) : Int) by simp only [tot]; omega]⟩
   case measure => simp [intOf]; omega
  ·have hdn : d = n := by omega
   subst hdn
   go_wp2
   go_ret
   exact ⟨rfl, HB.out⟩
def rowAt (xs : List (List Int)) (i : Nat) : List Int := xs.getD i []
def rowLen (xs : List (List Int)) (i : Nat) : Nat := (rowAt xs i).length
structure OWS (w : World) (lo hi : Nat) (v : Value) (xs : List (List Int)) (cs : Nat → List Value) : Prop where
 ex : ∃ A c g hv, v = .slice A xs.length c ∧ (xs.length ≤ c ∧ c ≤ 9223372036854775807) ∧ (0 < xs.length → A = some ⟨g, 0, none⟩ ∧ lo ≤ g ∧ g < hi) ∧ RowsW w lo hi g xs.length hv (rowLen xs) cs
 top : hi ≤ w.heap.size
theorem OWS.form0 {w : World} {lo hi : Nat} {v : Value} {xs : List (List Int)} {cs : Nat → List Value} (h : OWS w lo hi v xs cs) : ∃ A c, v = .slice A xs.length c := by
 obtain ⟨A, c, g, hv, rfl, -⟩ := h.ex
 exact ⟨A, c, rfl⟩
theorem OWS.only {w w' : World} {lo hi lo' hi' : Nat} {v : Value} {xs : List (List Int)} {cs : Nat → List Value} (h : OWS w lo hi v xs cs) (k : Only lo' hi' w w') (hd : hi ≤ lo' ∨ hi' ≤ lo) : OWS w' lo hi v xs cs := by
 obtain ⟨A, c, g, hv, rfl, hc, hA, hr⟩ := h.ex
 exact ⟨⟨A, c, g, hv, rfl, hc, hA, ⟨fun i hi' => cell_only k (by have := hA (by omega); omega) (hr.hdr i hi'), fun i hi' => (hr.row i hi').only k hd, hr.apart, hr.out⟩⟩, Nat.le_trans h.top k.size⟩
theorem OWS.to {w w' : World} {lo hi : Nat} {v : Value} {xs : List (List Int)} {cs : Nat → List Value} (h : OWS w lo hi v xs cs) (k : Below w.heap.size w w') : OWS w' lo hi v xs cs :=
 h.only (only_of k w.heap.size w.heap.size) (.inl h.top)
def RR (w : World) (A : Option Addr) (xs : List (List Int)) : Prop :=
 ∀ k, k < xs.length → ∃ b o A' c', A = some ⟨b, o, none⟩ ∧ b < w.heap.size ∧ w.cell? ⟨b, o + k, none⟩ = some (.slice A' (rowLen xs k) c') ∧ RI w A' (rowAt xs k) ∧ rowLen xs k ≤ c' ∧ rowLen xs k ≤ 9223372036854775807
theorem RR.below {w w' : World} {A : Option Addr} {xs : List (List Int)} (h : RR w A xs) (hb : Below w.heap.size w w') : RR w' A xs := by
 intro k hk
 obtain ⟨b, o, A', c', e, hlt, hc, hr, h1, h2⟩ := h k hk
 exact ⟨b, o, A', c', e, Nat.lt_of_lt_of_le hlt hb.size, (hb.cell (World.block_lt_of_cell? w _ hc)).trans hc, hr.below hb, h1, h2⟩
theorem rowAt_get {xs : List (List Int)} {j : Nat} {p : List Int} (h : xs[j]? = some p) : rowAt xs j = p := by simp [rowAt, List.getD, h]
theorem rowAt_at {xs : List (List Int)} {j : Nat} (h : j < xs.length) : rowAt xs j = xs[j] := rowAt_get (List.getElem?_eq_getElem h)
theorem rowLen_at {xs : List (List Int)} {j : Nat} {p : List Int} (h : xs[j]? = some p) : rowLen xs j = p.length := by rw [rowLen, rowAt_get h]
theorem OW.len {w : World} {lo hi : Nat} {E : TypeId} {size n : Nat} {v : Value} {cells : List Value} (h : OW w lo hi E size v n cells) : n ≤ 9223372036854775807 := by
 obtain ⟨A, c, -, h⟩ := h.form
 rcases h with ⟨-, rfl, -⟩ | ⟨g, cur, -, -, -, -, h1, h2, -⟩ <;> omega
theorem rr_of {w : World} {lo hi : Nat} {A : Option Addr} {n c : Nat} {xs : List (List Int)} (h : OWS w lo hi (.slice A n c) xs (fun i => icells (rowAt xs i))) (hn : n = xs.length) : RR w A xs := by
 obtain ⟨A', c', g, hv, e, -, hA, hr⟩ := h.ex
 injection e with e1 e2 e3
 subst e1
 intro k hk
 obtain ⟨A2, c2, e2, hri, hle⟩ := (hr.row k hk).readsI
 have hc := hr.hdr k hk
 rw [e2] at hc
 refine ⟨g, 0, A2, c2, (hA (by omega)).1, World.block_lt_of_cell? w _ hc, by rw [Nat.zero_add]; exact hc, hri, hle, (hr.row k hk).len⟩
theorem C_of_rr {w : World} {A : Option Addr} {xs : List (List Int)} (h : RR w A xs) (hl : xs.length ≤ 9223372036854775807) : Kd.C (Kd.slice 2 (Kd.int .i64)) w A xs.length xs := by
 refine ⟨rfl, hl, fun hn => ?_⟩
 obtain ⟨b, o, -, -, e, -⟩ := h 0 hn
 refine ⟨_, e, fun j p hj => ?_⟩
 have hjl := (List.getElem?_eq_some_iff.1 hj).1
 obtain ⟨b', o', A', c', e', -, hc, hr, h1, h2⟩ := h j hjl
 rw [e] at e'
 injection e' with e'; injection e' with e1 e2; subst e1 e2
 rw [rowLen_at hj] at hc h1 h2
 rw [rowAt_get hj] at hr
 refine ⟨[.slice A' p.length c'], rfl, ⟨A', c', rfl, h1, C_of_ri hr h2⟩, fun i u hu => ?_⟩
 have e1 : (Kd.slice 2 (Kd.int IntKind.i64)).sz = 1 := rfl
 match i, hu with
 | 0, hu => simp at hu; subst hu; rw [e1, Nat.mul_one, Nat.add_zero, add_off]; exact hc
 | i + 1, hu => simp at hu
theorem rr_of_C {w : World} {A : Option Addr} {xs : List (List Int)} (h : Kd.C (Kd.slice 2 (Kd.int .i64)) w A xs.length xs) : RR w A xs := by
 intro k hk
 obtain ⟨ad, e, hc⟩ := h.2.2 (by omega)
 have e1 : (Kd.slice 2 (Kd.int IntKind.i64)).sz = 1 := rfl
 obtain ⟨c, hcl, ⟨A', c', rfl, hl, hC⟩, hcell⟩ := hc k _ (List.getElem?_eq_getElem hk)
 have h0 := hcell 0 _ rfl
 rw [e1, Nat.mul_one, Nat.add_zero] at h0
 obtain ⟨c0, -, ⟨A0, c0', rfl, -, -⟩, hcell0⟩ := hc 0 _ (List.getElem?_eq_getElem (show 0 < xs.length by omega))
 have h00 := hcell0 0 _ rfl
 have hs : ad.spot = none := by
  have := spot_none h00
  simpa [Addr.add] using this
 obtain ⟨b, o, s⟩ := ad
 simp only at hs
 subst hs
 rw [add_off] at h0
 have hb := World.block_lt_of_cell? w _ h0
 have e2 := rowLen_at (List.getElem?_eq_getElem hk)
 refine ⟨b, o, A', c', e, hb, by rw [e2]; exact h0, by rw [rowAt_at hk]; exact ri_of_C hC, by rw [e2]; exact hl, by rw [e2]; exact hC.2.1⟩
theorem ows_of_S {w : World} {base : Nat} {v : Value} {xs : List (List Int)} {ok : Nat → Prop} (h : Kd.S (Kd.slice 2 (Kd.int .i64)) 56 w base ok v xs) : OWS w base w.heap.size v xs (fun i => icells (rowAt xs i)) := by
 obtain ⟨f, -, inner, ho, hr⟩ := h
 have hz : xs.zipIdx.length = xs.length := List.length_zipIdx
 rw [hz] at ho
 have e1 : (Kd.tag f (Kd.slice 2 (Kd.int IntKind.i64))).sz = 1 := rfl
 rw [e1] at ho hr
 have each : ∀ i, i < xs.length → ∃ v', inner[i]? = some v' ∧ Kd.R (Kd.int .i64) 2 w base (fun k => (ok k ∧ some k ≠ v.ownBlock) ∧ f k = i) v' (rowAt xs i) := by
  intro i hi
  have hj : xs[i]? = some (rowAt xs i) := by rw [rowAt_at hi]; exact List.getElem?_eq_getElem hi
  obtain ⟨v', hv', hR⟩ := hr.2 i _ (Kd.zip_at hj)
  refine ⟨v', ?_, hR⟩
  have hl : i < inner.length := by rw [hr.1, hz]; omega
  rw [Nat.mul_one, List.drop_eq_getElem_cons hl, List.take_succ_cons, List.take_zero] at hv'
  rw [List.getElem?_eq_getElem hl]
  exact congrArg some (List.cons.inj hv').1
 have hrows : ∀ g c, v = .slice (some ⟨g, 0, none⟩) xs.length c → RowsW w base w.heap.size g xs.length (fun i => inner.getD i default) (rowLen xs) (fun i => icells (rowAt xs i)) := by
  intro g c hv
  subst hv
  have hd : ∀ i v', inner[i]? = some v' → inner.getD i default = v' := fun i v' h => by rw [List.getD_eq_getElem?_getD, h]; rfl
  refine ⟨fun i hi => ?_, fun i hi => ?_, fun i j hi hj hne b hb hb2 => ?_, fun i hi hb => ?_⟩
  ·obtain ⟨v', e, -⟩ := each i hi
   rw [hd i v' e]
   exact own_cell ho e
  ·obtain ⟨v', e, hR⟩ := each i hi
   simp only [hd i v' e]
   exact ow_of_R hR
  ·obtain ⟨v', e, hR⟩ := each i hi
   obtain ⟨v2, e2, hR2⟩ := each j hj
   rw [hd i v' e] at hb
   rw [hd j v2 e2] at hb2
   exact hne ((hR.1 b hb).2.symm.trans (hR2.1 b hb2).2)
  ·obtain ⟨v', e, hR⟩ := each i hi
   rw [hd i v' e] at hb
   exact (hR.1 g hb).1.2 rfl
 rcases ho.2 with ⟨rfl, hn⟩ | ⟨g, cap, cur, rfl, hb, hg, hle, hm, hsz, -⟩
 ·refine ⟨⟨none, 0, 0, fun _ => .slice none 0 0, by rw [hn], by omega, fun h => by omega, ⟨fun i hi => by omega, fun i hi => by omega, fun i j hi => by omega, fun i hi => by omega⟩⟩, Nat.le_refl _⟩
 ·exact ⟨⟨_, cap, g, _, rfl, ⟨hle, by simpa [maxLen] using hm⟩, fun _ => ⟨rfl, hb, (Array.getElem?_eq_some_iff.1 hg).1⟩, hrows g cap rfl⟩, Nat.le_refl _⟩
def rowsz0 (xs : List (List Int)) : Nat := tot (rowLen xs) xs.length
theorem rowsz0_row {xs : List (List Int)} {i : Nat} (h : i < xs.length) : rowLen xs i ≤ rowsz0 xs := by
 have := tot_le (rowLen xs) (show i + 1 ≤ xs.length from h)
 rw [tot] at this
 unfold rowsz0
 omega
theorem OWS.congr {w : World} {lo hi : Nat} {v : Value} {xs : List (List Int)} {cs cs' : Nat → List Value} (h : OWS w lo hi v xs cs) (e : ∀ i, i < xs.length → cs i = cs' i) : OWS w lo hi v xs cs' := by
 obtain ⟨A, c, g, hv, e1, hc, hA, hr⟩ := h.ex
 exact ⟨⟨A, c, g, hv, e1, hc, hA, hr.congr e⟩, h.top⟩
def mkS (k : Int) (xs : List (List Int)) (i : Nat) : List Value := icells (mkI (k + (tot (rowLen xs) i : Int)) (rowLen xs i * 1))
theorem markInt64SS_m (lo hi : Nat) (xs : List (List Int)) (m : Nat) (k : Int) (w : World) (hm : m = rowsz0 xs) {v : Value} {cs : Nat → List Value} (h : OWS w lo hi v xs cs) (hk : 0 ≤ k) (hk2 : k + (m : Int) ≤ 1000000000000) (hl : xs.length ≤ 35184372088832) :
 Calls Try.prog 13 #[v, .int .i64 k] w fun e w' => e = .returned (.int .i64 (k + (m : Int))) ∧ OWS w' lo hi v xs (mkS k xs) ∧ Only lo hi w w' := by
 subst hm
 obtain ⟨A, c, g, hv, rfl, hc, hA, hr⟩ := h.ex
 refine (markInt64SS_any lo hi g xs.length c A hv (rowLen xs) cs k w (fun h => (hA h).1) hr hk hk2 hl).mono ?_
 rintro e w' ⟨rfl, h2, h3⟩
 exact ⟨rfl, ⟨⟨A, c, g, hv, rfl, hc, hA, h2.congr fun i hi => by simp only [mkRows, if_pos hi]; rfl⟩, Nat.le_trans h.top h3.size⟩, h3⟩
theorem heldInt64SS_m (lo hi : Nat) (xs : List (List Int)) (m : Nat) (k : Int) (w : World) (hm : m = rowsz0 xs) {v : Value} (h : OWS w lo hi v xs (mkS k xs)) (hk : 0 ≤ k) (hk2 : k + (m : Int) ≤ 1000000000000) (hl : xs.length ≤ 35184372088832) :
 Calls Try.prog 14 #[v, .int .i64 k] w fun e w' => e = .returned (.int .i64 (k + (m : Int))) ∧ Below w.heap.size w w' := by
 subst hm
 obtain ⟨A, c, g, hv, rfl, hc, hA, hr⟩ := h.ex
 exact heldInt64SS_any lo hi g xs.length c A hv (rowLen xs) (mkS k xs) k w (fun h => (hA h).1) (hr.congr fun i hi => by simp only [mkRows, if_pos hi]; rfl) hk hk2 hl
theorem rows_eq {ts us : List (List Int)} (hl : ts.length = us.length) (h : ∀ j, j < ts.length → rowAt ts j = rowAt us j) : ts = us := by
 apply List.ext_getElem hl
 intro j h1 h2
 have := h j h1
 rwa [rowAt_at h1, rowAt_at h2] at this
set_option maxHeartbeats 1000000 in
theorem eqInt64SS_any (A A' : Option Addr) (ts us : List (List Int)) (n m c c' : Nat) (w : World) (hn : n = ts.length) (hm : m = us.length) (hA : RR w A ts) (hA' : RR w A' us) (hl : ts.length ≤ 35184372088832 ∧ rowsz0 ts ≤ 35184372088832) (hl' : us.length ≤ 35184372088832 ∧ rowsz0 us ≤ 35184372088832) :
 Calls Try.prog 12 #[.slice A n c, .slice A' m c'] w fun e w' => e = .returned (.bool (decide (ts = us))) ∧ Below w.heap.size w w' := by
 have HA := Lib.hid hA; have HA' := Lib.hid hA'; clear hA hA'
 by_cases hlen : n = m
 ·have HL := Lib.hid (show ts.length = us.length by omega); have HN := Lib.hid hn; have HM := Lib.hid hlen
  have h1 : ((n : Int) != m) = false := by simp [hlen]
  have hn0 : n ≤ 35184372088832 := by omega
  clear hlen hn hm
  go_enter Try.func12, Try.ntmps12
  go_wp2
  go_loopw [5] (fun i wr => Below w.heap.size w wr ∧ ∃ k : Nat, k ≤ n ∧ i = .int .i64 k ∧ ∀ j, j < k → rowAt ts j = rowAt us j) (fun i _ => n - (intOf i).toNat)
  case atStart => exact ⟨Below.refl _ _, 0, by omega, rfl, fun j h => absurd h (by omega)⟩
  case round =>
   obtain ⟨hB, k, hk, rfl, hall⟩ := hrel
   have hT := HA.out.below hB
   have hT' := HA'.out.below hB
   have HB := Lib.hid hB; have HALL := Lib.hid hall; clear hB hall
   by_cases hlt : k < n
   ·have k1 : k < ts.length := by have := HN.out; omega
    have k2 : k < us.length := by have := HL.out; omega
    have r1 : rowLen ts k ≤ 35184372088832 := Nat.le_trans (rowsz0_row k1) hl.2
    have r2 : rowLen us k ≤ 35184372088832 := Nat.le_trans (rowsz0_row k2) hl'.2
    have HK := Lib.hid (And.intro k1 k2)
    obtain ⟨b, o, A1, c1, rfl, hb, h0, hr, -⟩ := hT k k1
    obtain ⟨b', o', A2, c2, rfl, hb', h0', hr', -⟩ := hT' k k2
    have HR := Lib.hid hr; have HR' := Lib.hid hr'
    have i1 : (k : Int) < n := by omega
    have i2 : (k : Int) < m := by have := HM.out; omega
    clear hT hT' hr hr' k1 k2
    by_cases he : rowAt ts k = rowAt us k
    ·have HE := Lib.hid (show decide (rowAt ts k = rowAt us k) = true by simpa using he); clear he
     go_wp2
     refine wp_region_gro (by kernel_rfl) (by kernel_rfl) ?_
     repeat (first | go_big_quiet_step (((go_at_call 40; exact quiet_call (by have h := eqInt64S_any A1 A2 (rowAt ts k) (rowAt us k) (rowLen ts k) (rowLen us k) c1 c2 (gro wr ‹GP›) rfl rfl (HR.out.below (gro_below wr _)) (HR'.out.below (gro_below wr _)) r1 r2; rw [HE.out] at h; exact h)))) | quiet_step (((go_at_call 40; exact quiet_call (by have h := eqInt64S_any A1 A2 (rowAt ts k) (rowAt us k) (rowLen ts k) (rowLen us k) c1 c2 (gro wr ‹GP›) rfl rfl (HR.out.below (gro_below wr _)) (HR'.out.below (gro_below wr _)) r1 r2; rw [HE.out] at h; exact h)))))
     refine wpQuiet_nil ?_
     intro w1 hB1
     have HB1 := Lib.hid hB1; clear hB1
     go_wp2
     go_roundw
     case rel => exact ⟨HB.out.trans (HB1.out.mono HB.out.size), k + 1, by omega, by go_num, fun j hj => by
      by_cases e : j = k
      ·subst e; exact of_decide_eq_true HE.out
      ·exact HALL.out j (by omega)⟩
     case measure => simp [intOf]; omega
    ·have HE := Lib.hid (show decide (rowAt ts k = rowAt us k) = false by simpa using he); clear he
     go_wp2
     refine wp_region_gro (by kernel_rfl) (by kernel_rfl) ?_
     repeat (first | go_big_quiet_step (((go_at_call 40; exact quiet_call (by have h := eqInt64S_any A1 A2 (rowAt ts k) (rowAt us k) (rowLen ts k) (rowLen us k) c1 c2 (gro wr ‹GP›) rfl rfl (HR.out.below (gro_below wr _)) (HR'.out.below (gro_below wr _)) r1 r2; rw [HE.out] at h; exact h)))) | quiet_step (((go_at_call 40; exact quiet_call (by have h := eqInt64S_any A1 A2 (rowAt ts k) (rowAt us k) (rowLen ts k) (rowLen us k) c1 c2 (gro wr ‹GP›) rfl rfl (HR.out.below (gro_below wr _)) (HR'.out.below (gro_below wr _)) r1 r2; rw [HE.out] at h; exact h)))))
     refine wpQuiet_nil ?_
     intro w1 hB1
     have HB1 := Lib.hid hB1; clear hB1
     go_wp2
     go_ret
     exact ⟨ret_bool (by have : ts ≠ us := fun e => of_decide_eq_false HE.out (by rw [e]); simp [this]), HB.out.trans (HB1.out.mono HB.out.size)⟩
   ·go_wp2
    go_ret
    exact ⟨ret_bool (by have : ts = us := rows_eq HL.out fun j hj => HALL.out j (by have := HN.out; omega); simp [this]), HB.out⟩
 ·have h1 : ((n : Int) != m) = true := by simp; omega
  have HL := Lib.hid (show ts.length ≠ us.length by omega); clear hlen hn hm
  go_enter Try.func12, Try.ntmps12
  go_wp2
  go_ret
  exact ⟨ret_bool (by have : ts ≠ us := fun e => HL.out (by rw [e]); simp [this]), Below.refl _ _⟩
end Go.Proofs.Ytcaikaflpmaocaa
namespace Go.Proofs.Ytcaikaflpmaocaa.Q
open Go Go.RowKit Go.Proofs Go.Proofs.YtcaikaflpmaocaaW.PrintWords Go.Proofs.Ytcaikaflpmaocaa
set_option linter.unusedVariables false
set_option linter.unusedSimpArgs false
def inLim (n : Nat) : Bool := decide (n ≤ 35184372088832)
def spec_l01Tile.f (a0 a1_0 a1_1 a1_2 a1_3 : Int) : Option Bool := some (tileB ⟨a1_0, a1_1, a1_2, a1_3⟩ (wrap64 (a0 - 1)))
theorem spec_l01Tile.calls (a0 a1_0 a1_1 a1_2 a1_3 : Int) (r : Bool) (w : World) (h : spec_l01Tile.f a0 a1_0 a1_1 a1_2 a1_3 = some r) :
 Calls Try.prog 67 #[.int .i64 a0, .agg #[.int .i64 a1_0, .int .i64 a1_1, .int .i64 a1_2, .int .i64 a1_3]] w fun e w' => e = .returned (.bool r) ∧ Below w.heap.size w w' := by
 obtain rfl := Option.some.inj h
 exact l01Tile_any a0 ⟨a1_0, a1_1, a1_2, a1_3⟩ w
def spec_l01Before.f (a0_0 a0_1 a0_2 a0_3 a1_0 a1_1 a1_2 a1_3 : Int) : Option Bool := some (ltT ⟨a0_0, a0_1, a0_2, a0_3⟩ ⟨a1_0, a1_1, a1_2, a1_3⟩)
theorem spec_l01Before.calls (a0_0 a0_1 a0_2 a0_3 a1_0 a1_1 a1_2 a1_3 : Int) (r : Bool) (w : World) (h : spec_l01Before.f a0_0 a0_1 a0_2 a0_3 a1_0 a1_1 a1_2 a1_3 = some r) :
 Calls Try.prog 68 #[.agg #[.int .i64 a0_0, .int .i64 a0_1, .int .i64 a0_2, .int .i64 a0_3], .agg #[.int .i64 a1_0, .int .i64 a1_1, .int .i64 a1_2, .int .i64 a1_3]] w fun e w' => e = .returned (.bool r) ∧ Below w.heap.size w w' := by
 obtain rfl := Option.some.inj h
 exact l01Before_any ⟨a0_0, a0_1, a0_2, a0_3⟩ ⟨a1_0, a1_1, a1_2, a1_3⟩ w
def spec_l01Is.f (a0_0 : Int) (l0_1 : List STile) : Option Bool := if inLim l0_1.length = true then some (isS a0_0 (l0_1.map toT)) else none
theorem spec_l01Is.calls (a0_0 : Int) (A0_1 : Option Addr) (c0_1 : Nat) (l0_1 : List STile) (r : Bool) (w : World) (hr0_1 : Kd.C k85 w A0_1 l0_1.length l0_1) (hc0_1 : l0_1.length ≤ c0_1) (h : spec_l01Is.f a0_0 l0_1 = some r) :
 Calls Try.prog 44 #[.agg #[.int .i64 a0_0, .slice A0_1 l0_1.length c0_1]] w fun e w' => e = .returned (.bool r) ∧ Below w.heap.size w w' := by
 unfold spec_l01Is.f at h
 split at h
 ·rename_i hl
  obtain rfl := Option.some.inj h
  exact l01Is_any a0_0 A0_1 (l0_1.map toT) _ c0_1 w (by simp) (rt_of_C hr0_1) (by simpa [inLim] using hl)
 ·cases h
def impl_isTile.f (a0_0 a0_1 a0_2 a0_3 a1 : Int) : Option Bool := some (tileB ⟨a0_0, a0_1, a0_2, a0_3⟩ (wrap64 (a1 - 1)))
theorem impl_isTile.calls (a0_0 a0_1 a0_2 a0_3 a1 : Int) (r : Bool) (w : World) (h : impl_isTile.f a0_0 a0_1 a0_2 a0_3 a1 = some r) :
 Calls Try.prog 71 #[.agg #[.int .i64 a0_0, .int .i64 a0_1, .int .i64 a0_2, .int .i64 a0_3], .int .i64 a1] w fun e w' => e = .returned (.bool r) ∧ Below w.heap.size w w' := by
 obtain rfl := Option.some.inj h
 exact isTile_any ⟨a0_0, a0_1, a0_2, a0_3⟩ a1 w
def impl_IsSet.f (a0_0 : Int) (l0_1 : List STile) : Option Bool := if inLim l0_1.length = true then some (isS a0_0 (l0_1.map toT)) else none
theorem impl_IsSet.calls (a0_0 : Int) (A0_1 : Option Addr) (c0_1 : Nat) (l0_1 : List STile) (r : Bool) (w : World) (hr0_1 : Kd.C k85 w A0_1 l0_1.length l0_1) (hc0_1 : l0_1.length ≤ c0_1) (h : impl_IsSet.f a0_0 l0_1 = some r) :
 Calls Try.prog 47 #[.agg #[.int .i64 a0_0, .slice A0_1 l0_1.length c0_1]] w fun e w' => e = .returned (.bool r) ∧ Below w.heap.size w w' := by
 unfold impl_IsSet.f at h
 split at h
 ·rename_i hl
  obtain rfl := Option.some.inj h
  exact IsSet_any a0_0 A0_1 (l0_1.map toT) _ c0_1 w (by simp) (rt_of_C hr0_1) (by simpa [inLim] using hl)
 ·cases h
end Go.Proofs.Ytcaikaflpmaocaa.Q
namespace Go.Proofs.Ytcaikaflpmaocaa
set_option linter.unusedVariables false
set_option linter.unusedSimpArgs false
def waysF (T : Nx) (n : Nat) : Nat → Nat → Nat → List (List Int)
 | 0, _, _ => [[]]
 | d + 1, p, s => (List.range n).flatMap fun (i : Nat) => match T p s i with
  | none => []
  | some b => (waysF T n d (p + 1) b).map fun r => (i : Int) :: r
def branch (T : Nx) (n d p s i : Nat) : List (List Int) := match T p s i with
 | none => []
 | some b => (waysF T n d (p + 1) b).map fun r => (i : Int) :: r
def tailF (T : Nx) (n d p s : Nat) : Nat → Nat → List (List Int)
 | 0, _ => []
 | e + 1, i => branch T n d p s i ++ tailF T n d p s e (i + 1)
theorem tail_flat (T : Nx) (n d p s e : Nat) : ∀ i, tailF T n d p s e i = (List.range' i e).flatMap (branch T n d p s) := by
 induction e with
 | zero => intro i; rfl
 | succ e ih => intro i; rw [tailF, ih, List.range'_succ, List.flatMap_cons]
theorem ways_tail (T : Nx) (n d p s : Nat) : waysF T n (d + 1) p s = tailF T n d p s n 0 := by
 rw [tail_flat, ← List.range_eq_range']
 rfl
theorem flat_len (f : Nat → List (List Int)) (L : List Nat) : ((L.flatMap f).length : Int) = (L.map fun i => ((f i).length : Int)).sum := by
 induction L with
 | nil => rfl
 | cons x L ih => rw [List.flatMap_cons, List.length_append, List.map_cons, List.sum_cons, ← ih]; push_cast; rfl
theorem ways_len (T : Nx) (n d : Nat) : ∀ p s, ((waysF T n d p s).length : Int) = onw T n d p s := by
 induction d with
 | zero => intro p s; rfl
 | succ d ih =>
  intro p s
  rw [waysF, flat_len, onw]
  congr 1
  apply List.map_congr_left
  intro i _
  cases T p s i with
  | none => rfl
  | some b => rw [val, ← ih]; simp
def cutR (w : Nat) : Nat → List Int → List (List Int)
 | 0, _ => []
 | h + 1, xs => xs.take w :: cutR w h (xs.drop w)
theorem ways_row (T : Nx) (n d : Nat) : ∀ p s, ∀ r ∈ waysF T n d p s, r.length = d := by
 induction d with
 | zero => intro p s r hr; rw [waysF, List.mem_singleton] at hr; rw [hr]; rfl
 | succ d ih =>
  intro p s r hr
  rw [waysF, List.mem_flatMap] at hr
  obtain ⟨i, -, hr⟩ := hr
  cases hT : T p s i with
  | none => rw [hT] at hr; cases hr
  | some b =>
   rw [hT] at hr
   obtain ⟨q, hq, rfl⟩ := List.mem_map.1 hr
   rw [List.length_cons, ih _ _ q hq]
def ahead (T : Nx) (n d p s i : Nat) : List (List Int) := (List.range i).flatMap (branch T n d p s)
theorem ahead_zero (T : Nx) (n d p s : Nat) : ahead T n d p s 0 = [] := rfl
theorem ahead_succ (T : Nx) (n d p s i : Nat) : ahead T n d p s (i + 1) = ahead T n d p s i ++ branch T n d p s i := by simp [ahead, List.range_succ, List.flatMap_append]
theorem ahead_all (T : Nx) (n d p s : Nat) : ahead T n d p s n = waysF T n (d + 1) p s := rfl
theorem ahead_pre (T : Nx) (n d p s i : Nat) (hi : i ≤ n) : ∃ z, waysF T n (d + 1) p s = ahead T n d p s i ++ z := by
 rw [← ahead_all]
 obtain ⟨e, rfl⟩ : ∃ e, n = i + e := ⟨n - i, by omega⟩
 refine ⟨(List.range' i e).flatMap (branch T (i + e) d p s), ?_⟩
 unfold ahead
 rw [List.range_eq_range', ← List.range'_append_1 (s := 0), List.flatMap_append, ← List.range_eq_range', Nat.zero_add]
theorem branch_none {T : Nx} {n d p s i : Nat} (h : T p s i = none) : branch T n d p s i = [] := by unfold branch; rw [h]
theorem branch_some {T : Nx} {n d p s i b : Nat} (h : T p s i = some b) : branch T n d p s i = (waysF T n d (p + 1) b).map fun r => (i : Int) :: r := by unfold branch; rw [h]
theorem ways_nil {T : Nx} {n d p s : Nat} (h : ¬ 0 < onw T n d p s) : waysF T n d p s = [] := by
 have h1 := ways_len T n d p s
 have h2 := onw_nn T n d p s
 apply List.eq_nil_of_length_eq_zero
 omega
theorem ways_ne {T : Nx} {n d p s : Nat} (h : 0 < onw T n d p s) : (waysF T n d p s).isEmpty = false := by
 have h1 := ways_len T n d p s
 cases hw : waysF T n d p s with
 | nil => rw [hw] at h1; simp at h1; omega
 | cons x xs => rfl
theorem branch_dead {T : Nx} {n d p s i b : Nat} (h : T p s i = some b) (h0 : ¬ 0 < onw T n d (p + 1) b) : branch T n d p s i = [] := by
 rw [branch_some h, ways_nil h0]; rfl
def visL (q : Bool) (ws : List (List Int)) : List (List Int) := if q = true then ws else ws.take 1
def tellF (wd h : Nat) (pre : List Int) (ws : List (List Int)) : List (List (List Int)) := ws.map fun r => cutR wd h (pre ++ r)
theorem tell_app (wd h : Nat) (pre : List Int) (a b : List (List Int)) : tellF wd h pre (a ++ b) = tellF wd h pre a ++ tellF wd h pre b := List.map_append
theorem tell_len (wd h : Nat) (pre : List Int) (a : List (List Int)) : (tellF wd h pre a).length = a.length := List.length_map _
theorem tell_on (wd h : Nat) (pre : List Int) (i : Int) (ws : List (List Int)) : tellF wd h (pre ++ [i]) ws = tellF wd h pre (ws.map fun r => i :: r) := by
 unfold tellF
 rw [List.map_map]
 apply List.map_congr_left
 intro r _
 simp
theorem visL_map (q : Bool) (f : List Int → List Int) (ws : List (List Int)) : (visL q ws).map f = visL q (ws.map f) := by
 unfold visL; split
 ·rfl
 ·rw [List.map_take]
theorem on_true {T : Nx} {n d p s i b : Nat} (wd h : Nat) (pre : List Int) (hT : T p s i = some b) :
 tellF wd h pre (visL true (ahead T n d p s i)) ++ tellF wd h (pre ++ [(i : Int)]) (visL true (waysF T n d (p + 1) b)) = tellF wd h pre (visL true (ahead T n d p s (i + 1))) := by
 rw [tell_on, ← tell_app, visL_map]
 unfold visL
 rw [if_pos rfl, if_pos rfl, if_pos rfl, ahead_succ, branch_some hT]
theorem on_dead {T : Nx} {n d p s i : Nat} (hb : branch T n d p s i = []) : ahead T n d p s (i + 1) = ahead T n d p s i := by rw [ahead_succ, hb, List.append_nil]
theorem vis_le {T : Nx} {n d p s i b : Nat} {m : Nat} (q : Bool) (hi : i < n) (hT : T p s i = some b) (hq : q = true ∨ ahead T n d p s i = []) (hm : m + (visL q (waysF T n (d + 1) p s)).length ≤ 1000000) :
 m + (visL q (ahead T n d p s i)).length + (visL q (waysF T n d (p + 1) b)).length ≤ 1000000 := by
 obtain ⟨z, hz⟩ := ahead_pre T n d p s (i + 1) (by omega)
 rw [ahead_succ, branch_some hT] at hz
 rw [hz] at hm
 cases q with
 | true => simp only [visL, if_true, List.length_append, List.length_map] at hm ⊢; omega
 | false =>
  rcases hq with hq | hq
  ·cases hq
  ·rw [hq] at hm ⊢
   simp only [visL, List.nil_append, Bool.false_eq_true, if_false, List.take_nil, List.length_nil, List.length_take, List.length_append, List.length_map] at hm ⊢
   omega
theorem cutR_at (w : Nat) : ∀ (h y : Nat) (xs : List Int), y < h → (cutR w h xs).getD y [] = (xs.drop (y * w)).take w := by
 intro h
 induction h with
 | zero => intro y xs hy; omega
 | succ h ih =>
  intro y xs hy
  cases y with
  | zero => simp [cutR, List.getD_eq_getElem?_getD]
  | succ y =>
   have h1 := ih y (xs.drop w) (by omega)
   rw [List.drop_drop] at h1
   rw [Nat.succ_mul, Nat.add_comm (y * w) w, ← h1]
   simp [cutR, List.getD_eq_getElem?_getD]
theorem cutR_len (w : Nat) : ∀ (h : Nat) (xs : List Int), (cutR w h xs).length = h := by
 intro h
 induction h with
 | zero => intro xs; rfl
 | succ h ih => intro xs; simp [cutR, ih]
theorem cutR_snoc (w : Nat) : ∀ (h : Nat) (xs : List Int), cutR w (h + 1) xs = cutR w h xs ++ [(xs.drop (h * w)).take w] := by
 intro h
 induction h with
 | zero => intro xs; simp [cutR]
 | succ h ih =>
  intro xs
  rw [cutR, ih, List.drop_drop, Nat.succ_mul, Nat.add_comm (h * w) w, cutR, List.cons_append]
end Go.Proofs.Ytcaikaflpmaocaa
namespace Go.Proofs.Ytcaikaflpmaocaa.Q
open Go.RowKit Go.Proofs.YtcaikaflpmaocaaW.PrintWords Go.Proofs.YtcaikaflpmaocaaW.PrintLast Go.Proofs.YtcaikaflpmaocaaW.PrintMore
attribute [local go_sem] max2_int min2_int max_two min_two max_three min_three max_four min_four
set_option linter.unusedVariables false
set_option linter.unusedSimpArgs false
def impl_setCode_at_impl_planCode_1.f (k : Nat) (a0_0 : Int) (l0_1 : List (S85)) (a1_0_0 : Int) (l1_0_1 : List (S85)) (l1_1_0 : List (List Int)) (l1_2_0 : List (List Int)) : Option (Int) := (impl_IsSet.f a0_0 l0_1).bind fun t337 => (if t337 = true then ((impl_planCode_1.f k a1_0_0 l1_0_1 l1_1_0 l1_2_0).bind fun t338 => (if t338 = true then (some 0) else (some 2))) else (some 1))
theorem impl_setCode_at_impl_planCode_1.mono : ∀ a0 a1 a2 a3 a4 a5 k, LeO (impl_setCode_at_impl_planCode_1.f k a0 a1 a2 a3 a4 a5) (impl_setCode_at_impl_planCode_1.f (k + 1) a0 a1 a2 a3 a4 a5) := by
 intro a0 a1 a2 a3 a4 a5 k
 unfold impl_setCode_at_impl_planCode_1.f
 repeat' first
  | (with_reducible exact impl_planCode_1.mono _ _ _ _ _)
  | (with_reducible exact LeO.refl _)
  | (with_reducible exact LeO.none _)
  | (with_reducible refine LeO.ite ?_ ?_)
  | (with_reducible refine LeO.bind ?_ (fun _ => ?_))
  | exact impl_planCode_1.mono _ _ _ _ _
  | exact LeO.none _
  | refine LeO.ite ?_ ?_
  | refine LeO.bind ?_ (fun _ => ?_)
set_option maxHeartbeats 8000000 in
set_option maxRecDepth 100000 in
theorem impl_setCode_at_impl_planCode_1.calls (k : Nat) (a0_0 : Int) (A0_1 : Option Addr) (c0_1 : Nat) (l0_1 : List (S85)) (g1_0_ : Nat) (a1_0_0 : Int) (A1_0_1 : Option Addr) (c1_0_1 : Nat) (l1_0_1 : List (S85)) (g1_1_ : Nat) (A1_1_0 : Option Addr) (c1_1_0 : Nat) (l1_1_0 : List (List Int)) (g1_2_ : Nat) (A1_2_0 : Option Addr) (c1_2_0 : Nat) (l1_2_0 : List (List Int)) (r : Int) (w : World) (hr0_1 : Kd.C k85 w A0_1 l0_1.length l0_1) (hc0_1 : l0_1.length ≤ c0_1) (hr1_0_1 : Kd.C k85 w A1_0_1 l1_0_1.length l1_0_1) (hc1_0_1 : l1_0_1.length ≤ c1_0_1) (hr1_1_0 : Kd.C (Kd.slice 2 (Kd.int .i64)) w A1_1_0 l1_1_0.length l1_1_0) (hc1_1_0 : l1_1_0.length ≤ c1_1_0) (hr1_2_0 : Kd.C (Kd.slice 2 (Kd.int .i64)) w A1_2_0 l1_2_0.length l1_2_0) (hc1_2_0 : l1_2_0.length ≤ c1_2_0) (hb1_0_ : w.heap[g1_0_]? = some (.cells #[.int .i64 a1_0_0, .slice A1_0_1 l1_0_1.length c1_0_1] 36 (0, 0))) (hb1_1_ : w.heap[g1_1_]? = some (.cells #[.slice A1_1_0 l1_1_0.length c1_1_0] 22 (0, 0))) (hb1_2_ : w.heap[g1_2_]? = some (.cells #[.slice A1_2_0 l1_2_0.length c1_2_0] 22 (0, 0))) (h : impl_setCode_at_impl_planCode_1.f k a0_0 l0_1 a1_0_0 l1_0_1 l1_1_0 l1_2_0 = some r) :
 Calls Try.prog 50 #[.agg #[.int .i64 a0_0, .slice A0_1 l0_1.length c0_1], .func (.func 78) #[] #[.pointer (some ⟨g1_0_, 0, none⟩), .pointer (some ⟨g1_1_, 0, none⟩), .pointer (some ⟨g1_2_, 0, none⟩)]] w fun e w' => e = .returned (.int .i64 r) ∧ Below w.heap.size w w' := by
 have hu36 := Try.underlying36
 have HR0_1 := Aside0.mk hr0_1
 have HC0_1 := Aside0.mk hc0_1
 clear hr0_1 hc0_1
 have HR1_0_1 := Aside0.mk hr1_0_1
 have HC1_0_1 := Aside0.mk hc1_0_1
 clear hr1_0_1 hc1_0_1
 have HR1_1_0 := Aside0.mk hr1_1_0
 have HC1_1_0 := Aside0.mk hc1_1_0
 clear hr1_1_0 hc1_1_0
 have HR1_2_0 := Aside0.mk hr1_2_0
 have HC1_2_0 := Aside0.mk hc1_2_0
 clear hr1_2_0 hc1_2_0
 have BK90020 := Aside0.mk hb1_0_
 clear hb1_0_
 have BK90021 := Aside0.mk hb1_1_
 clear hb1_1_
 have BK90022 := Aside0.mk hb1_2_
 clear hb1_2_
 have HB := Aside0.mk (Below.refl w.heap.size w)
 have H : ((impl_IsSet.f a0_0 l0_1).bind fun t337 => (if t337 = true then ((impl_planCode_1.f k a1_0_0 l1_0_1 l1_1_0 l1_2_0).bind fun t338 => (if t338 = true then (some 0) else (some 2))) else (some 1))) = some r := h
 clear h
 replace H := Option.bind_eq_some_iff.mp H
 obtain ⟨t337, A30, H⟩ := H
 replace H : (if t337 = true then ((impl_planCode_1.f k a1_0_0 l1_0_1 l1_1_0 l1_2_0).bind fun t338 => (if t338 = true then (some 0) else (some 2))) else (some 1)) = some r := H
 have A3 := Aside0.mk A30
 clear A30
 by_cases c4 : t337 = true
 ·subst c4
  have H1 : ((impl_planCode_1.f k a1_0_0 l1_0_1 l1_1_0 l1_2_0).bind fun t338 => (if t338 = true then (some 0) else (some 2))) = some r := by rw [if_pos rfl] at H; exact H
  clear H
  have H := H1
  clear H1
  replace H := Option.bind_eq_some_iff.mp H
  obtain ⟨t338, A50, H⟩ := H
  replace H : (if t338 = true then (some 0) else (some 2)) = some r := H
  have A5 := Aside0.mk A50
  clear A50
  by_cases c6 : t338 = true
  ·subst c6
   have H1 : (some 0) = some r := by rw [if_pos rfl] at H; exact H
   clear H
   have H := H1
   clear H1
   obtain rfl := Option.some.inj H
   go_enter Try.func50, Try.ntmps50
   go_wp2_with (first | ((with_reducible refine gate_dst (N := 2) rfl ?_); refine box_event ?hg (N := 2) ?hd (cs := #[.int .i64 a0_0, .slice A0_1 l0_1.length c0_1]) (t := 36) ?hr ?_; (case hd => rfl); (case hg => rfl); (case hr => first | (go_simp; done) | (go_simp; rfl)); intro gb336 hg w7 hbox hb; have n0_ := Aside0.mk (blk_below (g := g1_0_) (o := .cells #[.int .i64 a1_0_0, .slice A1_0_1 l1_0_1.length c1_0_1] 36 (0, 0)) (by (with_reducible repeat (first | apply bN_ | apply bD_ | apply bA_)); exact BK90020.out) hb); have n1_ := Aside0.mk (blk_below (g := g1_1_) (o := .cells #[.slice A1_1_0 l1_1_0.length c1_1_0] 22 (0, 0)) (by (with_reducible repeat (first | apply bN_ | apply bD_ | apply bA_)); exact BK90021.out) hb); have n2_ := Aside0.mk (blk_below (g := g1_2_) (o := .cells #[.slice A1_2_0 l1_2_0.length c1_2_0] 22 (0, 0)) (by (with_reducible repeat (first | apply bN_ | apply bD_ | apply bA_)); exact BK90022.out) hb); have n3_ := Aside0.mk (below_step (by repeat (first | (with_reducible first | exact HB.out | apply lA_ | apply lN_ | apply lD_) | exact HB.out)) hb); have n4_ := Aside0.mk (hbox); have n5_ := Aside0.mk ((by rw [hg]; exact (below_size (by repeat (first | (with_reducible first | exact HB.out | apply lA_ | apply lN_ | apply lD_) | exact HB.out))) : w.heap.size ≤ gb336)); have n6_ := Aside0.mk ((by rw [hg]; exact (below_size (by repeat (first | (with_reducible first | exact HB.out | apply lA_ | apply lN_ | apply lD_) | exact HB.out))) : w.heap.size ≤ gb336)); have n7_ := Aside0.mk ((by rw [hg]; exact Nat.ne_of_lt (blk_lt (g := g1_0_) (o := .cells #[.int .i64 a1_0_0, .slice A1_0_1 l1_0_1.length c1_0_1] 36 (0, 0)) (by (with_reducible repeat (first | apply bN_ | apply bD_ | apply bA_)); exact BK90020.out)) : g1_0_ ≠ gb336)); have n8_ := Aside0.mk ((by rw [hg]; exact Nat.ne_of_gt (blk_lt (g := g1_0_) (o := .cells #[.int .i64 a1_0_0, .slice A1_0_1 l1_0_1.length c1_0_1] 36 (0, 0)) (by (with_reducible repeat (first | apply bN_ | apply bD_ | apply bA_)); exact BK90020.out)) : gb336 ≠ g1_0_)); have n9_ := Aside0.mk ((by rw [hg]; exact Nat.ne_of_lt (blk_lt (g := g1_1_) (o := .cells #[.slice A1_1_0 l1_1_0.length c1_1_0] 22 (0, 0)) (by (with_reducible repeat (first | apply bN_ | apply bD_ | apply bA_)); exact BK90021.out)) : g1_1_ ≠ gb336)); have n10_ := Aside0.mk ((by rw [hg]; exact Nat.ne_of_gt (blk_lt (g := g1_1_) (o := .cells #[.slice A1_1_0 l1_1_0.length c1_1_0] 22 (0, 0)) (by (with_reducible repeat (first | apply bN_ | apply bD_ | apply bA_)); exact BK90021.out)) : gb336 ≠ g1_1_)); have n11_ := Aside0.mk ((by rw [hg]; exact Nat.ne_of_lt (blk_lt (g := g1_2_) (o := .cells #[.slice A1_2_0 l1_2_0.length c1_2_0] 22 (0, 0)) (by (with_reducible repeat (first | apply bN_ | apply bD_ | apply bA_)); exact BK90022.out)) : g1_2_ ≠ gb336)); have n12_ := Aside0.mk ((by rw [hg]; exact Nat.ne_of_gt (blk_lt (g := g1_2_) (o := .cells #[.slice A1_2_0 l1_2_0.length c1_2_0] 22 (0, 0)) (by (with_reducible repeat (first | apply bN_ | apply bD_ | apply bA_)); exact BK90022.out)) : gb336 ≠ g1_2_)); clear BK90020; clear BK90021; clear BK90022; clear HB; have BK90020 := n0_; have BK90021 := n1_; have BK90022 := n2_; have HB := n3_; have BK336 := n4_; have GW336 := n5_; have GE336 := n6_; have NB90020_336 := n7_; have NB336_90020 := n8_; have NB90021_336 := n9_; have NB336_90021 := n10_; have NB90022_336 := n11_; have NB336_90022 := n12_; clear n0_ n1_ n2_ n3_ n4_ n5_ n6_ n7_ n8_ n9_ n10_ n11_ n12_; clear hb hbox hg; have hnb8 := NB336_90020.out; have hnc8 := NB90020_336.out; have hnb9 := NB336_90021.out; have hnc9 := NB90021_336.out; have hnb10 := NB336_90022.out; have hnc10 := NB90022_336.out; have hcz11_0 : w7.cell? ⟨gb336, 0, none⟩ = some (.int .i64 a0_0) := (blk_cell BK336.out 0).trans rfl; have hcz11_1 : w7.cell? ⟨gb336, 1, none⟩ = some (.slice A0_1 l0_1.length c0_1) := (blk_cell BK336.out 1).trans rfl; have hfz11_0 := blk_frozen BK336.out 0; have hfz11_1 := blk_frozen BK336.out 1) | ((with_reducible refine gate_callee (f := 47) rfl ?_); refine goesL_ (some 7) rfl rfl Try.func47 (by kernel_rfl) rfl #[.agg #[.int .i64 a0_0, .slice A0_1 l0_1.length c0_1]] rfl (by (try simp only [q4_, q5_, q6_]); first | done | rfl | (simp only [List.length_drop, List.length_take]; rfl)) ?_; (with_reducible refine (impl_IsSet.calls a0_0 _ _ l0_1 true _ ?side1 ?side2 A3.out).mono ?_); (case side1 => repeat (first | exact (Kd.C_below HR0_1.out HB.out) | (with_reducible refine Kd.C_alloc ?_ _) | (with_reducible refine Kd.C_drewN ?_ _) | (with_reducible refine Kd.C_drew ?_))); (case side2 => exact HC0_1.out); rintro e w12 ⟨rfl, hb⟩; refine ⟨_, rfl, ?_⟩; have n0_ := Aside0.mk (blk_below (g := g1_0_) (o := .cells #[.int .i64 a1_0_0, .slice A1_0_1 l1_0_1.length c1_0_1] 36 (0, 0)) (by (with_reducible repeat (first | apply bN_ | apply bD_ | apply bA_)); exact BK90020.out) hb); have n1_ := Aside0.mk (blk_below (g := g1_1_) (o := .cells #[.slice A1_1_0 l1_1_0.length c1_1_0] 22 (0, 0)) (by (with_reducible repeat (first | apply bN_ | apply bD_ | apply bA_)); exact BK90021.out) hb); have n2_ := Aside0.mk (blk_below (g := g1_2_) (o := .cells #[.slice A1_2_0 l1_2_0.length c1_2_0] 22 (0, 0)) (by (with_reducible repeat (first | apply bN_ | apply bD_ | apply bA_)); exact BK90022.out) hb); have n3_ := Aside0.mk (blk_below (g := gb336) (o := .cells #[.int .i64 a0_0, .slice A0_1 l0_1.length c0_1] 36 (0, 0)) (by (with_reducible repeat (first | apply bN_ | apply bD_ | apply bA_)); exact BK336.out) hb); have n4_ := Aside0.mk (below_step (by repeat (first | (with_reducible first | exact HB.out | apply lA_ | apply lN_ | apply lD_ | refine lS_ ?_ GE336.out) | exact HB.out)) hb); clear BK90020; clear BK90021; clear BK90022; clear BK336; clear HB; have BK90020 := n0_; have BK90021 := n1_; have BK90022 := n2_; have BK336 := n3_; have HB := n4_; clear n0_ n1_ n2_ n3_ n4_; (try clear hb); (try clear hb2); (try clear hk); (try clear hi)))
   (with_reducible refine (impl_planCode_1.calls k g1_0_ a1_0_0 A1_0_1 c1_0_1 l1_0_1 g1_1_ A1_1_0 c1_1_0 l1_1_0 g1_2_ A1_2_0 c1_2_0 l1_2_0 true _ ?side1_q14 ?side2_q14 ?side3_q14 ?side4_q14 ?side5_q14 ?side6_q14 ?side7_q14 ?side8_q14 ?side9_q14 A5.out).mono ?_); (case side1_q14 => repeat (first | exact (Kd.C_below HR1_0_1.out HB.out) | (with_reducible refine Kd.C_alloc ?_ _) | (with_reducible refine Kd.C_drewN ?_ _) | (with_reducible refine Kd.C_drew ?_))); (case side2_q14 => exact HC1_0_1.out); (case side3_q14 => repeat (first | exact (Kd.C_below HR1_1_0.out HB.out) | (with_reducible refine Kd.C_alloc ?_ _) | (with_reducible refine Kd.C_drewN ?_ _) | (with_reducible refine Kd.C_drew ?_))); (case side4_q14 => exact HC1_1_0.out); (case side5_q14 => repeat (first | exact (Kd.C_below HR1_2_0.out HB.out) | (with_reducible refine Kd.C_alloc ?_ _) | (with_reducible refine Kd.C_drewN ?_ _) | (with_reducible refine Kd.C_drew ?_))); (case side6_q14 => exact HC1_2_0.out); (case side7_q14 => exact (by (with_reducible repeat (first | apply bN_ | apply bD_ | apply bA_)); exact BK90020.out)); (case side8_q14 => exact (by (with_reducible repeat (first | apply bN_ | apply bD_ | apply bA_)); exact BK90021.out)); (case side9_q14 => exact (by (with_reducible repeat (first | apply bN_ | apply bD_ | apply bA_)); exact BK90022.out))
   rintro e w13 ⟨rfl, hb⟩
   have n0_ := Aside0.mk (blk_below (g := g1_0_) (o := .cells #[.int .i64 a1_0_0, .slice A1_0_1 l1_0_1.length c1_0_1] 36 (0, 0)) (by (with_reducible repeat (first | apply bN_ | apply bD_ | apply bA_)); exact BK90020.out) hb)
   have n1_ := Aside0.mk (blk_below (g := g1_1_) (o := .cells #[.slice A1_1_0 l1_1_0.length c1_1_0] 22 (0, 0)) (by (with_reducible repeat (first | apply bN_ | apply bD_ | apply bA_)); exact BK90021.out) hb)
   have n2_ := Aside0.mk (blk_below (g := g1_2_) (o := .cells #[.slice A1_2_0 l1_2_0.length c1_2_0] 22 (0, 0)) (by (with_reducible repeat (first | apply bN_ | apply bD_ | apply bA_)); exact BK90022.out) hb)
   have n3_ := Aside0.mk (blk_below (g := gb336) (o := .cells #[.int .i64 a0_0, .slice A0_1 l0_1.length c0_1] 36 (0, 0)) (by (with_reducible repeat (first | apply bN_ | apply bD_ | apply bA_)); exact BK336.out) hb)
   have n4_ := Aside0.mk (below_step (by repeat (first | (with_reducible first | exact HB.out | apply lA_ | apply lN_ | apply lD_ | refine lS_ ?_ GE336.out) | exact HB.out)) hb)
   clear BK90020
   clear BK90021
   clear BK90022
   clear BK336
   clear HB
   have BK90020 := n0_
   have BK90021 := n1_
   have BK90022 := n2_
   have BK336 := n3_
   have HB := n4_
   clear n0_ n1_ n2_ n3_ n4_
   (try clear hb)
   (try clear hb2)
   (try clear hk)
   (try clear hi)
   go_wp2_with fail
   go_ret
   exact ⟨by first | rfl | (simp [errW_none, errW_some] <;> rfl) | (simp [*, errW_none, errW_some] <;> rfl), by repeat (first | (with_reducible first | exact HB.out | apply lA_ | apply lN_ | apply lD_ | refine lS_ ?_ GE336.out) | exact HB.out)⟩
  ·replace c6 := Bool.eq_false_iff.mpr c6
   subst c6
   have H1 : (some 2) = some r := by rw [if_neg (show ¬ (false = true) by decide)] at H; exact H
   clear H
   have H := H1
   clear H1
   obtain rfl := Option.some.inj H
   go_enter Try.func50, Try.ntmps50
   go_wp2_with (first | ((with_reducible refine gate_dst (N := 2) rfl ?_); refine box_event ?hg (N := 2) ?hd (cs := #[.int .i64 a0_0, .slice A0_1 l0_1.length c0_1]) (t := 36) ?hr ?_; (case hd => rfl); (case hg => rfl); (case hr => first | (go_simp; done) | (go_simp; rfl)); intro gb336 hg w15 hbox hb; have n0_ := Aside0.mk (blk_below (g := g1_0_) (o := .cells #[.int .i64 a1_0_0, .slice A1_0_1 l1_0_1.length c1_0_1] 36 (0, 0)) (by (with_reducible repeat (first | apply bN_ | apply bD_ | apply bA_)); exact BK90020.out) hb); have n1_ := Aside0.mk (blk_below (g := g1_1_) (o := .cells #[.slice A1_1_0 l1_1_0.length c1_1_0] 22 (0, 0)) (by (with_reducible repeat (first | apply bN_ | apply bD_ | apply bA_)); exact BK90021.out) hb); have n2_ := Aside0.mk (blk_below (g := g1_2_) (o := .cells #[.slice A1_2_0 l1_2_0.length c1_2_0] 22 (0, 0)) (by (with_reducible repeat (first | apply bN_ | apply bD_ | apply bA_)); exact BK90022.out) hb); have n3_ := Aside0.mk (below_step (by repeat (first | (with_reducible first | exact HB.out | apply lA_ | apply lN_ | apply lD_) | exact HB.out)) hb); have n4_ := Aside0.mk (hbox); have n5_ := Aside0.mk ((by rw [hg]; exact (below_size (by repeat (first | (with_reducible first | exact HB.out | apply lA_ | apply lN_ | apply lD_) | exact HB.out))) : w.heap.size ≤ gb336)); have n6_ := Aside0.mk ((by rw [hg]; exact (below_size (by repeat (first | (with_reducible first | exact HB.out | apply lA_ | apply lN_ | apply lD_) | exact HB.out))) : w.heap.size ≤ gb336)); have n7_ := Aside0.mk ((by rw [hg]; exact Nat.ne_of_lt (blk_lt (g := g1_0_) (o := .cells #[.int .i64 a1_0_0, .slice A1_0_1 l1_0_1.length c1_0_1] 36 (0, 0)) (by (with_reducible repeat (first | apply bN_ | apply bD_ | apply bA_)); exact BK90020.out)) : g1_0_ ≠ gb336)); have n8_ := Aside0.mk ((by rw [hg]; exact Nat.ne_of_gt (blk_lt (g := g1_0_) (o := .cells #[.int .i64 a1_0_0, .slice A1_0_1 l1_0_1.length c1_0_1] 36 (0, 0)) (by (with_reducible repeat (first | apply bN_ | apply bD_ | apply bA_)); exact BK90020.out)) : gb336 ≠ g1_0_)); have n9_ := Aside0.mk ((by rw [hg]; exact Nat.ne_of_lt (blk_lt (g := g1_1_) (o := .cells #[.slice A1_1_0 l1_1_0.length c1_1_0] 22 (0, 0)) (by (with_reducible repeat (first | apply bN_ | apply bD_ | apply bA_)); exact BK90021.out)) : g1_1_ ≠ gb336)); have n10_ := Aside0.mk ((by rw [hg]; exact Nat.ne_of_gt (blk_lt (g := g1_1_) (o := .cells #[.slice A1_1_0 l1_1_0.length c1_1_0] 22 (0, 0)) (by (with_reducible repeat (first | apply bN_ | apply bD_ | apply bA_)); exact BK90021.out)) : gb336 ≠ g1_1_)); have n11_ := Aside0.mk ((by rw [hg]; exact Nat.ne_of_lt (blk_lt (g := g1_2_) (o := .cells #[.slice A1_2_0 l1_2_0.length c1_2_0] 22 (0, 0)) (by (with_reducible repeat (first | apply bN_ | apply bD_ | apply bA_)); exact BK90022.out)) : g1_2_ ≠ gb336)); have n12_ := Aside0.mk ((by rw [hg]; exact Nat.ne_of_gt (blk_lt (g := g1_2_) (o := .cells #[.slice A1_2_0 l1_2_0.length c1_2_0] 22 (0, 0)) (by (with_reducible repeat (first | apply bN_ | apply bD_ | apply bA_)); exact BK90022.out)) : gb336 ≠ g1_2_)); clear BK90020; clear BK90021; clear BK90022; clear HB; have BK90020 := n0_; have BK90021 := n1_; have BK90022 := n2_; have HB := n3_; have BK336 := n4_; have GW336 := n5_; have GE336 := n6_; have NB90020_336 := n7_; have NB336_90020 := n8_; have NB90021_336 := n9_; have NB336_90021 := n10_; have NB90022_336 := n11_; have NB336_90022 := n12_; clear n0_ n1_ n2_ n3_ n4_ n5_ n6_ n7_ n8_ n9_ n10_ n11_ n12_; clear hb hbox hg; have hnb16 := NB336_90020.out; have hnc16 := NB90020_336.out; have hnb17 := NB336_90021.out; have hnc17 := NB90021_336.out; have hnb18 := NB336_90022.out; have hnc18 := NB90022_336.out; have hcz19_0 : w15.cell? ⟨gb336, 0, none⟩ = some (.int .i64 a0_0) := (blk_cell BK336.out 0).trans rfl; have hcz19_1 : w15.cell? ⟨gb336, 1, none⟩ = some (.slice A0_1 l0_1.length c0_1) := (blk_cell BK336.out 1).trans rfl; have hfz19_0 := blk_frozen BK336.out 0; have hfz19_1 := blk_frozen BK336.out 1) | ((with_reducible refine gate_callee (f := 47) rfl ?_); refine goesL_ (some 7) rfl rfl Try.func47 (by kernel_rfl) rfl #[.agg #[.int .i64 a0_0, .slice A0_1 l0_1.length c0_1]] rfl (by (try simp only [q4_, q5_, q6_]); first | done | rfl | (simp only [List.length_drop, List.length_take]; rfl)) ?_; (with_reducible refine (impl_IsSet.calls a0_0 _ _ l0_1 true _ ?side1 ?side2 A3.out).mono ?_); (case side1 => repeat (first | exact (Kd.C_below HR0_1.out HB.out) | (with_reducible refine Kd.C_alloc ?_ _) | (with_reducible refine Kd.C_drewN ?_ _) | (with_reducible refine Kd.C_drew ?_))); (case side2 => exact HC0_1.out); rintro e w20 ⟨rfl, hb⟩; refine ⟨_, rfl, ?_⟩; have n0_ := Aside0.mk (blk_below (g := g1_0_) (o := .cells #[.int .i64 a1_0_0, .slice A1_0_1 l1_0_1.length c1_0_1] 36 (0, 0)) (by (with_reducible repeat (first | apply bN_ | apply bD_ | apply bA_)); exact BK90020.out) hb); have n1_ := Aside0.mk (blk_below (g := g1_1_) (o := .cells #[.slice A1_1_0 l1_1_0.length c1_1_0] 22 (0, 0)) (by (with_reducible repeat (first | apply bN_ | apply bD_ | apply bA_)); exact BK90021.out) hb); have n2_ := Aside0.mk (blk_below (g := g1_2_) (o := .cells #[.slice A1_2_0 l1_2_0.length c1_2_0] 22 (0, 0)) (by (with_reducible repeat (first | apply bN_ | apply bD_ | apply bA_)); exact BK90022.out) hb); have n3_ := Aside0.mk (blk_below (g := gb336) (o := .cells #[.int .i64 a0_0, .slice A0_1 l0_1.length c0_1] 36 (0, 0)) (by (with_reducible repeat (first | apply bN_ | apply bD_ | apply bA_)); exact BK336.out) hb); have n4_ := Aside0.mk (below_step (by repeat (first | (with_reducible first | exact HB.out | apply lA_ | apply lN_ | apply lD_ | refine lS_ ?_ GE336.out) | exact HB.out)) hb); clear BK90020; clear BK90021; clear BK90022; clear BK336; clear HB; have BK90020 := n0_; have BK90021 := n1_; have BK90022 := n2_; have BK336 := n3_; have HB := n4_; clear n0_ n1_ n2_ n3_ n4_; (try clear hb); (try clear hb2); (try clear hk); (try clear hi)))
   (with_reducible refine (impl_planCode_1.calls k g1_0_ a1_0_0 A1_0_1 c1_0_1 l1_0_1 g1_1_ A1_1_0 c1_1_0 l1_1_0 g1_2_ A1_2_0 c1_2_0 l1_2_0 false _ ?side1_q22 ?side2_q22 ?side3_q22 ?side4_q22 ?side5_q22 ?side6_q22 ?side7_q22 ?side8_q22 ?side9_q22 A5.out).mono ?_); (case side1_q22 => repeat (first | exact (Kd.C_below HR1_0_1.out HB.out) | (with_reducible refine Kd.C_alloc ?_ _) | (with_reducible refine Kd.C_drewN ?_ _) | (with_reducible refine Kd.C_drew ?_))); (case side2_q22 => exact HC1_0_1.out); (case side3_q22 => repeat (first | exact (Kd.C_below HR1_1_0.out HB.out) | (with_reducible refine Kd.C_alloc ?_ _) | (with_reducible refine Kd.C_drewN ?_ _) | (with_reducible refine Kd.C_drew ?_))); (case side4_q22 => exact HC1_1_0.out); (case side5_q22 => repeat (first | exact (Kd.C_below HR1_2_0.out HB.out) | (with_reducible refine Kd.C_alloc ?_ _) | (with_reducible refine Kd.C_drewN ?_ _) | (with_reducible refine Kd.C_drew ?_))); (case side6_q22 => exact HC1_2_0.out); (case side7_q22 => exact (by (with_reducible repeat (first | apply bN_ | apply bD_ | apply bA_)); exact BK90020.out)); (case side8_q22 => exact (by (with_reducible repeat (first | apply bN_ | apply bD_ | apply bA_)); exact BK90021.out)); (case side9_q22 => exact (by (with_reducible repeat (first | apply bN_ | apply bD_ | apply bA_)); exact BK90022.out))
   rintro e w21 ⟨rfl, hb⟩
   have n0_ := Aside0.mk (blk_below (g := g1_0_) (o := .cells #[.int .i64 a1_0_0, .slice A1_0_1 l1_0_1.length c1_0_1] 36 (0, 0)) (by (with_reducible repeat (first | apply bN_ | apply bD_ | apply bA_)); exact BK90020.out) hb)
   have n1_ := Aside0.mk (blk_below (g := g1_1_) (o := .cells #[.slice A1_1_0 l1_1_0.length c1_1_0] 22 (0, 0)) (by (with_reducible repeat (first | apply bN_ | apply bD_ | apply bA_)); exact BK90021.out) hb)
   have n2_ := Aside0.mk (blk_below (g := g1_2_) (o := .cells #[.slice A1_2_0 l1_2_0.length c1_2_0] 22 (0, 0)) (by (with_reducible repeat (first | apply bN_ | apply bD_ | apply bA_)); exact BK90022.out) hb)
   have n3_ := Aside0.mk (blk_below (g := gb336) (o := .cells #[.int .i64 a0_0, .slice A0_1 l0_1.length c0_1] 36 (0, 0)) (by (with_reducible repeat (first | apply bN_ | apply bD_ | apply bA_)); exact BK336.out) hb)
   have n4_ := Aside0.mk (below_step (by repeat (first | (with_reducible first | exact HB.out | apply lA_ | apply lN_ | apply lD_ | refine lS_ ?_ GE336.out) | exact HB.out)) hb)
   clear BK90020
   clear BK90021
   clear BK90022
   clear BK336
   clear HB
   have BK90020 := n0_
   have BK90021 := n1_
   have BK90022 := n2_
   have BK336 := n3_
   have HB := n4_
   clear n0_ n1_ n2_ n3_ n4_
   (try clear hb)
   (try clear hb2)
   (try clear hk)
   (try clear hi)
   go_wp2_with fail
   go_ret
   exact ⟨by first | rfl | (simp [errW_none, errW_some] <;> rfl) | (simp [*, errW_none, errW_some] <;> rfl), by repeat (first | (with_reducible first | exact HB.out | apply lA_ | apply lN_ | apply lD_ | refine lS_ ?_ GE336.out) | exact HB.out)⟩
 ·replace c4 := Bool.eq_false_iff.mpr c4
  subst c4
  have H1 : (some 1) = some r := by rw [if_neg (show ¬ (false = true) by decide)] at H; exact H
  clear H
  have H := H1
  clear H1
  obtain rfl := Option.some.inj H
  go_enter Try.func50, Try.ntmps50
  go_wp2_with (first | ((with_reducible refine gate_dst (N := 2) rfl ?_); refine box_event ?hg (N := 2) ?hd (cs := #[.int .i64 a0_0, .slice A0_1 l0_1.length c0_1]) (t := 36) ?hr ?_; (case hd => rfl); (case hg => rfl); (case hr => first | (go_simp; done) | (go_simp; rfl)); intro gb336 hg w23 hbox hb; have n0_ := Aside0.mk (blk_below (g := g1_0_) (o := .cells #[.int .i64 a1_0_0, .slice A1_0_1 l1_0_1.length c1_0_1] 36 (0, 0)) (by (with_reducible repeat (first | apply bN_ | apply bD_ | apply bA_)); exact BK90020.out) hb); have n1_ := Aside0.mk (blk_below (g := g1_1_) (o := .cells #[.slice A1_1_0 l1_1_0.length c1_1_0] 22 (0, 0)) (by (with_reducible repeat (first | apply bN_ | apply bD_ | apply bA_)); exact BK90021.out) hb); have n2_ := Aside0.mk (blk_below (g := g1_2_) (o := .cells #[.slice A1_2_0 l1_2_0.length c1_2_0] 22 (0, 0)) (by (with_reducible repeat (first | apply bN_ | apply bD_ | apply bA_)); exact BK90022.out) hb); have n3_ := Aside0.mk (below_step (by repeat (first | (with_reducible first | exact HB.out | apply lA_ | apply lN_ | apply lD_) | exact HB.out)) hb); have n4_ := Aside0.mk (hbox); have n5_ := Aside0.mk ((by rw [hg]; exact (below_size (by repeat (first | (with_reducible first | exact HB.out | apply lA_ | apply lN_ | apply lD_) | exact HB.out))) : w.heap.size ≤ gb336)); have n6_ := Aside0.mk ((by rw [hg]; exact (below_size (by repeat (first | (with_reducible first | exact HB.out | apply lA_ | apply lN_ | apply lD_) | exact HB.out))) : w.heap.size ≤ gb336)); have n7_ := Aside0.mk ((by rw [hg]; exact Nat.ne_of_lt (blk_lt (g := g1_0_) (o := .cells #[.int .i64 a1_0_0, .slice A1_0_1 l1_0_1.length c1_0_1] 36 (0, 0)) (by (with_reducible repeat (first | apply bN_ | apply bD_ | apply bA_)); exact BK90020.out)) : g1_0_ ≠ gb336)); have n8_ := Aside0.mk ((by rw [hg]; exact Nat.ne_of_gt (blk_lt (g := g1_0_) (o := .cells #[.int .i64 a1_0_0, .slice A1_0_1 l1_0_1.length c1_0_1] 36 (0, 0)) (by (with_reducible repeat (first | apply bN_ | apply bD_ | apply bA_)); exact BK90020.out)) : gb336 ≠ g1_0_)); have n9_ := Aside0.mk ((by rw [hg]; exact Nat.ne_of_lt (blk_lt (g := g1_1_) (o := .cells #[.slice A1_1_0 l1_1_0.length c1_1_0] 22 (0, 0)) (by (with_reducible repeat (first | apply bN_ | apply bD_ | apply bA_)); exact BK90021.out)) : g1_1_ ≠ gb336)); have n10_ := Aside0.mk ((by rw [hg]; exact Nat.ne_of_gt (blk_lt (g := g1_1_) (o := .cells #[.slice A1_1_0 l1_1_0.length c1_1_0] 22 (0, 0)) (by (with_reducible repeat (first | apply bN_ | apply bD_ | apply bA_)); exact BK90021.out)) : gb336 ≠ g1_1_)); have n11_ := Aside0.mk ((by rw [hg]; exact Nat.ne_of_lt (blk_lt (g := g1_2_) (o := .cells #[.slice A1_2_0 l1_2_0.length c1_2_0] 22 (0, 0)) (by (with_reducible repeat (first | apply bN_ | apply bD_ | apply bA_)); exact BK90022.out)) : g1_2_ ≠ gb336)); have n12_ := Aside0.mk ((by rw [hg]; exact Nat.ne_of_gt (blk_lt (g := g1_2_) (o := .cells #[.slice A1_2_0 l1_2_0.length c1_2_0] 22 (0, 0)) (by (with_reducible repeat (first | apply bN_ | apply bD_ | apply bA_)); exact BK90022.out)) : gb336 ≠ g1_2_)); clear BK90020; clear BK90021; clear BK90022; clear HB; have BK90020 := n0_; have BK90021 := n1_; have BK90022 := n2_; have HB := n3_; have BK336 := n4_; have GW336 := n5_; have GE336 := n6_; have NB90020_336 := n7_; have NB336_90020 := n8_; have NB90021_336 := n9_; have NB336_90021 := n10_; have NB90022_336 := n11_; have NB336_90022 := n12_; clear n0_ n1_ n2_ n3_ n4_ n5_ n6_ n7_ n8_ n9_ n10_ n11_ n12_; clear hb hbox hg; have hnb24 := NB336_90020.out; have hnc24 := NB90020_336.out; have hnb25 := NB336_90021.out; have hnc25 := NB90021_336.out; have hnb26 := NB336_90022.out; have hnc26 := NB90022_336.out; have hcz27_0 : w23.cell? ⟨gb336, 0, none⟩ = some (.int .i64 a0_0) := (blk_cell BK336.out 0).trans rfl; have hcz27_1 : w23.cell? ⟨gb336, 1, none⟩ = some (.slice A0_1 l0_1.length c0_1) := (blk_cell BK336.out 1).trans rfl; have hfz27_0 := blk_frozen BK336.out 0; have hfz27_1 := blk_frozen BK336.out 1) | ((with_reducible refine gate_callee (f := 47) rfl ?_); refine goesL_ (some 7) rfl rfl Try.func47 (by kernel_rfl) rfl #[.agg #[.int .i64 a0_0, .slice A0_1 l0_1.length c0_1]] rfl (by (try simp only [q4_, q5_, q6_]); first | done | rfl | (simp only [List.length_drop, List.length_take]; rfl)) ?_; (with_reducible refine (impl_IsSet.calls a0_0 _ _ l0_1 false _ ?side1 ?side2 A3.out).mono ?_); (case side1 => repeat (first | exact (Kd.C_below HR0_1.out HB.out) | (with_reducible refine Kd.C_alloc ?_ _) | (with_reducible refine Kd.C_drewN ?_ _) | (with_reducible refine Kd.C_drew ?_))); (case side2 => exact HC0_1.out); rintro e w28 ⟨rfl, hb⟩; refine ⟨_, rfl, ?_⟩; have n0_ := Aside0.mk (blk_below (g := g1_0_) (o := .cells #[.int .i64 a1_0_0, .slice A1_0_1 l1_0_1.length c1_0_1] 36 (0, 0)) (by (with_reducible repeat (first | apply bN_ | apply bD_ | apply bA_)); exact BK90020.out) hb); have n1_ := Aside0.mk (blk_below (g := g1_1_) (o := .cells #[.slice A1_1_0 l1_1_0.length c1_1_0] 22 (0, 0)) (by (with_reducible repeat (first | apply bN_ | apply bD_ | apply bA_)); exact BK90021.out) hb); have n2_ := Aside0.mk (blk_below (g := g1_2_) (o := .cells #[.slice A1_2_0 l1_2_0.length c1_2_0] 22 (0, 0)) (by (with_reducible repeat (first | apply bN_ | apply bD_ | apply bA_)); exact BK90022.out) hb); have n3_ := Aside0.mk (blk_below (g := gb336) (o := .cells #[.int .i64 a0_0, .slice A0_1 l0_1.length c0_1] 36 (0, 0)) (by (with_reducible repeat (first | apply bN_ | apply bD_ | apply bA_)); exact BK336.out) hb); have n4_ := Aside0.mk (below_step (by repeat (first | (with_reducible first | exact HB.out | apply lA_ | apply lN_ | apply lD_ | refine lS_ ?_ GE336.out) | exact HB.out)) hb); clear BK90020; clear BK90021; clear BK90022; clear BK336; clear HB; have BK90020 := n0_; have BK90021 := n1_; have BK90022 := n2_; have BK336 := n3_; have HB := n4_; clear n0_ n1_ n2_ n3_ n4_; (try clear hb); (try clear hb2); (try clear hk); (try clear hi)))
  go_ret
  exact ⟨by first | rfl | (simp [errW_none, errW_some] <;> rfl) | (simp [*, errW_none, errW_some] <;> rfl), by repeat (first | (with_reducible first | exact HB.out | apply lA_ | apply lN_ | apply lD_ | refine lS_ ?_ GE336.out) | exact HB.out)⟩
def impl_planCode.f (k : Nat) (a0_0 : Int) (l0_1 : List (S85)) (l1 : List (List Int)) (l2 : List (List Int)) : Option (Int) := (impl_setCode_at_impl_planCode_1.f k a0_0 l0_1 a0_0 l0_1 l1 l2).bind fun t342 => (some t342)
theorem impl_planCode.mono : ∀ a0 a1 a2 a3 k, LeO (impl_planCode.f k a0 a1 a2 a3) (impl_planCode.f (k + 1) a0 a1 a2 a3) := by
 intro a0 a1 a2 a3 k
 unfold impl_planCode.f
 repeat' first
  | (with_reducible exact impl_setCode_at_impl_planCode_1.mono _ _ _ _ _ _ _)
  | (with_reducible exact LeO.refl _)
  | (with_reducible exact LeO.none _)
  | (with_reducible refine LeO.ite ?_ ?_)
  | (with_reducible refine LeO.bind ?_ (fun _ => ?_))
  | exact impl_setCode_at_impl_planCode_1.mono _ _ _ _ _ _ _
  | exact LeO.none _
  | refine LeO.ite ?_ ?_
  | refine LeO.bind ?_ (fun _ => ?_)
set_option maxHeartbeats 8000000 in
set_option maxRecDepth 100000 in
theorem impl_planCode.calls (k : Nat) (a0_0 : Int) (A0_1 : Option Addr) (c0_1 : Nat) (l0_1 : List (S85)) (A1 : Option Addr) (c1 : Nat) (l1 : List (List Int)) (A2 : Option Addr) (c2 : Nat) (l2 : List (List Int)) (r : Int) (w : World) (hr0_1 : Kd.C k85 w A0_1 l0_1.length l0_1) (hc0_1 : l0_1.length ≤ c0_1) (hr1 : Kd.C (Kd.slice 2 (Kd.int .i64)) w A1 l1.length l1) (hc1 : l1.length ≤ c1) (hr2 : Kd.C (Kd.slice 2 (Kd.int .i64)) w A2 l2.length l2) (hc2 : l2.length ≤ c2) (h : impl_planCode.f k a0_0 l0_1 l1 l2 = some r) :
 Calls Try.prog 59 #[.agg #[.int .i64 a0_0, .slice A0_1 l0_1.length c0_1], .slice A1 l1.length c1, .slice A2 l2.length c2] w fun e w' => e = .returned (.int .i64 r) ∧ Below w.heap.size w w' := by
 have hu36 := Try.underlying36
 have HR0_1 := Aside0.mk hr0_1
 have HC0_1 := Aside0.mk hc0_1
 clear hr0_1 hc0_1
 have HR1 := Aside0.mk hr1
 have HC1 := Aside0.mk hc1
 clear hr1 hc1
 have HR2 := Aside0.mk hr2
 have HC2 := Aside0.mk hc2
 clear hr2 hc2
 have HB := Aside0.mk (Below.refl w.heap.size w)
 have H : ((impl_setCode_at_impl_planCode_1.f k a0_0 l0_1 a0_0 l0_1 l1 l2).bind fun t342 => (some t342)) = some r := h
 clear h
 replace H := Option.bind_eq_some_iff.mp H
 obtain ⟨t342, A40, H⟩ := H
 replace H : (some t342) = some r := H
 have A4 := Aside0.mk A40
 clear A40
 obtain rfl := Option.some.inj H
 go_enter Try.func59, Try.ntmps59
 go_wp2_with (first | ((with_reducible refine gate_dst (N := 3) rfl ?_); refine box_event ?hg (N := 3) ?hd (cs := #[.int .i64 a0_0, .slice A0_1 l0_1.length c0_1]) (t := 36) ?hr ?_; (case hd => rfl); (case hg => rfl); (case hr => first | (go_simp; done) | (go_simp; rfl)); intro gb339 hg w5 hbox hb; have n0_ := Aside0.mk (below_step (by repeat (first | (with_reducible first | exact HB.out | apply lA_ | apply lN_ | apply lD_) | exact HB.out)) hb); have n1_ := Aside0.mk (hbox); have n2_ := Aside0.mk ((by rw [hg]; exact (below_size (by repeat (first | (with_reducible first | exact HB.out | apply lA_ | apply lN_ | apply lD_) | exact HB.out))) : w.heap.size ≤ gb339)); have n3_ := Aside0.mk ((by rw [hg]; exact (below_size (by repeat (first | (with_reducible first | exact HB.out | apply lA_ | apply lN_ | apply lD_) | exact HB.out))) : w.heap.size ≤ gb339)); clear HB; have HB := n0_; have BK339 := n1_; have GW339 := n2_; have GE339 := n3_; clear n0_ n1_ n2_ n3_; clear hb hbox hg) | ((with_reducible refine gate_dst (N := 4) rfl ?_); refine box_event ?hg (N := 4) ?hd (cs := #[.slice A1 l1.length c1]) (t := 22) ?hr ?_; (case hd => rfl); (case hg => rfl); (case hr => first | (go_simp; done) | (go_simp; rfl)); intro gb340 hg w6 hbox hb; have n0_ := Aside0.mk (blk_below (g := gb339) (o := .cells #[.int .i64 a0_0, .slice A0_1 l0_1.length c0_1] 36 (0, 0)) (by (with_reducible repeat (first | apply bN_ | apply bD_ | apply bA_)); exact BK339.out) hb); have n1_ := Aside0.mk (below_step (by repeat (first | (with_reducible first | exact HB.out | apply lA_ | apply lN_ | apply lD_ | refine lS_ ?_ GE339.out) | exact HB.out)) hb); have n2_ := Aside0.mk (hbox); have n3_ := Aside0.mk ((by rw [hg]; exact (below_size (by repeat (first | (with_reducible first | exact HB.out | apply lA_ | apply lN_ | apply lD_ | refine lS_ ?_ GE339.out) | exact HB.out))) : w.heap.size ≤ gb340)); have n4_ := Aside0.mk ((by rw [hg]; exact (below_size (by repeat (first | (with_reducible first | exact HB.out | apply lA_ | apply lN_ | apply lD_ | refine lS_ ?_ GE339.out) | exact HB.out))) : w.heap.size ≤ gb340)); have n5_ := Aside0.mk ((by rw [hg]; exact Nat.ne_of_lt (blk_lt (g := gb339) (o := .cells #[.int .i64 a0_0, .slice A0_1 l0_1.length c0_1] 36 (0, 0)) (by (with_reducible repeat (first | apply bN_ | apply bD_ | apply bA_)); exact BK339.out)) : gb339 ≠ gb340)); have n6_ := Aside0.mk ((by rw [hg]; exact Nat.ne_of_gt (blk_lt (g := gb339) (o := .cells #[.int .i64 a0_0, .slice A0_1 l0_1.length c0_1] 36 (0, 0)) (by (with_reducible repeat (first | apply bN_ | apply bD_ | apply bA_)); exact BK339.out)) : gb340 ≠ gb339)); clear BK339; clear HB; have BK339 := n0_; have HB := n1_; have BK340 := n2_; have GW340 := n3_; have GE340 := n4_; have NB339_340 := n5_; have NB340_339 := n6_; clear n0_ n1_ n2_ n3_ n4_ n5_ n6_; clear hb hbox hg) | ((with_reducible refine gate_dst (N := 5) rfl ?_); refine box_event ?hg (N := 5) ?hd (cs := #[.slice A2 l2.length c2]) (t := 22) ?hr ?_; (case hd => rfl); (case hg => rfl); (case hr => first | (go_simp; done) | (go_simp; rfl)); intro gb341 hg w7 hbox hb; have n0_ := Aside0.mk (blk_below (g := gb339) (o := .cells #[.int .i64 a0_0, .slice A0_1 l0_1.length c0_1] 36 (0, 0)) (by (with_reducible repeat (first | apply bN_ | apply bD_ | apply bA_)); exact BK339.out) hb); have n1_ := Aside0.mk (blk_below (g := gb340) (o := .cells #[.slice A1 l1.length c1] 22 (0, 0)) (by (with_reducible repeat (first | apply bN_ | apply bD_ | apply bA_)); exact BK340.out) hb); have n2_ := Aside0.mk (below_step (by repeat (first | (with_reducible first | exact HB.out | apply lA_ | apply lN_ | apply lD_ | refine lS_ ?_ GE339.out | refine lS_ ?_ GE340.out) | exact HB.out)) hb); have n3_ := Aside0.mk (hbox); have n4_ := Aside0.mk ((by rw [hg]; exact (below_size (by repeat (first | (with_reducible first | exact HB.out | apply lA_ | apply lN_ | apply lD_ | refine lS_ ?_ GE339.out | refine lS_ ?_ GE340.out) | exact HB.out))) : w.heap.size ≤ gb341)); have n5_ := Aside0.mk ((by rw [hg]; exact (below_size (by repeat (first | (with_reducible first | exact HB.out | apply lA_ | apply lN_ | apply lD_ | refine lS_ ?_ GE339.out | refine lS_ ?_ GE340.out) | exact HB.out))) : w.heap.size ≤ gb341)); have n6_ := Aside0.mk ((by rw [hg]; exact Nat.ne_of_lt (blk_lt (g := gb339) (o := .cells #[.int .i64 a0_0, .slice A0_1 l0_1.length c0_1] 36 (0, 0)) (by (with_reducible repeat (first | apply bN_ | apply bD_ | apply bA_)); exact BK339.out)) : gb339 ≠ gb341)); have n7_ := Aside0.mk ((by rw [hg]; exact Nat.ne_of_gt (blk_lt (g := gb339) (o := .cells #[.int .i64 a0_0, .slice A0_1 l0_1.length c0_1] 36 (0, 0)) (by (with_reducible repeat (first | apply bN_ | apply bD_ | apply bA_)); exact BK339.out)) : gb341 ≠ gb339)); have n8_ := Aside0.mk ((by rw [hg]; exact Nat.ne_of_lt (blk_lt (g := gb340) (o := .cells #[.slice A1 l1.length c1] 22 (0, 0)) (by (with_reducible repeat (first | apply bN_ | apply bD_ | apply bA_)); exact BK340.out)) : gb340 ≠ gb341)); have n9_ := Aside0.mk ((by rw [hg]; exact Nat.ne_of_gt (blk_lt (g := gb340) (o := .cells #[.slice A1 l1.length c1] 22 (0, 0)) (by (with_reducible repeat (first | apply bN_ | apply bD_ | apply bA_)); exact BK340.out)) : gb341 ≠ gb340)); clear BK339; clear BK340; clear HB; have BK339 := n0_; have BK340 := n1_; have HB := n2_; have BK341 := n3_; have GW341 := n4_; have GE341 := n5_; have NB339_341 := n6_; have NB341_339 := n7_; have NB340_341 := n8_; have NB341_340 := n9_; clear n0_ n1_ n2_ n3_ n4_ n5_ n6_ n7_ n8_ n9_; clear hb hbox hg; have hnb8 := NB339_340.out; have hnc8 := NB340_339.out; have hnb9 := NB339_341.out; have hnc9 := NB341_339.out; have hcz10_0 : w7.cell? ⟨gb339, 0, none⟩ = some (.int .i64 a0_0) := (blk_cell BK339.out 0).trans rfl; have hcz10_1 : w7.cell? ⟨gb339, 1, none⟩ = some (.slice A0_1 l0_1.length c0_1) := (blk_cell BK339.out 1).trans rfl; have hfz10_0 := blk_frozen BK339.out 0; have hfz10_1 := blk_frozen BK339.out 1) | ((with_reducible refine gate_callee (f := 50) rfl ?_); refine goesL_ (some 9) rfl rfl Try.func50 (by kernel_rfl) rfl #[.agg #[.int .i64 a0_0, .slice A0_1 l0_1.length c0_1], .func (.func 78) #[] #[.pointer (some ⟨gb339, 0, none⟩), .pointer (some ⟨gb340, 0, none⟩), .pointer (some ⟨gb341, 0, none⟩)]] rfl (by (try simp only [q4_, q5_, q6_]); first | done | rfl | (simp only [List.length_drop, List.length_take]; rfl)) ?_; (with_reducible refine (impl_setCode_at_impl_planCode_1.calls k a0_0 _ _ l0_1 gb339 a0_0 A0_1 c0_1 l0_1 gb340 A1 c1 l1 gb341 A2 c2 l2 t342 _ ?side1 ?side2 ?side3 ?side4 ?side5 ?side6 ?side7 ?side8 ?side9 ?side10 ?side11 A4.out).mono ?_); (case side1 => repeat (first | exact (Kd.C_below HR0_1.out HB.out) | (with_reducible refine Kd.C_alloc ?_ _) | (with_reducible refine Kd.C_drewN ?_ _) | (with_reducible refine Kd.C_drew ?_))); (case side2 => exact HC0_1.out); (case side3 => repeat (first | exact (Kd.C_below HR0_1.out HB.out) | (with_reducible refine Kd.C_alloc ?_ _) | (with_reducible refine Kd.C_drewN ?_ _) | (with_reducible refine Kd.C_drew ?_))); (case side4 => exact HC0_1.out); (case side5 => repeat (first | exact (Kd.C_below HR1.out HB.out) | (with_reducible refine Kd.C_alloc ?_ _) | (with_reducible refine Kd.C_drewN ?_ _) | (with_reducible refine Kd.C_drew ?_))); (case side6 => exact HC1.out); (case side7 => repeat (first | exact (Kd.C_below HR2.out HB.out) | (with_reducible refine Kd.C_alloc ?_ _) | (with_reducible refine Kd.C_drewN ?_ _) | (with_reducible refine Kd.C_drew ?_))); (case side8 => exact HC2.out); (case side9 => exact (by (with_reducible repeat (first | apply bN_ | apply bD_ | apply bA_)); exact BK339.out)); (case side10 => exact (by (with_reducible repeat (first | apply bN_ | apply bD_ | apply bA_)); exact BK340.out)); (case side11 => exact (by (with_reducible repeat (first | apply bN_ | apply bD_ | apply bA_)); exact BK341.out)); rintro e w11 ⟨rfl, hb⟩; refine ⟨_, rfl, ?_⟩; have n0_ := Aside0.mk (blk_below (g := gb339) (o := .cells #[.int .i64 a0_0, .slice A0_1 l0_1.length c0_1] 36 (0, 0)) (by (with_reducible repeat (first | apply bN_ | apply bD_ | apply bA_)); exact BK339.out) hb); have n1_ := Aside0.mk (blk_below (g := gb340) (o := .cells #[.slice A1 l1.length c1] 22 (0, 0)) (by (with_reducible repeat (first | apply bN_ | apply bD_ | apply bA_)); exact BK340.out) hb); have n2_ := Aside0.mk (blk_below (g := gb341) (o := .cells #[.slice A2 l2.length c2] 22 (0, 0)) (by (with_reducible repeat (first | apply bN_ | apply bD_ | apply bA_)); exact BK341.out) hb); have n3_ := Aside0.mk (below_step (by repeat (first | (with_reducible first | exact HB.out | apply lA_ | apply lN_ | apply lD_ | refine lS_ ?_ GE339.out | refine lS_ ?_ GE340.out | refine lS_ ?_ GE341.out) | exact HB.out)) hb); clear BK339; clear BK340; clear BK341; clear HB; have BK339 := n0_; have BK340 := n1_; have BK341 := n2_; have HB := n3_; clear n0_ n1_ n2_ n3_; (try clear hb); (try clear hb2); (try clear hk); (try clear hi)))
 go_ret
 exact ⟨by first | rfl | (simp [errW_none, errW_some] <;> rfl) | (simp [*, errW_none, errW_some] <;> rfl), by repeat (first | (with_reducible first | exact HB.out | apply lA_ | apply lN_ | apply lD_ | refine lS_ ?_ GE339.out | refine lS_ ?_ GE340.out | refine lS_ ?_ GE341.out) | exact HB.out)⟩
end Go.Proofs.Ytcaikaflpmaocaa.Q
namespace Go.Proofs.Ytcaikaflpmaocaa
open Go Go.RowKit Go.Proofs Go.Proofs.YtcaikaflpmaocaaW.PrintWords Go.Proofs.YtcaikaflpmaocaaW.PrintMore Go.Proofs.Ytcaikaflpmaocaa.Q
set_option linter.unusedVariables false
set_option linter.unusedSimpArgs false
theorem succW (m : Nat) (h : m < 1000000000) : wrap64 ((m : Int) + 1) = ((m + 1 : Nat) : Int) := by unfold wrap64; omega
theorem le_ofS {w : World} {lo hi : Nat} {A : Option Addr} {n c : Nat} {xs : List (List Int)} {cs : Nat → List Value} (h : OWS w lo hi (.slice A n c) xs cs) : n ≤ c := by
 obtain ⟨A', c', g, hv, e, hc, -⟩ := h.ex
 injection e with e1 e2 e3
 omega
def sumF (f : Nat → Nat) : Nat → Nat → Nat
 | 0, _ => 0
 | d + 1, i => f i + sumF f d (i + 1)
theorem sumF_tot (f : Nat → Nat) : ∀ d m, tot f m + sumF f d m = tot f (m + d) := by
 intro d
 induction d with
 | zero => intro m; simp [sumF]
 | succ d ih =>
  intro m
  have := ih (m + 1)
  rw [sumF, show m + (d + 1) = m + 1 + d by omega, ← this, tot]
  omega
theorem szRow_f (row : List Int) (left : Int) (h0 : 0 ≤ left) (h1 : left ≤ 1048576) (hl : row.length ≤ 9223372036854775807) : laws_szInt64S.f row left = some (if left < (row.length : Nat) then -1 else left - (row.length : Nat)) := by
 have e : wrap64 (left - (row.length : Int)) = left - (row.length : Int) := by unfold wrap64; omega
 rw [laws_szInt64S.f, e]
 by_cases h : left < (row.length : Int)
 ·rw [if_pos (show left - (row.length : Int) < 0 by omega), if_pos h]
 ·rw [if_neg (show ¬ left - (row.length : Int) < 0 by omega), if_neg h]
theorem szRows_l0 (xs : List (List Int)) (hx : xs.length ≤ 1048576) (hr : ∀ i, i < xs.length → rowLen xs i ≤ 9223372036854775807) : ∀ d m (left : Int), m + d = xs.length → 0 ≤ left → left ≤ 1048576 →
 Ev (fun k => laws_szInt64SS.l0 k xs left (m : Int)) (if left < (sumF (rowLen xs) d m : Nat) then -1 else left - (sumF (rowLen xs) d m : Nat)) := by
 intro d
 induction d with
 | zero =>
  intro m left hm h0 h1
  have b1 : ¬ (m : Int) < (xs.length : Int) := by omega
  rw [sumF, if_neg (by omega)]
  exact Ev.step (f := fun _ => some _) (fun k => by rw [laws_szInt64SS.l0, if_neg b1]) (by simpa using Ev.now left)
 | succ d ih =>
  intro m left hm h0 h1
  have b1 : (m : Int) < (xs.length : Int) := by omega
  have b2 : (0 : Int) ≤ (m : Int) := Int.natCast_nonneg m
  have hm9 : m < 1000000000 := by omega
  have e1 : rd_L1 xs (m : Int) = rowAt xs m := by simp [rd_L1, rowAt]
  have hs := szRow_f (rowAt xs m) left h0 h1 (hr m (by omega))
  have el : (rowAt xs m).length = rowLen xs m := rfl
  rw [el] at hs
  rw [sumF]
  by_cases q : left < (rowLen xs m : Int)
  ·rw [if_pos q] at hs
   rw [if_pos (by omega)]
   exact Ev.step (f := fun _ => some (-1)) (fun k => by rw [laws_szInt64SS.l0, if_pos b1, if_pos b2, e1, hs]; rfl) (Ev.now _)
  ·rw [if_neg q] at hs
   have n0 : ¬ left - (rowLen xs m : Int) < 0 := by omega
   have hi := ih (m + 1) (left - (rowLen xs m : Int)) (by omega) (by omega) (by omega)
   have e : (if left - (rowLen xs m : Int) < (sumF (rowLen xs) d (m + 1) : Nat) then -1 else left - (rowLen xs m : Int) - (sumF (rowLen xs) d (m + 1) : Nat)) = (if left < ((rowLen xs m + sumF (rowLen xs) d (m + 1) : Nat) : Int) then -1 else left - ((rowLen xs m + sumF (rowLen xs) d (m + 1) : Nat) : Int)) := by
    by_cases q2 : left - (rowLen xs m : Int) < (sumF (rowLen xs) d (m + 1) : Nat)
    ·rw [if_pos q2, if_pos (by omega)]
    ·rw [if_neg q2, if_neg (by omega)]; omega
   rw [e] at hi
   exact Ev.step (fun k => by rw [laws_szInt64SS.l0, if_pos b1, if_pos b2, e1, hs, Option.bind_some, if_neg n0, succW m hm9]) hi
theorem szInt64SS_any (A : Option Addr) (xs : List (List Int)) (n c : Nat) (left : Int) (w : World) (hn : n = xs.length) (hA : RR w A xs) (hnc : n ≤ c) (hl : n ≤ 35184372088832) (h0 : 0 ≤ left) (h1 : left ≤ 1048576) :
 Calls Try.prog 25 #[.slice A n c, .int .i64 left] w fun e w' => e = .returned (.int .i64 (if left < ((xs.length + rowsz0 xs : Nat) : Int) then -1 else left - ((xs.length + rowsz0 xs : Nat) : Int))) ∧ Below w.heap.size w w' := by
 subst hn
 have hr : ∀ i, i < xs.length → rowLen xs i ≤ 9223372036854775807 := fun i hi => by
  obtain ⟨-, -, -, -, -, -, -, -, -, h⟩ := hA i hi
  exact h
 have e : wrap64 (left - (xs.length : Int)) = left - (xs.length : Int) := by unfold wrap64; omega
 have ev : Ev (fun k => laws_szInt64SS.f k xs left) (if left < ((xs.length + rowsz0 xs : Nat) : Int) then -1 else left - ((xs.length + rowsz0 xs : Nat) : Int)) := by
  by_cases q : left - (xs.length : Int) < 0
  ·rw [if_pos (by omega)]
   exact Ev.congr (fun k => by rw [laws_szInt64SS.f, e, if_pos q]) (Ev.now _)
  ·have h := szRows_l0 xs (by omega) hr xs.length 0 (left - (xs.length : Int)) (by omega) (by omega) (by omega)
   have et : sumF (rowLen xs) xs.length 0 = rowsz0 xs := by
    have := sumF_tot (rowLen xs) xs.length 0
    rw [tot, Nat.zero_add, Nat.zero_add] at this
    exact this
   rw [et] at h
   have e2 : (if left - (xs.length : Int) < (rowsz0 xs : Nat) then -1 else left - (xs.length : Int) - (rowsz0 xs : Nat)) = (if left < ((xs.length + rowsz0 xs : Nat) : Int) then -1 else left - ((xs.length + rowsz0 xs : Nat) : Int)) := by
    by_cases q2 : left - (xs.length : Int) < (rowsz0 xs : Nat)
    ·rw [if_pos q2, if_pos (by omega)]
    ·rw [if_neg q2, if_neg (by omega)]; omega
   rw [e2] at h
   exact Ev.congr (fun k => by rw [laws_szInt64SS.f, e, if_neg q]; rfl) h
 obtain ⟨k, hk⟩ := ev.rounds
 exact (laws_szInt64SS.calls k A c xs left _ w (C_of_rr hA (by omega)) hnc hk).mono fun e w' ⟨h1, h2⟩ => ⟨h1, h2.below⟩
theorem set_take {α : Type} (l : List α) (z : α) (m d : Nat) (h : m + (d + 1) = l.length) : (l.take m ++ List.replicate (d + 1) z).set m (l[m]'(by omega)) = l.take (m + 1) ++ List.replicate d z := by
 have hl : (l.take m).length = m := by rw [List.length_take]; omega
 rw [List.set_append_right _ _ (by omega), hl, Nat.sub_self, List.replicate_succ, List.set_cons_zero, List.take_succ_eq_append_getElem (by omega), List.append_assoc]
 rfl
theorem toRow_ev (row : List Int) (hr : row.length ≤ 10000000) : Ev (fun k => laws_toInt64S.f k row) row := by
 have go : ∀ d m, m + d = row.length → Ev (fun k => laws_toInt64S.l0 k row (row.take m ++ List.replicate d 0) (m : Int)) row := by
  intro d
  induction d with
  | zero =>
   intro m hm
   have b1 : ¬ (m : Int) < (row.length : Int) := by omega
   refine Ev.step (f := fun _ => some row) (fun k => ?_) (Ev.now _)
   rw [laws_toInt64S.l0, if_neg b1, List.take_of_length_le (by omega)]; simp
  | succ d ih =>
   intro m hm
   have hlt : m < row.length := by omega
   have b1 : (m : Int) < (row.length : Int) := by omega
   have b2 : (0 : Int) ≤ (m : Int) := Int.natCast_nonneg m
   have b3 : (m : Int) < ((row.take m ++ List.replicate (d + 1) (0 : Int)).length : Int) := by rw [List.length_append, List.length_take, List.length_replicate]; omega
   have hm9 : m < 1000000000 := by omega
   have e1 : rd row (m : Int) = row[m] := by simp [rd, List.getD, List.getElem?_eq_getElem hlt]
   refine Ev.step (fun k => ?_) (ih (m + 1) (by omega))
   rw [laws_toInt64S.l0, if_pos b1, if_pos b2, if_pos b3, e1, Int.toNat_natCast, set_take row 0 m d hm, succW m hm9]
 have h := go row.length 0 (by omega)
 rw [List.take_zero, List.nil_append] at h
 exact Ev.congr (fun k => by rw [laws_toInt64S.f, if_pos (by omega), Int.toNat_natCast, if_pos (by omega)]; rfl) h
theorem toRows_ev (xs : List (List Int)) (hx : xs.length ≤ 10000000) (hr : ∀ r ∈ xs, r.length ≤ 10000000) : Ev (fun k => laws_toInt64SS.f k xs) xs := by
 have go : ∀ d m, m + d = xs.length → Ev (fun k => laws_toInt64SS.l0 k xs (xs.take m ++ List.replicate d []) (m : Int)) xs := by
  intro d
  induction d with
  | zero =>
   intro m hm
   have b1 : ¬ (m : Int) < (xs.length : Int) := by omega
   refine Ev.step (f := fun _ => some xs) (fun k => ?_) (Ev.now _)
   rw [laws_toInt64SS.l0, if_neg b1, List.take_of_length_le (by omega)]; simp
  | succ d ih =>
   intro m hm
   have hlt : m < xs.length := by omega
   have b1 : (m : Int) < (xs.length : Int) := by omega
   have b2 : (0 : Int) ≤ (m : Int) := Int.natCast_nonneg m
   have b3 : (m : Int) < ((xs.take m ++ List.replicate (d + 1) ([] : List Int)).length : Int) := by rw [List.length_append, List.length_take, List.length_replicate]; omega
   have hm9 : m < 1000000000 := by omega
   have e1 : rd_L1 xs (m : Int) = xs[m] := by simp [rd_L1, List.getD, List.getElem?_eq_getElem hlt]
   refine Ev.step (f := fun k => (laws_toInt64S.f k xs[m]).bind fun t => if (m : Int) < ((xs.take m ++ List.replicate (d + 1) ([] : List Int)).length : Int) then laws_toInt64SS.l0 k xs ((xs.take m ++ List.replicate (d + 1) ([] : List Int)).set (m : Int).toNat t) (wrap64 ((m : Int) + 1)) else none) (fun k => ?_) (Ev.bind (toRow_ev xs[m] (hr _ (List.getElem_mem hlt))) (Ev.congr (fun k => ?_) (ih (m + 1) (by omega))))
   ·rw [laws_toInt64SS.l0, if_pos b1, if_pos b2, e1]
   ·rw [if_pos b3, Int.toNat_natCast, set_take xs [] m d hm, succW m hm9]
 have h := go xs.length 0 (by omega)
 rw [List.take_zero, List.nil_append] at h
 exact Ev.congr (fun k => by rw [laws_toInt64SS.f, if_pos (by omega), Int.toNat_natCast, if_pos (by omega)]; rfl) h
theorem rows_lens {xs : List (List Int)} {b : Nat} (h : rowsz0 xs ≤ b) : ∀ r ∈ xs, r.length ≤ b := by
 intro r hr
 obtain ⟨i, hi, e⟩ := List.mem_iff_getElem.1 hr
 have := rowsz0_row hi
 rw [rowLen, rowAt_at hi, e] at this
 omega
theorem toInt64SS_any (A : Option Addr) (xs : List (List Int)) (n c : Nat) (w : World) (hn : n = xs.length) (hA : RR w A xs) (hnc : n ≤ c) (hl : xs.length ≤ 10000000 ∧ rowsz0 xs ≤ 10000000) :
 Calls Try.prog 27 #[.slice A n c] w fun e w' => ∃ v, e = .returned v ∧ OWS w' w.heap.size w'.heap.size v xs (fun i => icells (rowAt xs i)) ∧ Below w.heap.size w w' := by
 subst hn
 obtain ⟨k, hk⟩ := (toRows_ev xs hl.1 (rows_lens hl.2)).rounds
 exact (laws_toInt64SS.calls k A c xs _ w (C_of_rr hA (by omega)) hnc hk).mono fun e w' ⟨v, he, hR, hB⟩ => ⟨v, he, ows_of_S hR, hB⟩
end Go.Proofs.Ytcaikaflpmaocaa
namespace Go.Proofs.Ytcaikaflpmaocaa
open Go Go.RowKit Go.Proofs Go.Proofs.YtcaikaflpmaocaaW.PrintWords Go.Proofs.Ytcaikaflpmaocaa.Q
set_option linter.unusedVariables false
set_option linter.unusedSimpArgs false
def at3 (xs : List (List (List Int))) (i : Nat) : List (List Int) := xs.getD i []
def num3 (xs : List (List (List Int))) (i : Nat) : Nat := rowsz0 (at3 xs i)
def rowsz3 (xs : List (List (List Int))) : Nat := tot (num3 xs) xs.length
theorem rowsz3_row {xs : List (List (List Int))} {i : Nat} (h : i < xs.length) : num3 xs i ≤ rowsz3 xs := by
 have := tot_le (num3 xs) (show i + 1 ≤ xs.length from h)
 rw [tot] at this
 unfold rowsz3
 omega
structure TW (w : World) (lo hi g n : Nat) (hv : Nat → Value) (a b : Nat → Nat) (xs : List (List (List Int))) (cs : Nat → Nat → List Value) : Prop where
 hdr : ∀ i, i < n → w.cell? ⟨g, i, none⟩ = some (hv i)
 row : ∀ i, i < n → OWS w (a i) (b i) (hv i) (at3 xs i) (cs i)
 lo_ : ∀ i, i < n → lo ≤ a i
 hi_ : ∀ i, i < n → b i ≤ hi
 inc : ∀ i j, i < j → j < n → b i ≤ a j
 out : ∀ i, i < n → g < a i ∨ b i ≤ g
 sm : ∀ i, i < n → (at3 xs i).length ≤ 1000000
structure OWT (w : World) (lo hi : Nat) (v : Value) (xs : List (List (List Int))) (cs : Nat → Nat → List Value) : Prop where
 ex : ∃ A c g hv a b, v = .slice A xs.length c ∧ xs.length ≤ c ∧ (0 < xs.length → A = some ⟨g, 0, none⟩ ∧ lo ≤ g ∧ g < hi) ∧ TW w lo hi g xs.length hv a b xs cs
 top : hi ≤ w.heap.size
theorem OWT.form0 {w : World} {lo hi : Nat} {v : Value} {xs : List (List (List Int))} {cs : Nat → Nat → List Value} (h : OWT w lo hi v xs cs) : ∃ A c, v = .slice A xs.length c := by
 obtain ⟨A, c, g, hv, a, b, rfl, -⟩ := h.ex
 exact ⟨A, c, rfl⟩
theorem OWT.only {w w' : World} {lo hi lo' hi' : Nat} {v : Value} {xs : List (List (List Int))} {cs : Nat → Nat → List Value} (h : OWT w lo hi v xs cs) (k : Only lo' hi' w w') (hd : hi ≤ lo' ∨ hi' ≤ lo) : OWT w' lo hi v xs cs := by
 obtain ⟨A, c, g, hv, a, b, rfl, hc, hA, hr⟩ := h.ex
 refine ⟨⟨A, c, g, hv, a, b, rfl, hc, hA, ⟨fun i hi' => cell_only k (by have := hA (by omega); omega) (hr.hdr i hi'), fun i hi' => (hr.row i hi').only k (by have := hr.lo_ i hi'; have := hr.hi_ i hi'; omega), hr.lo_, hr.hi_, hr.inc, hr.out, hr.sm⟩⟩, Nat.le_trans h.top k.size⟩
theorem OWT.to {w w' : World} {lo hi : Nat} {v : Value} {xs : List (List (List Int))} {cs : Nat → Nat → List Value} (h : OWT w lo hi v xs cs) (k : Below w.heap.size w w') : OWT w' lo hi v xs cs :=
 h.only (only_of k w.heap.size w.heap.size) (.inl h.top)
def R3 (w : World) (A : Option Addr) (xs : List (List (List Int))) : Prop :=
 ∀ k, k < xs.length → ∃ b o A' c', A = some ⟨b, o, none⟩ ∧ b < w.heap.size ∧ w.cell? ⟨b, o + k, none⟩ = some (.slice A' (at3 xs k).length c') ∧ RR w A' (at3 xs k) ∧ (at3 xs k).length ≤ c' ∧ (at3 xs k).length ≤ 1000000
theorem R3.below {w w' : World} {A : Option Addr} {xs : List (List (List Int))} (h : R3 w A xs) (hb : Below w.heap.size w w') : R3 w' A xs := by
 intro k hk
 obtain ⟨b, o, A', c', e, hlt, hc, hr, h1, h2⟩ := h k hk
 exact ⟨b, o, A', c', e, Nat.lt_of_lt_of_le hlt hb.size, (hb.cell (World.block_lt_of_cell? w _ hc)).trans hc, hr.below hb, h1, h2⟩
theorem r3_of {w : World} {lo hi : Nat} {A : Option Addr} {n c : Nat} {xs : List (List (List Int))} (h : OWT w lo hi (.slice A n c) xs (fun i j => icells (rowAt (at3 xs i) j))) (hn : n = xs.length) : R3 w A xs := by
 obtain ⟨A', c', g, hv, a, b, e, -, hA, hr⟩ := h.ex
 injection e with e1 e2 e3
 subst e1
 intro k hk
 have hrow := hr.row k hk
 obtain ⟨A2, c2, e2⟩ := hrow.form0
 have hc := hr.hdr k hk
 rw [e2] at hc hrow
 exact ⟨g, 0, A2, c2, (hA (by omega)).1, World.block_lt_of_cell? w _ hc, by rw [Nat.zero_add]; exact hc, rr_of hrow rfl, le_ofS hrow, hr.sm k hk⟩
theorem TW.congr {w : World} {lo hi g n : Nat} {hv : Nat → Value} {a b : Nat → Nat} {xs : List (List (List Int))} {cs cs' : Nat → Nat → List Value} (h : TW w lo hi g n hv a b xs cs) (e : ∀ i, i < n → cs i = cs' i) : TW w lo hi g n hv a b xs cs' :=
 ⟨h.hdr, fun i hi => by rw [← e i hi]; exact h.row i hi, h.lo_, h.hi_, h.inc, h.out, h.sm⟩
theorem TW.set {w w' : World} {lo hi g n : Nat} {hv : Nat → Value} {a b : Nat → Nat} {xs : List (List (List Int))} {cs : Nat → Nat → List Value} (h : TW w lo hi g n hv a b xs cs) {i : Nat} (hi' : i < n) (k : Only (a i) (b i) w w') {c : Nat → List Value} (hr : OWS w' (a i) (b i) (hv i) (at3 xs i) c) :
 TW w' lo hi g n hv a b xs (fun j => if j = i then c else cs j) := by
 refine ⟨fun j hj => cell_only k (h.out i hi') (h.hdr j hj), fun j hj => ?_, h.lo_, h.hi_, h.inc, h.out, h.sm⟩
 by_cases e : j = i
 ·subst e; simpa using hr
 ·simp only [if_neg e]
  refine (h.row j hj).only k ?_
  rcases Nat.lt_or_ge j i with h1 | h1
  ·exact .inl (h.inc j i h1 hi')
  ·exact .inr (h.inc i j (by omega) hj)
def mkT (k : Int) (xs : List (List (List Int))) (i : Nat) : Nat → List Value := mkS (k + (tot (num3 xs) i : Int)) (at3 xs i)
def mkTd (k : Int) (xs : List (List (List Int))) (cs : Nat → Nat → List Value) (d : Nat) : Nat → Nat → List Value := fun j => if j < d then mkT k xs j else cs j
set_option maxHeartbeats 1000000 in
theorem markInt64SSS_any (lo hi g n c : Nat) (A : Option Addr) (hv : Nat → Value) (a b : Nat → Nat) (xs : List (List (List Int))) (cs : Nat → Nat → List Value) (k : Int) (w : World) (hA : 0 < n → A = some ⟨g, 0, none⟩) (h : TW w lo hi g n hv a b xs cs) (hk : 0 ≤ k) (hk2 : k + (tot (num3 xs) n : Int) ≤ 1000000000000) (hl : n ≤ 35184372088832) :
 Calls Try.prog 34 #[.slice A n c, .int .i64 k] w fun e w' => e = .returned (.int .i64 (k + (tot (num3 xs) n : Int))) ∧ TW w' lo hi g n hv a b xs (mkTd k xs cs n) ∧ Only lo hi w w' := by
 have HR := Lib.hid h; clear h
 go_enter Try.func34, Try.ntmps34
 go_wp2
 go_loopw [1, 5] (fun kk i wr => Only lo hi w wr ∧ ∃ d : Nat, d ≤ n ∧ i = .int .i64 d ∧ kk = .int .i64 (k + (tot (num3 xs) d : Int)) ∧ TW wr lo hi g n hv a b xs (mkTd k xs cs d)) (fun _ i _ => n - (intOf i).toNat)
 case atStart => exact ⟨Only.refl _ _ _, 0, Nat.zero_le _, rfl, by simp [tot], HR.out.congr fun j _ => by simp [mkTd]⟩
 case round =>
  obtain ⟨hB, d, hd, rfl, rfl, hrows⟩ := hrel
  have HB := Lib.hid hB; have HW := Lib.hid hrows; clear hB hrows
  by_cases hlt : d < n
  ·have hA2 := hA (by omega)
   subst hA2
   have c0 := HW.out.hdr d hlt
   have ht := tot_le (num3 xs) (show d + 1 ≤ n from hlt)
   have HT := Lib.hid (show 0 ≤ k + (tot (num3 xs) d : Int) ∧ k + (tot (num3 xs) d : Int) + ((rowsz0 (at3 xs d) : Nat) : Int) ≤ 1000000000000 by simp only [tot, num3] at ht hk2 ⊢; omega)
   clear ht
   go_wp2_with (first | (go_at_call 13; refine (markInt64SS_m (a d) (b d) (at3 xs d) _ _ _ rfl (HW.out.row d hlt) HT.out.1 HT.out.2 (by have := HW.out.sm d hlt; omega)).mono ?_; rintro e w2 ⟨rfl, hO2, hK2⟩; have HO2 := Lib.hid hO2; have HK2 := Lib.hid hK2; clear hO2 hK2))
   go_roundw
   case rel => exact ⟨HB.out.trans (HK2.out.into fun z h1 h2 => by have := HW.out.lo_ d hlt; have := HW.out.hi_ d hlt; omega), d + 1, by omega, by go_num, by rw [show k + (tot (num3 xs) d : Int) + ((rowsz0 (at3 xs d) : Nat) : Int) = k + (tot (num3 xs) (d + 1) : Int) by simp only [tot, num3]; omega], (HW.out.set hlt HK2.out HO2.out).congr fun j _ => by
    unfold mkTd
    by_cases e : j = d
    ·subst e; simp [mkT]
    ·by_cases e2 : j < d
     ·simp [e, e2, show j < d + 1 by omega]
     ·simp [e, e2, show ¬ j < d + 1 by omega]⟩
   case measure => simp [intOf]; omega
  ·have hdn : d = n := by omega
   subst hdn
   go_wp2
   go_ret
   exact ⟨rfl, HW.out, HB.out⟩
set_option maxHeartbeats 1000000 in
theorem heldInt64SSS_any (lo hi g n c : Nat) (A : Option Addr) (hv : Nat → Value) (a b : Nat → Nat) (xs : List (List (List Int))) (k : Int) (w : World) (hA : 0 < n → A = some ⟨g, 0, none⟩) (h : TW w lo hi g n hv a b xs (mkT k xs)) (hk : 0 ≤ k) (hk2 : k + (tot (num3 xs) n : Int) ≤ 1000000000000) (hl : n ≤ 35184372088832) :
 Calls Try.prog 35 #[.slice A n c, .int .i64 k] w fun e w' => e = .returned (.int .i64 (k + (tot (num3 xs) n : Int))) ∧ Below w.heap.size w w' := by
 have HR := Lib.hid h; clear h
 go_enter Try.func35, Try.ntmps35
 go_wp2
 go_loopw [1, 5] (fun kk i wr => Below w.heap.size w wr ∧ ∃ d : Nat, d ≤ n ∧ i = .int .i64 d ∧ kk = .int .i64 (k + (tot (num3 xs) d : Int))) (fun _ i _ => n - (intOf i).toNat)
 case atStart => exact ⟨Below.refl _ _, 0, Nat.zero_le _, rfl, by simp [tot]⟩
 case round =>
  obtain ⟨hB, d, hd, rfl, rfl⟩ := hrel
  have HB := Lib.hid hB; clear hB
  by_cases hlt : d < n
  ·have hA2 := hA (by omega)
   subst hA2
   have c0 := cell_to HB.out (HR.out.hdr d hlt)
   have ht := tot_le (num3 xs) (show d + 1 ≤ n from hlt)
   have HT := Lib.hid (show 0 ≤ k + (tot (num3 xs) d : Int) ∧ k + (tot (num3 xs) d : Int) + ((rowsz0 (at3 xs d) : Nat) : Int) ≤ 1000000000000 by simp only [tot, num3] at ht hk2 ⊢; omega)
   have n0 : ¬ k + (tot (num3 xs) d : Int) + ((rowsz0 (at3 xs d) : Nat) : Int) < 0 := by have := HT.out.1; omega
   clear ht
   go_wp2_with (first | (go_at_call 14; refine (heldInt64SS_m (a d) (b d) (at3 xs d) _ _ _ rfl ((HR.out.row d hlt).to HB.out) HT.out.1 HT.out.2 (by have := HR.out.sm d hlt; omega)).mono ?_; rintro e w2 ⟨rfl, hK2⟩; have HK2 := Lib.hid hK2; clear hK2))
   go_roundw
   case rel => exact ⟨HB.out.trans (HK2.out.mono HB.out.size), d + 1, by omega, by go_num, by rw [show k + (tot (num3 xs) d : Int) + ((rowsz0 (at3 xs d) : Nat) : Int) = k + (tot (num3 xs) (d + 1) : Int) by simp only [tot, num3]; omega]⟩
   case measure => simp [intOf]; omega
  ·have hdn : d = n := by omega
   subst hdn
   go_wp2
   go_ret
   exact ⟨rfl, HB.out⟩
theorem markInt64SSS_m (lo hi : Nat) (xs : List (List (List Int))) (m : Nat) (k : Int) (w : World) (hm : m = rowsz3 xs) {v : Value} {cs : Nat → Nat → List Value} (h : OWT w lo hi v xs cs) (hk : 0 ≤ k) (hk2 : k + (m : Int) ≤ 1000000000000) (hl : xs.length ≤ 35184372088832) :
 Calls Try.prog 34 #[v, .int .i64 k] w fun e w' => e = .returned (.int .i64 (k + (m : Int))) ∧ OWT w' lo hi v xs (mkT k xs) ∧ Only lo hi w w' := by
 subst hm
 obtain ⟨A, c, g, hv, a, b, rfl, hc, hA, hr⟩ := h.ex
 refine (markInt64SSS_any lo hi g xs.length c A hv a b xs cs k w (fun h => (hA h).1) hr hk hk2 hl).mono ?_
 rintro e w' ⟨rfl, h2, h3⟩
 exact ⟨rfl, ⟨⟨A, c, g, hv, a, b, rfl, hc, hA, h2.congr fun i hi => by simp only [mkTd, if_pos hi]⟩, Nat.le_trans h.top h3.size⟩, h3⟩
theorem heldInt64SSS_m (lo hi : Nat) (xs : List (List (List Int))) (m : Nat) (k : Int) (w : World) (hm : m = rowsz3 xs) {v : Value} (h : OWT w lo hi v xs (mkT k xs)) (hk : 0 ≤ k) (hk2 : k + (m : Int) ≤ 1000000000000) (hl : xs.length ≤ 35184372088832) :
 Calls Try.prog 35 #[v, .int .i64 k] w fun e w' => e = .returned (.int .i64 (k + (m : Int))) ∧ Below w.heap.size w w' := by
 subst hm
 obtain ⟨A, c, g, hv, a, b, rfl, hc, hA, hr⟩ := h.ex
 exact heldInt64SSS_any lo hi g xs.length c A hv a b xs k w (fun h => (hA h).1) hr hk hk2 hl
theorem lists_eq {ts us : List (List (List Int))} (hl : ts.length = us.length) (h : ∀ j, j < ts.length → at3 ts j = at3 us j) : ts = us := by
 apply List.ext_getElem hl
 intro j h1 h2
 have := h j h1
 simpa [at3, List.getD_eq_getElem?_getD, List.getElem?_eq_getElem h1, List.getElem?_eq_getElem h2] using this
set_option maxHeartbeats 1000000 in
theorem eqInt64SSS_any (A A' : Option Addr) (ts us : List (List (List Int))) (n m c c' : Nat) (w : World) (hn : n = ts.length) (hm : m = us.length) (hA : R3 w A ts) (hA' : R3 w A' us) (hl : ts.length ≤ 35184372088832 ∧ rowsz3 ts ≤ 35184372088832) (hl' : us.length ≤ 35184372088832 ∧ rowsz3 us ≤ 35184372088832) :
 Calls Try.prog 33 #[.slice A n c, .slice A' m c'] w fun e w' => e = .returned (.bool (decide (ts = us))) ∧ Below w.heap.size w w' := by
 have HA := Lib.hid hA; have HA' := Lib.hid hA'; clear hA hA'
 by_cases hlen : n = m
 ·have HL := Lib.hid (show ts.length = us.length by omega); have HN := Lib.hid hn; have HM := Lib.hid hlen
  have h1 : ((n : Int) != m) = false := by simp [hlen]
  have hn0 : n ≤ 35184372088832 := by omega
  clear hlen hn hm
  go_enter Try.func33, Try.ntmps33
  go_wp2
  go_loopw [5] (fun i wr => Below w.heap.size w wr ∧ ∃ k : Nat, k ≤ n ∧ i = .int .i64 k ∧ ∀ j, j < k → at3 ts j = at3 us j) (fun i _ => n - (intOf i).toNat)
  case atStart => exact ⟨Below.refl _ _, 0, by omega, rfl, fun j h => absurd h (by omega)⟩
  case round =>
   obtain ⟨hB, k, hk, rfl, hall⟩ := hrel
   have hT := HA.out.below hB
   have hT' := HA'.out.below hB
   have HB := Lib.hid hB; have HALL := Lib.hid hall; clear hB hall
   by_cases hlt : k < n
   ·have k1 : k < ts.length := by have := HN.out; omega
    have k2 : k < us.length := by have := HL.out; omega
    obtain ⟨b, o, A1, c1, rfl, hb, h0, hr, -, s1⟩ := hT k k1
    obtain ⟨b', o', A2, c2, rfl, hb', h0', hr', -, s2⟩ := hT' k k2
    have r1 : (at3 ts k).length ≤ 35184372088832 ∧ rowsz0 (at3 ts k) ≤ 35184372088832 := ⟨by omega, Nat.le_trans (rowsz3_row k1) hl.2⟩
    have r2 : (at3 us k).length ≤ 35184372088832 ∧ rowsz0 (at3 us k) ≤ 35184372088832 := ⟨by omega, Nat.le_trans (rowsz3_row k2) hl'.2⟩
    have HR := Lib.hid hr; have HR' := Lib.hid hr'; have R1 := Lib.hid r1; have R2 := Lib.hid r2
    have i1 : (k : Int) < n := by omega
    have i2 : (k : Int) < m := by have := HM.out; omega
    clear hT hT' hr hr' k1 k2 r1 r2
    by_cases he : at3 ts k = at3 us k
    ·have HE := Lib.hid (show decide (at3 ts k = at3 us k) = true by simpa using he); clear he
     go_wp2
     refine wp_region_gro (by kernel_rfl) (by kernel_rfl) ?_
     repeat (first | go_big_quiet_step (((go_at_call 12; exact quiet_call (by have h := eqInt64SS_any A1 A2 (at3 ts k) (at3 us k) _ _ c1 c2 (gro wr ‹GP›) rfl rfl (HR.out.below (gro_below wr _)) (HR'.out.below (gro_below wr _)) R1.out R2.out; rw [HE.out] at h; exact h)))) | quiet_step (((go_at_call 12; exact quiet_call (by have h := eqInt64SS_any A1 A2 (at3 ts k) (at3 us k) _ _ c1 c2 (gro wr ‹GP›) rfl rfl (HR.out.below (gro_below wr _)) (HR'.out.below (gro_below wr _)) R1.out R2.out; rw [HE.out] at h; exact h)))))
     refine wpQuiet_nil ?_
     intro w1 hB1
     have HB1 := Lib.hid hB1; clear hB1
     go_wp2
     go_roundw
     case rel => exact ⟨HB.out.trans (HB1.out.mono HB.out.size), k + 1, by omega, by go_num, fun j hj => by
      by_cases e : j = k
      ·subst e; exact of_decide_eq_true HE.out
      ·exact HALL.out j (by omega)⟩
     case measure => simp [intOf]; omega
    ·have HE := Lib.hid (show decide (at3 ts k = at3 us k) = false by simpa using he); clear he
     go_wp2
     refine wp_region_gro (by kernel_rfl) (by kernel_rfl) ?_
     repeat (first | go_big_quiet_step (((go_at_call 12; exact quiet_call (by have h := eqInt64SS_any A1 A2 (at3 ts k) (at3 us k) _ _ c1 c2 (gro wr ‹GP›) rfl rfl (HR.out.below (gro_below wr _)) (HR'.out.below (gro_below wr _)) R1.out R2.out; rw [HE.out] at h; exact h)))) | quiet_step (((go_at_call 12; exact quiet_call (by have h := eqInt64SS_any A1 A2 (at3 ts k) (at3 us k) _ _ c1 c2 (gro wr ‹GP›) rfl rfl (HR.out.below (gro_below wr _)) (HR'.out.below (gro_below wr _)) R1.out R2.out; rw [HE.out] at h; exact h)))))
     refine wpQuiet_nil ?_
     intro w1 hB1
     have HB1 := Lib.hid hB1; clear hB1
     go_wp2
     go_ret
     exact ⟨ret_bool (by
      have : ts ≠ us := fun e => of_decide_eq_false HE.out (by rw [e])
      simp [this]), HB.out.trans (HB1.out.mono HB.out.size)⟩
   ·go_wp2
    go_ret
    exact ⟨ret_bool (by
     have : ts = us := lists_eq HL.out fun j hj => HALL.out j (by have := HN.out; omega)
     simp [this]), HB.out⟩
 ·have h1 : ((n : Int) != m) = true := by simp; omega
  have HL := Lib.hid (show ts.length ≠ us.length by omega); clear hlen hn hm
  go_enter Try.func33, Try.ntmps33
  go_wp2
  go_ret
  exact ⟨ret_bool (by
   have : ts ≠ us := fun e => HL.out (by rw [e])
   simp [this]), Below.refl _ _⟩
end Go.Proofs.Ytcaikaflpmaocaa

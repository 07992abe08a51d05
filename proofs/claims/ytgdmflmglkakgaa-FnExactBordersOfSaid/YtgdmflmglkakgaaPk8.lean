/-
  Parts of the proof, in their order: Bridge, Counts, PTab, Ext, QSpecL01Rows, QImplSetCodeAtImplIsFilling1, QImplIsFilling, PFill, Law2, O4.
-/
import Derived.Test.YtgdmflmglkakgaaPk7
import Derived.Test.YtgdmflmglkakgaaPk4
import Derived.Test.YtgdmflmglkakgaaWMore
import Derived.Test.YtgdmflmglkakgaaPk2
import Derived.Test.YtgdmflmglkakgaaPk5
/-
  Words: what the printed contracts tell of memory, as our own words tell it, and the other way about.
-/
namespace Go.Proofs.Ytgdmflmglkakgaa
open Go Go.RowKit Go.Proofs Go.Proofs.YtgdmflmglkakgaaW.PrintWords Go.Proofs.Ytgdmflmglkakgaa.Q
set_option linter.unusedVariables false
set_option linter.unusedSimpArgs false

abbrev STile := Q.S63
def toT (s : STile) : T4 := ⟨s.f0, s.f1, s.f2, s.f3⟩
def toS (t : T4) : STile := ⟨t.a, t.b, t.c, t.d⟩
theorem toT_toS (t : T4) : toT (toS t) = t := rfl
theorem toS_toT (s : STile) : toS (toT s) = s := rfl
theorem map_toTS (l : List T4) : (l.map toS).map toT = l := by simp [List.map_map, Function.comp_def, toT_toS]
theorem map_toST (l : List STile) : (l.map toT).map toS = l := by simp [List.map_map, Function.comp_def, toS_toT]
theorem spot_none {w : World} {a : Addr} {v : Value} (h : w.cell? a = some v) : a.spot = none := by
  unfold World.cell? at h
  split at h
  · split at h
    · exact absurd h (by simp)
    · rename_i hn
      cases hs : a.spot with
      | none => rfl
      | some x => rw [hs] at hn; simp at hn
  · exact absurd h (by simp)
theorem tk_map (l : List STile) (k : Nat) (h : k < l.length) : tk (l.map toT) k = toT l[k] := by
  simp [tk, List.getD, List.getElem?_map, List.getElem?_eq_getElem h]
theorem rt_of_C {w : World} {A : Option Addr} {l : List STile} (h : Kd.C k63 w A l.length l) : RT w A (l.map toT) := by
  intro k hk
  rw [List.length_map] at hk
  obtain ⟨ad, e, hc⟩ := h.2.2 (by omega)
  have g : ∀ j (hj : j < l.length) i v, ([.int .i64 l[j].f0, .int .i64 l[j].f1, .int .i64 l[j].f2, .int .i64 l[j].f3] : List Value)[i]? = some v → w.cell? (ad.add (j * 4 + i)) = some v := by
    intro j hj i v hv
    obtain ⟨c, hcl, hK, hcell⟩ := hc j l[j] (List.getElem?_eq_getElem hj)
    rw [k63_open hK] at hcell
    exact hcell i v hv
  have h0 := g 0 (by omega) 0 _ rfl
  have hs : ad.spot = none := by
    have := spot_none h0
    simpa [Addr.add] using this
  obtain ⟨b, o, s⟩ := ad
  simp only at hs
  subst hs
  have hb : b < w.heap.size := by
    have := World.block_lt_of_cell? w _ h0
    simpa [Addr.add] using this
  refine ⟨b, o, e, hb, ?_, ?_, ?_, ?_⟩ <;> rw [tk_map _ _ hk]
  · have := g k hk 0 _ rfl; rwa [add_off] at this
  · have := g k hk 1 _ rfl; rwa [add_off, ← Nat.add_assoc] at this
  · have := g k hk 2 _ rfl; rwa [add_off, ← Nat.add_assoc] at this
  · have := g k hk 3 _ rfl; rwa [add_off, ← Nat.add_assoc] at this
theorem C_of_rt {w : World} {A : Option Addr} {ts : List T4} (h : RT w A ts) (hl : ts.length ≤ 9223372036854775807) : Kd.C k63 w A (ts.map toS).length (ts.map toS) := by
  refine ⟨rfl, by simpa using hl, fun hn => ?_⟩
  rw [List.length_map] at hn
  obtain ⟨b, o, e, hb, -⟩ := h 0 hn
  refine ⟨_, e, fun j p hj => ?_⟩
  have hjl : j < ts.length := by have := (List.getElem?_eq_some_iff.1 hj).1; simpa using this
  have hp : p = toS (tk ts j) := by
    rw [List.getElem?_map, List.getElem?_eq_getElem hjl] at hj
    simp only [Option.map_some, Option.some.injEq] at hj
    rw [← hj]; simp [tk, List.getD, List.getElem?_eq_getElem hjl]
  subst hp
  obtain ⟨b', o', e', -, c0, c1, c2, c3⟩ := h j hjl
  rw [e] at e'
  injection e' with e'; injection e' with e1 e2; subst e1 e2
  refine ⟨_, rfl, k63_mk w (toS (tk ts j)), fun i u hu => ?_⟩
  rw [add_off, ← Nat.add_assoc]
  match i, hu with
  | 0, hu => simp at hu; subst hu; exact c0
  | 1, hu => simp at hu; subst hu; exact c1
  | 2, hu => simp at hu; subst hu; exact c2
  | 3, hu => simp at hu; subst hu; exact c3
  | i + 4, hu => simp at hu
theorem ri_of_C {w : World} {A : Option Addr} {l : List Int} (h : Kd.C (Kd.int .i64) w A l.length l) : RI w A l := by
  intro k hk
  obtain ⟨ad, e, hc⟩ := h.2.2 (by omega)
  have g : ∀ j (hj : j < l.length), w.cell? (ad.add j) = some (.int .i64 l[j]) := by
    intro j hj
    obtain ⟨c, hcl, hK, hcell⟩ := hc j l[j] (List.getElem?_eq_getElem hj)
    have hK' : c = [.int .i64 l[j]] := hK
    subst hK'
    have := hcell 0 _ rfl
    have e1 : (Kd.int IntKind.i64).sz = 1 := rfl
    rwa [e1, Nat.mul_one, Nat.add_zero] at this
  have h0 := g 0 (by omega)
  have hs : ad.spot = none := by
    have := spot_none h0
    simpa [Addr.add] using this
  obtain ⟨b, o, s⟩ := ad
  simp only at hs
  subst hs
  have hb : b < w.heap.size := by
    have := World.block_lt_of_cell? w _ h0
    simpa [Addr.add] using this
  refine ⟨b, o, e, hb, ?_⟩
  have := g k hk
  rw [add_off] at this
  rw [this]
  simp [ik, List.getD, List.getElem?_eq_getElem hk]
theorem C_of_ri {w : World} {A : Option Addr} {xs : List Int} (h : RI w A xs) (hl : xs.length ≤ 9223372036854775807) : Kd.C (Kd.int .i64) w A xs.length xs := by
  refine ⟨rfl, hl, fun hn => ?_⟩
  obtain ⟨b, o, e, hb, -⟩ := h 0 hn
  refine ⟨_, e, fun j p hj => ?_⟩
  have hjl := (List.getElem?_eq_some_iff.1 hj).1
  have hp : p = ik xs j := by
    rw [List.getElem?_eq_getElem hjl] at hj
    simp only [Option.some.injEq] at hj
    rw [← hj]; simp [ik, List.getD, List.getElem?_eq_getElem hjl]
  subst hp
  obtain ⟨b', o', e', -, c0⟩ := h j hjl
  rw [e] at e'
  injection e' with e'; injection e' with e1 e2; subst e1 e2
  refine ⟨[.int .i64 (ik xs j)], rfl, rfl, fun i u hu => ?_⟩
  have e1 : (Kd.int IntKind.i64).sz = 1 := rfl
  match i, hu with
  | 0, hu => simp at hu; subst hu; rw [e1, Nat.mul_one, Nat.add_zero, add_off]; exact c0
  | i + 1, hu => simp at hu
/-- a row of numbers that a printed contract tells -/
theorem ow_of_R {w : World} {base : Nat} {e : TypeId} {v : Value} {xs : List Int} {ok : Nat → Prop} (h : Kd.R (Kd.int .i64) e w base ok v xs) : OW w base w.heap.size e 1 v xs.length (icells xs) := by
  obtain ⟨-, inner, ho, hr⟩ := h
  have e1 : (Kd.int IntKind.i64).sz = 1 := rfl
  have : inner = icells xs := by
    apply List.ext_getElem?
    intro j
    by_cases hj : j < xs.length
    · have h2 := hr.2 j _ (List.getElem?_eq_getElem hj)
      have hl : j < inner.length := by rw [hr.1, e1]; omega
      rw [e1, Nat.mul_one, List.drop_eq_getElem_cons hl, List.take_succ_cons, List.take_zero] at h2
      have h3 : [inner[j]] = [Value.int .i64 xs[j]] := h2
      rw [List.getElem?_eq_getElem hl, icells, List.getElem?_map, List.getElem?_eq_getElem hj]
      simpa using h3
    · rw [List.getElem?_eq_none (by rw [hr.1, e1]; omega), List.getElem?_eq_none (by rw [icells_length]; omega)]
  subst this
  exact OW.of ho
end Go.Proofs.Ytgdmflmglkakgaa

/-
  Plain laws: numbers of rows over layers of tiles, forwards and backwards, and numbers that stop at a bound.
-/
namespace Go.Proofs.Ytgdmflmglkakgaa
open Go Go.RowKit Go.Proofs Go.Proofs.YtgdmflmglkakgaaW.PrintWords Go.Proofs.YtgdmflmglkakgaaW.PrintMore Go.Proofs.Ytgdmflmglkakgaa.Q
set_option linter.unusedVariables false
set_option linter.unusedSimpArgs false

theorem wrap_id {x : Int} (h : -9223372036854775808 ≤ x) (h2 : x ≤ 9223372036854775807) : wrap64 x = x := by unfold wrap64; omega
def cap (x : Int) : Int := if x ≤ 1000000000000000 then x else 1000000000000001
theorem cap_nn {x : Int} (h : 0 ≤ x) : 0 ≤ cap x := by unfold cap; split <;> omega
theorem cap_le (x : Int) : cap x ≤ 1000000000000001 := by unfold cap; split <;> omega
theorem mn_cap (x : Int) : mn x 1000000000000001 = cap x := by unfold mn cap; split <;> split <;> omega
theorem mn_cap' (x : Int) : mn 1000000000000001 x = cap x := by unfold mn cap; split <;> split <;> omega
theorem cap_add {x y : Int} (hx : 0 ≤ x) (hy : 0 ≤ y) : cap (cap x + cap y) = cap (x + y) := by unfold cap; split <;> split <;> split <;> (try split) <;> omega
theorem cap_small {x : Int} (h : x ≤ 1000000000000000) : cap x = x := by unfold cap; rw [if_pos h]

/-! a row of numbers under weights -/
def dot : List Int → (Nat → Int) → Int
  | [], _ => 0
  | x :: xs, p => x * p 0 + dot xs (fun i => p (i + 1))
theorem rd_nat (xs : List Int) (i : Nat) : rd xs (i : Int) = xs.getD i 0 := by simp [rd]
theorem dot_set (v : List Int) (e : Nat) (x : Int) (p : Nat → Int) (h : e < v.length) : dot (v.set e x) p = dot v p + (x - v.getD e 0) * p e := by
  induction v generalizing e p with
  | nil => simp at h
  | cons y ys ih =>
    cases e with
    | zero => simp [dot, List.getD]; rw [Int.sub_mul]; omega
    | succ e =>
      simp only [List.set_cons_succ, dot]
      rw [ih e _ (by simpa using h)]
      simp only [List.getD_cons_succ]
      omega
theorem dot_zero (n : Nat) (p : Nat → Int) : dot (List.replicate n 0) p = 0 := by
  induction n generalizing p with
  | zero => rfl
  | succ n ih => simp [List.replicate_succ, dot, ih]
theorem dot_add (v : List Int) (p q : Nat → Int) : dot v (fun i => p i + q i) = dot v p + dot v q := by
  induction v generalizing p q with
  | nil => rfl
  | cons y ys ih =>
    simp only [dot]
    rw [ih (fun i => p (i + 1)) (fun i => q (i + 1)), Int.mul_add]; omega
theorem dot_nil (v : List Int) : dot v (fun _ => 0) = 0 := by
  induction v with
  | nil => rfl
  | cons y ys ih => simp only [dot, ih]; omega
theorem dot_one (v : List Int) (e : Nat) (y : Int) (h : e < v.length) : dot v (fun i => if i = e then y else 0) = v.getD e 0 * y := by
  induction v generalizing e with
  | nil => simp at h
  | cons z zs ih =>
    cases e with
    | zero =>
      simp only [dot]
      have : (fun i => if i + 1 = 0 then y else 0) = fun _ : Nat => (0 : Int) := by funext i; simp
      rw [this, dot_nil]; simp [List.getD]
    | succ e =>
      simp only [dot, List.getD_cons_succ]
      have : (fun i => if i + 1 = e + 1 then y else 0) = fun i : Nat => if i = e then y else 0 := by funext i; simp
      rw [this, ih e (by simpa using h)]; simp
theorem dot_sum (v : List Int) : dot v (fun _ => 1) = v.sum := by
  induction v with
  | nil => rfl
  | cons y ys ih => simp only [dot, ih, List.sum_cons]; omega
theorem dot_ext (v : List Int) (p q : Nat → Int) (h : ∀ i, i < v.length → p i = q i) : dot v p = dot v q := by
  induction v generalizing p q with
  | nil => rfl
  | cons y ys ih =>
    simp only [dot]
    rw [h 0 (by simp), ih (fun i => p (i + 1)) (fun i => q (i + 1)) (fun i hi => h (i + 1) (by simpa using hi))]

/-! layers of tiles -/
/-- the tiles have colours below c -/
def Fine (c : Nat) (L : List STile) : Prop := ∀ t ∈ L, 0 ≤ t.f0 ∧ t.f0 < c ∧ 0 ≤ t.f2 ∧ t.f2 < c
def addT (now acc : List Int) (t : STile) : List Int := acc.set t.f2.toNat (rd acc t.f2 + rd now t.f0)
def stepW (c : Nat) (now : List Int) (L : List STile) : List Int := L.foldl (addT now) (List.replicate c 0)
def waysW (c : Nat) (now : List Int) (Ls : List (List STile)) : List Int := Ls.foldl (stepW c) now
/-- how many ways lead on from a colour -/
def paths : List (List STile) → Nat → Int
  | [], _ => 1
  | L :: Ls, a => (L.map fun t => if a = t.f0.toNat then paths Ls t.f2.toNat else 0).sum
def capT (now acc : List Int) (t : STile) : List Int := acc.set t.f2.toNat (cap (rd acc t.f2 + rd now t.f0))
def stepC (c : Nat) (now : List Int) (L : List STile) : List Int := L.foldl (capT now) (List.replicate c 0)
def waysC (c : Nat) (now : List Int) (Ls : List (List STile)) : List Int := Ls.foldl (stepC c) now
theorem addT_len (now acc : List Int) (t : STile) : (addT now acc t).length = acc.length := by simp [addT]
theorem fold_len (f : List Int → STile → List Int) (hf : ∀ a t, (f a t).length = a.length) (L : List STile) (acc : List Int) : (L.foldl f acc).length = acc.length := by
  induction L generalizing acc with
  | nil => rfl
  | cons t L ih => simp only [List.foldl_cons]; rw [ih, hf]
theorem stepW_len (c : Nat) (now : List Int) (L : List STile) : (stepW c now L).length = c := by
  rw [stepW, fold_len _ (fun a t => addT_len now a t)]; simp
theorem capT_len (now acc : List Int) (t : STile) : (capT now acc t).length = acc.length := by simp [capT]
theorem stepC_len (c : Nat) (now : List Int) (L : List STile) : (stepC c now L).length = c := by
  rw [stepC, fold_len _ (fun a t => capT_len now a t)]; simp
theorem rd_at {xs : List Int} {i : Int} (h : 0 ≤ i) : rd xs i = xs.getD i.toNat 0 := by simp [rd]
theorem fold_dot (c : Nat) (now : List Int) (p : Nat → Int) (hn : now.length = c) (L : List STile) (hL : Fine c L) (acc : List Int) (ha : acc.length = c) :
    dot (L.foldl (addT now) acc) p = dot acc p + dot now (fun a => (L.map fun t => if a = t.f0.toNat then p t.f2.toNat else 0).sum) := by
  induction L generalizing acc with
  | nil => simp [dot_nil]
  | cons t L ih =>
    obtain ⟨h0, h1, h2, h3⟩ := hL t (by simp)
    simp only [List.foldl_cons]
    rw [ih (fun u hu => hL u (List.mem_cons_of_mem _ hu)) _ (by rw [addT_len, ha])]
    rw [addT, dot_set _ _ _ _ (by omega), rd_at h2, rd_at h0]
    simp only [List.map_cons, List.sum_cons]
    rw [dot_add, dot_one _ _ _ (by omega)]
    have : acc.getD t.f2.toNat 0 + now.getD t.f0.toNat 0 - acc.getD t.f2.toNat 0 = now.getD t.f0.toNat 0 := by omega
    rw [this]; omega
theorem ways_dot (c : Nat) (Ls : List (List STile)) (now : List Int) (hn : now.length = c) (hL : ∀ L ∈ Ls, Fine c L) : (waysW c now Ls).sum = dot now (paths Ls) := by
  induction Ls generalizing now with
  | nil => simp only [waysW, List.foldl_nil]; rw [← dot_sum]; rfl
  | cons L Ls ih =>
    simp only [waysW, List.foldl_cons]
    rw [show List.foldl (stepW c) (stepW c now L) Ls = waysW c (stepW c now L) Ls from rfl, ih _ (stepW_len _ _ _) (fun M hM => hL M (List.mem_cons_of_mem _ hM))]
    rw [stepW, fold_dot c now _ hn L (hL L (by simp)) _ (by simp), dot_zero, Int.zero_add]
    rfl

/-! the bound: what is cut off, one by one, is what would be cut off at the end -/
/-- u holds v's numbers, cut off at the bound -/
def Cut (u v : List Int) : Prop := u.length = v.length ∧ (∀ i, 0 ≤ v.getD i 0) ∧ ∀ i, u.getD i 0 = cap (v.getD i 0)
theorem getD_set (v : List Int) (e i : Nat) (x : Int) (h : e < v.length) : (v.set e x).getD i 0 = if i = e then x else v.getD i 0 := by
  simp only [List.getD_eq_getElem?_getD, List.getElem?_set]
  by_cases hi : e = i
  · subst hi; simp [h]
  · simp [hi, Ne.symm hi]
theorem Cut.step {c : Nat} {u v a b : List Int} (hn : Cut u v) (ha : Cut a b) (hu : u.length = c) (hb : a.length = c) {t : STile} (ht : 0 ≤ t.f0 ∧ t.f0 < c ∧ 0 ≤ t.f2 ∧ t.f2 < c) : Cut (capT u a t) (addT v b t) := by
  obtain ⟨h0, h1, h2, h3⟩ := ht
  have hl := ha.1
  refine ⟨by rw [capT_len, addT_len]; exact ha.1, fun i => ?_, fun i => ?_⟩
  · rw [addT, getD_set _ _ _ _ (by omega)]
    split
    · rw [rd_at h2, rd_at h0]; have := ha.2.1 t.f2.toNat; have := hn.2.1 t.f0.toNat; omega
    · exact ha.2.1 i
  · rw [capT, addT, getD_set _ _ _ _ (by omega), getD_set _ _ _ _ (by omega)]
    split
    · rw [rd_at h2, rd_at h0, rd_at h2, rd_at h0, ha.2.2, hn.2.2, cap_add (ha.2.1 _) (hn.2.1 _)]
    · exact ha.2.2 i
theorem cut_zero (c : Nat) : Cut (List.replicate c 0) (List.replicate c 0) := by
  refine ⟨rfl, fun i => ?_, fun i => ?_⟩
  · simp [List.getD_eq_getElem?_getD, List.getElem?_replicate]; split <;> simp
  · have h : (List.replicate c (0 : Int)).getD i 0 = 0 := by simp [List.getD_eq_getElem?_getD, List.getElem?_replicate]; split <;> simp
    rw [h]; rfl
theorem cut_fold {c : Nat} {u v : List Int} (hn : Cut u v) (hu : u.length = c) (L : List STile) (hL : Fine c L) : ∀ a b : List Int, Cut a b → a.length = c → Cut (L.foldl (capT u) a) (L.foldl (addT v) b) := by
  induction L with
  | nil => intro a b h _; exact h
  | cons t L ih =>
    intro a b h ha
    simp only [List.foldl_cons]
    exact ih (fun s hs => hL s (List.mem_cons_of_mem _ hs)) _ _ (hn.step h hu ha (hL t (by simp))) (by rw [capT_len, ha])
theorem cut_ways {c : Nat} (Ls : List (List STile)) (hL : ∀ L ∈ Ls, Fine c L) : ∀ u v : List Int, Cut u v → u.length = c → Cut (waysC c u Ls) (waysW c v Ls) := by
  induction Ls with
  | nil => intro u v h _; exact h
  | cons L Ls ih =>
    intro u v h hu
    simp only [waysC, waysW, List.foldl_cons]
    exact ih (fun M hM => hL M (List.mem_cons_of_mem _ hM)) _ _ (cut_fold h hu L (hL L (by simp)) _ _ (cut_zero c) (by simp)) (stepC_len _ _ _)
theorem waysC_len (c : Nat) (Ls : List (List STile)) (u : List Int) (h : u.length = c) : (waysC c u Ls).length = c := by
  induction Ls generalizing u with
  | nil => exact h
  | cons L Ls ih => simp only [waysC, List.foldl_cons]; exact ih _ (stepC_len _ _ _)
theorem waysW_len (c : Nat) (Ls : List (List STile)) (u : List Int) (h : u.length = c) : (waysW c u Ls).length = c := by
  induction Ls generalizing u with
  | nil => exact h
  | cons L Ls ih => simp only [waysW, List.foldl_cons]; exact ih _ (stepW_len _ _ _)
/-- what a loop with a bound sums -/
def capSum (u : List Int) : Int := u.foldl (fun s x => cap (s + x)) 0
theorem capSum_go {u v : List Int} (h : u.length = v.length) (h0 : ∀ i, 0 ≤ v.getD i 0) (hc : ∀ i, u.getD i 0 = cap (v.getD i 0)) : ∀ s, 0 ≤ s → u.foldl (fun s x => cap (s + x)) (cap s) = cap (s + v.sum) := by
  induction u generalizing v with
  | nil =>
    intro s _
    have : v = [] := List.eq_nil_of_length_eq_zero h.symm
    subst this; simp
  | cons x xs ih =>
    intro s hs
    cases v with
    | nil => simp at h
    | cons y ys =>
      have hx := hc 0; have hy := h0 0
      simp only [List.getD_cons_zero] at hx hy
      simp only [List.foldl_cons, List.sum_cons]
      rw [hx, cap_add hs hy, ih (by simpa using h) (fun i => by have := h0 (i + 1); simpa using this) (fun i => by have := hc (i + 1); simpa using this) (s + y) (by omega), Int.add_assoc]
theorem capSum_cut {u v : List Int} (h : Cut u v) : capSum u = cap v.sum := by
  have := capSum_go h.1 h.2.1 h.2.2 0 (by omega)
  simpa [capSum, cap] using this
end Go.Proofs.Ytgdmflmglkakgaa

/-
  Plain: tables of numbers of tiles; which of them are fillings.
-/
namespace Go.Proofs.Ytgdmflmglkakgaa
open Go Go.RowKit Go.Proofs Go.Proofs.YtgdmflmglkakgaaW.PrintWords Go.Proofs.YtgdmflmglkakgaaW.PrintMore Go.Proofs.Ytgdmflmglkakgaa.Q
set_option linter.unusedVariables false
set_option linter.unusedSimpArgs false

/-- the number in row y at place x -/
def cell (xs : List (List Int)) (y x : Nat) : Int := (xs.getD y []).getD x 0
/-- all numbers are numbers of n tiles -/
def numB (n : Nat) (x : Int) : Bool := inB x 0 ((n : Int) - 1)
def rowOk (w : Nat) (r : List Int) : Bool := decide (r.length = w ∧ 1 ≤ r.length ∧ r.length ≤ 8)
def width (xs : List (List Int)) : Nat := (xs.getD 0 []).length
/-- at least one and at most eight rows of one length, 1 to 8 -/
def shapeB (xs : List (List Int)) : Bool := decide (1 ≤ xs.length ∧ xs.length ≤ 8) && xs.all (rowOk (width xs))
def numsB (n : Nat) (xs : List (List Int)) : Bool := xs.all fun r => r.all (numB n)
def tabB (n : Nat) (xs : List (List Int)) : Bool := numsB n xs && shapeB xs
structure Tab (n : Nat) (xs : List (List Int)) : Prop where
  h1 : 1 ≤ xs.length
  h8 : xs.length ≤ 8
  w1 : 1 ≤ width xs
  w8 : width xs ≤ 8
  len : ∀ y, y < xs.length → (xs.getD y []).length = width xs
  lo : ∀ y x, y < xs.length → x < width xs → 0 ≤ cell xs y x
  up : ∀ y x, y < xs.length → x < width xs → cell xs y x < n
theorem inB_iff' {x lo hi : Int} : inB x lo hi = true ↔ lo ≤ x ∧ x ≤ hi := by simp [inB]
theorem tab_of {n : Nat} {xs : List (List Int)} (h : tabB n xs = true) : Tab n xs := by
  simp only [tabB, shapeB, Bool.and_eq_true, decide_eq_true_eq] at h
  obtain ⟨hn, ⟨h1, h8⟩, hr⟩ := h
  rw [List.all_eq_true] at hr
  have hlen : ∀ y, y < xs.length → (xs.getD y []).length = width xs ∧ 1 ≤ (xs.getD y []).length ∧ (xs.getD y []).length ≤ 8 := by
    intro y hy
    have := hr xs[y] (List.getElem_mem hy)
    simp only [rowOk, decide_eq_true_eq] at this
    rw [List.getD_eq_getElem?_getD, List.getElem?_eq_getElem hy]
    exact this
  have hw := hlen 0 (by omega)
  have hnum : ∀ y x, y < xs.length → x < width xs → numB n (cell xs y x) = true := by
    intro y x hy hx
    have h2 := (hlen y hy).1
    rw [numsB, List.all_eq_true] at hn
    have h3 := hn xs[y] (List.getElem_mem hy)
    rw [List.all_eq_true] at h3
    have e : xs.getD y [] = xs[y] := by rw [List.getD_eq_getElem?_getD, List.getElem?_eq_getElem hy]; rfl
    rw [e] at h2
    have h4 := h3 (xs[y][x]'(by omega)) (List.getElem_mem _)
    unfold cell
    rw [e, List.getD_eq_getElem?_getD, List.getElem?_eq_getElem (show x < xs[y].length by omega)]
    exact h4
  refine ⟨h1, h8, by unfold width; omega, by unfold width; omega, fun y hy => (hlen y hy).1, fun y x hy hx => ?_, fun y x hy hx => ?_⟩
  · exact (inB_iff'.1 (hnum y x hy hx)).1
  · have := (inB_iff'.1 (hnum y x hy hx)).2; omega
/-- the tile with a number -/
def tileAt (l : List STile) (i : Int) : STile := rd_T63 l i
/-- what stands in row y at place x fits on its west and its north -/
def cellB (l : List STile) (xs : List (List Int)) (y x : Nat) : Bool :=
  (decide (x = 0) || decide ((tileAt l (cell xs y (x - 1))).f2 = (tileAt l (cell xs y x)).f0)) && (decide (y = 0) || decide ((tileAt l (cell xs (y - 1) x)).f3 = (tileAt l (cell xs y x)).f1))
def allN (p : Nat → Bool) : Nat → Nat → Bool
  | 0, _ => true
  | d + 1, i => p i && allN p d (i + 1)
theorem allN_false {p : Nat → Bool} {d i j : Nat} (h1 : i ≤ j) (h2 : j < i + d) (h : p j = false) : allN p d i = false := by
  induction d generalizing i with
  | zero => omega
  | succ d ih =>
    rw [allN]
    by_cases e : i = j
    · subst e; rw [h]; rfl
    · rw [ih (by omega) (by omega), Bool.and_false]
theorem allN_true {p : Nat → Bool} {d i : Nat} (h : ∀ j, i ≤ j → j < i + d → p j = true) : allN p d i = true := by
  induction d generalizing i with
  | zero => rfl
  | succ d ih => rw [allN, h i (Nat.le_refl _) (by omega), ih fun j h1 h2 => h j (by omega) (by omega)]; rfl
def rowB (l : List STile) (xs : List (List Int)) (y : Nat) : Bool := allN (cellB l xs y) (width xs) 0
def goodB (l : List STile) (xs : List (List Int)) : Bool := allN (rowB l xs) xs.length 0
/-- what IsFilling returns -/
def fillR (C : Int) (ts : List T4) (xs : List (List Int)) : Bool × Int := if isS C ts = true then if tabB ts.length xs = true then (goodB (ts.map toS) xs, 0) else (false, 2) else (false, 1)
end Go.Proofs.Ytgdmflmglkakgaa

/-
  Contracts of functions on tiles and sets, in the form of the printed ones.
-/
namespace Go.Proofs.Ytgdmflmglkakgaa.Q
open Go Go.RowKit Go.Proofs Go.Proofs.YtgdmflmglkakgaaW.PrintWords Go.Proofs.Ytgdmflmglkakgaa
set_option linter.unusedVariables false
set_option linter.unusedSimpArgs false

def inLim (n : Nat) : Bool := decide (n ≤ 35184372088832)
def spec_l01Tile.f (a0 a1_0 a1_1 a1_2 a1_3 : Int) : Option Bool := some (tileB ⟨a1_0, a1_1, a1_2, a1_3⟩ (wrap64 (a0 - 1)))
theorem spec_l01Tile.calls (a0 a1_0 a1_1 a1_2 a1_3 : Int) (r : Bool) (w : World) (h : spec_l01Tile.f a0 a1_0 a1_1 a1_2 a1_3 = some r) :
    Calls Try.prog 59 #[.int .i64 a0, .agg #[.int .i64 a1_0, .int .i64 a1_1, .int .i64 a1_2, .int .i64 a1_3]] w fun e w' => e = .returned (.bool r) ∧ Below w.heap.size w w' := by
  obtain rfl := Option.some.inj h
  exact l01Tile_any a0 ⟨a1_0, a1_1, a1_2, a1_3⟩ w
def spec_l01Before.f (a0_0 a0_1 a0_2 a0_3 a1_0 a1_1 a1_2 a1_3 : Int) : Option Bool := some (ltT ⟨a0_0, a0_1, a0_2, a0_3⟩ ⟨a1_0, a1_1, a1_2, a1_3⟩)
theorem spec_l01Before.calls (a0_0 a0_1 a0_2 a0_3 a1_0 a1_1 a1_2 a1_3 : Int) (r : Bool) (w : World) (h : spec_l01Before.f a0_0 a0_1 a0_2 a0_3 a1_0 a1_1 a1_2 a1_3 = some r) :
    Calls Try.prog 60 #[.agg #[.int .i64 a0_0, .int .i64 a0_1, .int .i64 a0_2, .int .i64 a0_3], .agg #[.int .i64 a1_0, .int .i64 a1_1, .int .i64 a1_2, .int .i64 a1_3]] w fun e w' => e = .returned (.bool r) ∧ Below w.heap.size w w' := by
  obtain rfl := Option.some.inj h
  exact l01Before_any ⟨a0_0, a0_1, a0_2, a0_3⟩ ⟨a1_0, a1_1, a1_2, a1_3⟩ w
def spec_l01Is.f (a0_0 : Int) (l0_1 : List STile) : Option Bool := if inLim l0_1.length = true then some (isS a0_0 (l0_1.map toT)) else none
theorem spec_l01Is.calls (a0_0 : Int) (A0_1 : Option Addr) (c0_1 : Nat) (l0_1 : List STile) (r : Bool) (w : World) (hr0_1 : Kd.C k63 w A0_1 l0_1.length l0_1) (hc0_1 : l0_1.length ≤ c0_1) (h : spec_l01Is.f a0_0 l0_1 = some r) :
    Calls Try.prog 43 #[.agg #[.int .i64 a0_0, .slice A0_1 l0_1.length c0_1]] w fun e w' => e = .returned (.bool r) ∧ Below w.heap.size w w' := by
  unfold spec_l01Is.f at h
  split at h
  · rename_i hl
    obtain rfl := Option.some.inj h
    exact l01Is_any a0_0 A0_1 (l0_1.map toT) _ c0_1 w (by simp) (rt_of_C hr0_1) (by simpa [inLim] using hl)
  · cases h
def impl_isTile.f (a0_0 a0_1 a0_2 a0_3 a1 : Int) : Option Bool := some (tileB ⟨a0_0, a0_1, a0_2, a0_3⟩ (wrap64 (a1 - 1)))
theorem impl_isTile.calls (a0_0 a0_1 a0_2 a0_3 a1 : Int) (r : Bool) (w : World) (h : impl_isTile.f a0_0 a0_1 a0_2 a0_3 a1 = some r) :
    Calls Try.prog 62 #[.agg #[.int .i64 a0_0, .int .i64 a0_1, .int .i64 a0_2, .int .i64 a0_3], .int .i64 a1] w fun e w' => e = .returned (.bool r) ∧ Below w.heap.size w w' := by
  obtain rfl := Option.some.inj h
  exact isTile_any ⟨a0_0, a0_1, a0_2, a0_3⟩ a1 w
def impl_IsSet.f (a0_0 : Int) (l0_1 : List STile) : Option Bool := if inLim l0_1.length = true then some (isS a0_0 (l0_1.map toT)) else none
theorem impl_IsSet.calls (a0_0 : Int) (A0_1 : Option Addr) (c0_1 : Nat) (l0_1 : List STile) (r : Bool) (w : World) (hr0_1 : Kd.C k63 w A0_1 l0_1.length l0_1) (hc0_1 : l0_1.length ≤ c0_1) (h : impl_IsSet.f a0_0 l0_1 = some r) :
    Calls Try.prog 45 #[.agg #[.int .i64 a0_0, .slice A0_1 l0_1.length c0_1]] w fun e w' => e = .returned (.bool r) ∧ Below w.heap.size w w' := by
  unfold impl_IsSet.f at h
  split at h
  · rename_i hl
    obtain rfl := Option.some.inj h
    exact IsSet_any a0_0 A0_1 (l0_1.map toT) _ c0_1 w (by simp) (rt_of_C hr0_1) (by simpa [inLim] using hl)
  · cases h
end Go.Proofs.Ytgdmflmglkakgaa.Q

-- Printed by a program of this session (the kit's print, turned: printpatch.py) out of Lean's print of the translation. Lean checks it.
namespace Go.Proofs.Ytgdmflmglkakgaa.Q
open Go.RowKit Go.Proofs.YtgdmflmglkakgaaW.PrintWords Go.Proofs.YtgdmflmglkakgaaW.PrintLast Go.Proofs.YtgdmflmglkakgaaW.PrintMore
attribute [local go_sem] max2_int min2_int max_two min_two max_three min_three max_four min_four   -- for this text's walks alone
set_option linter.unusedVariables false
set_option linter.unusedSimpArgs false

/-! ### spec_l01Rows: function 27 -/
mutual
def spec_l01Rows.j0 : Nat → List (List Int) → Bool → Int → List (S63) → Option (Int)
 | 0, _, _, _, _ => none
 | k + 1, x1, x31, x104000, x104001 => if x31 = true then (some 2) else (spec_l01Rows.l0 k x1 0 x104000 x104001)
def spec_l01Rows.l0 : Nat → List (List Int) → Int → Int → List (S63) → Option (Int)
 | 0, _, _, _, _ => none
 | k + 1, x1, x5, x104000, x104001 => if x5 < (x1.length : Int) then (if 0 ≤ x5 then (if 0 < (x1.length : Int) then (if ((rd_L1 x1 x5).length : Int) = ((rd_L1 x1 0).length : Int) then (spec_l01Rows.l1 k x1 x5 0 x104000 x104001) else (some 2)) else (none)) else (none)) else (some 0)
def spec_l01Rows.l1 : Nat → List (List Int) → Int → Int → Int → List (S63) → Option (Int)
 | 0, _, _, _, _, _ => none
 | k + 1, x1, x5, x6, x104000, x104001 => if 0 ≤ x5 then (if x5 < (x1.length : Int) then (if x6 < ((rd_L1 x1 x5).length : Int) then (if 0 ≤ x6 then ((spec_l01In.f (rd (rd_L1 x1 x5) x6) 0 (wrap64 ((x104001.length : Int) - 1))).bind fun t112 => (if t112 = true then (spec_l01Rows.l1 k x1 x5 (wrap64 (x6 + 1)) x104000 x104001) else (some 2))) else (none)) else (spec_l01Rows.l0 k x1 (wrap64 (x5 + 1)) x104000 x104001)) else (none)) else (none)
end
def spec_l01Rows.f (k : Nat) (a0_0 : Int) (l0_1 : List (S63)) (l1 : List (List Int)) : Option (Int) := (spec_l01Is.f a0_0 l0_1).bind fun t104 => (if t104 = true then (if (l1.length : Int) < 1 then (spec_l01Rows.j0 k l1 true a0_0 l0_1) else (if (l1.length : Int) > 8 then (spec_l01Rows.j0 k l1 true a0_0 l0_1) else (if 0 < (l1.length : Int) then (if ((rd_L1 l1 0).length : Int) < 1 then (spec_l01Rows.j0 k l1 true a0_0 l0_1) else (spec_l01Rows.j0 k l1 (decide (((rd_L1 l1 0).length : Int) > 8)) a0_0 l0_1)) else (none)))) else (some 1))
theorem spec_l01Rows.mono_l : ∀ k, (∀ y0 y1 y2 y3, LeO (spec_l01Rows.j0 k y0 y1 y2 y3) (spec_l01Rows.j0 (k + 1) y0 y1 y2 y3)) ∧ (∀ y0 y1 y2 y3, LeO (spec_l01Rows.l0 k y0 y1 y2 y3) (spec_l01Rows.l0 (k + 1) y0 y1 y2 y3)) ∧ (∀ y0 y1 y2 y3 y4, LeO (spec_l01Rows.l1 k y0 y1 y2 y3 y4) (spec_l01Rows.l1 (k + 1) y0 y1 y2 y3 y4))
 | 0 => ⟨fun _ _ _ _ r h => by simp [spec_l01Rows.j0] at h, fun _ _ _ _ r h => by simp [spec_l01Rows.l0] at h, fun _ _ _ _ _ r h => by simp [spec_l01Rows.l1] at h⟩
 | k + 1 => by
  obtain ⟨ih0, ih1, ih2⟩ := spec_l01Rows.mono_l k
  refine ⟨?_, ?_, ?_⟩
  ·intro y0 y1 y2 y3
   unfold spec_l01Rows.j0
   repeat' first
   | (with_reducible exact ih0 _ _ _ _)
   | (with_reducible exact ih1 _ _ _ _)
   | (with_reducible exact ih2 _ _ _ _ _)
   | (with_reducible exact LeO.refl _)
   | (with_reducible exact LeO.none _)
   | (with_reducible refine LeO.ite ?_ ?_)
   | (with_reducible refine LeO.bind ?_ (fun _ => ?_))
   | exact ih0 _ _ _ _
   | exact ih1 _ _ _ _
   | exact ih2 _ _ _ _ _
   | exact LeO.none _
   | refine LeO.ite ?_ ?_
   | refine LeO.bind ?_ (fun _ => ?_)
  ·intro y0 y1 y2 y3
   unfold spec_l01Rows.l0
   repeat' first
   | (with_reducible exact ih0 _ _ _ _)
   | (with_reducible exact ih1 _ _ _ _)
   | (with_reducible exact ih2 _ _ _ _ _)
   | (with_reducible exact LeO.refl _)
   | (with_reducible exact LeO.none _)
   | (with_reducible refine LeO.ite ?_ ?_)
   | (with_reducible refine LeO.bind ?_ (fun _ => ?_))
   | exact ih0 _ _ _ _
   | exact ih1 _ _ _ _
   | exact ih2 _ _ _ _ _
   | exact LeO.none _
   | refine LeO.ite ?_ ?_
   | refine LeO.bind ?_ (fun _ => ?_)
  ·intro y0 y1 y2 y3 y4
   unfold spec_l01Rows.l1
   repeat' first
   | (with_reducible exact ih0 _ _ _ _)
   | (with_reducible exact ih1 _ _ _ _)
   | (with_reducible exact ih2 _ _ _ _ _)
   | (with_reducible exact LeO.refl _)
   | (with_reducible exact LeO.none _)
   | (with_reducible refine LeO.ite ?_ ?_)
   | (with_reducible refine LeO.bind ?_ (fun _ => ?_))
   | exact ih0 _ _ _ _
   | exact ih1 _ _ _ _
   | exact ih2 _ _ _ _ _
   | exact LeO.none _
   | refine LeO.ite ?_ ?_
   | refine LeO.bind ?_ (fun _ => ?_)
theorem spec_l01Rows.mono : ∀ a0 a1 a2 k, LeO (spec_l01Rows.f k a0 a1 a2) (spec_l01Rows.f (k + 1) a0 a1 a2) := by
 intro a0 a1 a2 k
 obtain ⟨ih0, ih1, ih2⟩ := spec_l01Rows.mono_l k
 unfold spec_l01Rows.f
 repeat' first
   | (with_reducible exact ih0 _ _ _ _)
   | (with_reducible exact ih1 _ _ _ _)
   | (with_reducible exact ih2 _ _ _ _ _)
   | (with_reducible exact LeO.refl _)
   | (with_reducible exact LeO.none _)
   | (with_reducible refine LeO.ite ?_ ?_)
   | (with_reducible refine LeO.bind ?_ (fun _ => ?_))
   | exact ih0 _ _ _ _
   | exact ih1 _ _ _ _
   | exact ih2 _ _ _ _ _
   | exact LeO.none _
   | refine LeO.ite ?_ ?_
   | refine LeO.bind ?_ (fun _ => ?_)
set_option maxHeartbeats 8000000 in
set_option maxRecDepth 100000 in
theorem spec_l01Rows.calls (k : Nat) (a0_0 : Int) (A0_1 : Option Addr) (c0_1 : Nat) (l0_1 : List (S63)) (A1 : Option Addr) (c1 : Nat) (l1 : List (List Int)) (r : Int) (w : World) (hr0_1 : Kd.C k63 w A0_1 l0_1.length l0_1) (hc0_1 : l0_1.length ≤ c0_1) (hr1 : Kd.C (Kd.slice 2 (Kd.int .i64)) w A1 l1.length l1) (hc1 : l1.length ≤ c1) (h : spec_l01Rows.f k a0_0 l0_1 l1 = some r) :
  Calls Try.prog 27 #[.agg #[.int .i64 a0_0, .slice A0_1 l0_1.length c0_1], .slice A1 l1.length c1] w fun e w' => e = .returned (.int .i64 r) ∧ Below w.heap.size w w' := by
 have hu32 := Try.underlying32
 have HR0_1 := Aside0.mk hr0_1
 have HC0_1 := Aside0.mk hc0_1
 clear hr0_1 hc0_1
 have HR1 := Aside0.mk hr1
 have HC1 := Aside0.mk hc1
 clear hr1 hc1
 have HB := Aside0.mk (Below.refl w.heap.size w)
 have H : ((spec_l01Is.f a0_0 l0_1).bind fun t104 => (if t104 = true then (if (l1.length : Int) < 1 then (spec_l01Rows.j0 k l1 true a0_0 l0_1) else (if (l1.length : Int) > 8 then (spec_l01Rows.j0 k l1 true a0_0 l0_1) else (if 0 < (l1.length : Int) then (if ((rd_L1 l1 0).length : Int) < 1 then (spec_l01Rows.j0 k l1 true a0_0 l0_1) else (spec_l01Rows.j0 k l1 (decide (((rd_L1 l1 0).length : Int) > 8)) a0_0 l0_1)) else (none)))) else (some 1))) = some r := h
 clear h
 replace H := Option.bind_eq_some_iff.mp H
 obtain ⟨t104, A30, H⟩ := H
 replace H : (if t104 = true then (if (l1.length : Int) < 1 then (spec_l01Rows.j0 k l1 true a0_0 l0_1) else (if (l1.length : Int) > 8 then (spec_l01Rows.j0 k l1 true a0_0 l0_1) else (if 0 < (l1.length : Int) then (if ((rd_L1 l1 0).length : Int) < 1 then (spec_l01Rows.j0 k l1 true a0_0 l0_1) else (spec_l01Rows.j0 k l1 (decide (((rd_L1 l1 0).length : Int) > 8)) a0_0 l0_1)) else (none)))) else (some 1)) = some r := H
 have A3 := Aside0.mk A30
 clear A30
 by_cases c4 : t104 = true
 ·subst c4
  have H1 : (if (l1.length : Int) < 1 then (spec_l01Rows.j0 k l1 true a0_0 l0_1) else (if (l1.length : Int) > 8 then (spec_l01Rows.j0 k l1 true a0_0 l0_1) else (if 0 < (l1.length : Int) then (if ((rd_L1 l1 0).length : Int) < 1 then (spec_l01Rows.j0 k l1 true a0_0 l0_1) else (spec_l01Rows.j0 k l1 (decide (((rd_L1 l1 0).length : Int) > 8)) a0_0 l0_1)) else (none)))) = some r := by rw [if_pos rfl] at H; exact H
  clear H
  have H := H1
  clear H1
  have HC5 := Aside0.mk H
  clear H
  go_enter Try.func27, Try.ntmps27
  go_upto_region 3 with (first | ((with_reducible refine gate_dst (N := 2) rfl ?_); (try (refine gate_guard (by rfl) ?_; dsimp only)); refine box_event ?hg (N := 2) ?hd (cs := #[.int .i64 a0_0, .slice A0_1 l0_1.length c0_1]) (t := 32) ?hr ?_; (case hd => rfl); (case hg => rfl); (case hr => first | (go_simp; done) | (go_simp; rfl)); intro gb103 hg w6 hbox hb; have n0_ := Aside0.mk (below_step (by repeat (first | (with_reducible first | exact HB.out | apply below_alloc | apply pw_below_drewN | apply below_drew1) | exact HB.out)) hb); have n1_ := Aside0.mk (hbox); have n2_ := Aside0.mk ((by rw [hg]; exact (below_size (by repeat (first | (with_reducible first | exact HB.out | apply below_alloc | apply pw_below_drewN | apply below_drew1) | exact HB.out))) : w.heap.size ≤ gb103)); have n3_ := Aside0.mk ((by rw [hg]; exact (below_size (by repeat (first | (with_reducible first | exact HB.out | apply below_alloc | apply pw_below_drewN | apply below_drew1) | exact HB.out))) : w.heap.size ≤ gb103)); clear HB; have HB := n0_; have BK103 := n1_; have GW103 := n2_; have GE103 := n3_; clear n0_ n1_ n2_ n3_; clear hb hbox hg; have hcz7_0 : w6.cell? ⟨gb103, 0, none⟩ = some (.int .i64 a0_0) := (blk_cell BK103.out 0).trans rfl; have hcz7_1 : w6.cell? ⟨gb103, 1, none⟩ = some (.slice A0_1 l0_1.length c0_1) := (blk_cell BK103.out 1).trans rfl; have hfz7_0 := blk_frozen BK103.out 0; have hfz7_1 := blk_frozen BK103.out 1) | (go_at_call 43; (with_reducible refine (spec_l01Is.calls a0_0 _ _ l0_1 true _ ?side1 ?side2 A3.out).mono ?_); (case side1 => repeat (first | exact (Kd.C_below HR0_1.out HB.out) | (with_reducible refine Kd.C_alloc ?_ _) | (with_reducible refine Kd.C_drewN ?_ _) | (with_reducible refine Kd.C_drew ?_))); (case side2 => exact HC0_1.out); rintro e w8 ⟨rfl, hb⟩; have n0_ := Aside0.mk (blk_below (g := gb103) (o := .cells #[.int .i64 a0_0, .slice A0_1 l0_1.length c0_1] 32 (0, 0)) (by (with_reducible repeat (first | refine blk_drewN ?_ _ | refine blk_drew ?_ | refine blk_alloc ?_ _)); exact BK103.out) hb); have n1_ := Aside0.mk (below_step (by repeat (first | (with_reducible first | exact HB.out | apply below_alloc | apply pw_below_drewN | apply below_drew1 | refine below_set ?_ GE103.out) | exact HB.out)) hb); clear BK103; clear HB; have BK103 := n0_; have HB := n1_; clear n0_ n1_; (try clear hb); (try clear hb2); (try clear hk); (try clear hi)))
  repeat (go_quiet (first | ((with_reducible refine gate_dst (N := 2) rfl ?_); (try (refine gate_guard (by rfl) ?_; dsimp only)); refine box_event ?hg (N := 2) ?hd (cs := #[.int .i64 a0_0, .slice A0_1 l0_1.length c0_1]) (t := 32) ?hr ?_; (case hd => rfl); (case hg => rfl); (case hr => first | (go_simp; done) | (go_simp; rfl)); intro gb103 hg w6 hbox hb; have n0_ := Aside0.mk (below_step (by repeat (first | (with_reducible first | exact HB.out | apply below_alloc | apply pw_below_drewN | apply below_drew1) | exact HB.out)) hb); have n1_ := Aside0.mk (hbox); have n2_ := Aside0.mk ((by rw [hg]; exact (below_size (by repeat (first | (with_reducible first | exact HB.out | apply below_alloc | apply pw_below_drewN | apply below_drew1) | exact HB.out))) : w.heap.size ≤ gb103)); have n3_ := Aside0.mk ((by rw [hg]; exact (below_size (by repeat (first | (with_reducible first | exact HB.out | apply below_alloc | apply pw_below_drewN | apply below_drew1) | exact HB.out))) : w.heap.size ≤ gb103)); clear HB; have HB := n0_; have BK103 := n1_; have GW103 := n2_; have GE103 := n3_; clear n0_ n1_ n2_ n3_; clear hb hbox hg; have hcz7_0 : w6.cell? ⟨gb103, 0, none⟩ = some (.int .i64 a0_0) := (blk_cell BK103.out 0).trans rfl; have hcz7_1 : w6.cell? ⟨gb103, 1, none⟩ = some (.slice A0_1 l0_1.length c0_1) := (blk_cell BK103.out 1).trans rfl; have hfz7_0 := blk_frozen BK103.out 0; have hfz7_1 := blk_frozen BK103.out 1) | (go_at_call 43; (with_reducible refine (spec_l01Is.calls a0_0 _ _ l0_1 true _ ?side1 ?side2 A3.out).mono ?_); (case side1 => repeat (first | exact (Kd.C_below HR0_1.out HB.out) | (with_reducible refine Kd.C_alloc ?_ _) | (with_reducible refine Kd.C_drewN ?_ _) | (with_reducible refine Kd.C_drew ?_))); (case side2 => exact HC0_1.out); rintro e w8 ⟨rfl, hb⟩; have n0_ := Aside0.mk (blk_below (g := gb103) (o := .cells #[.int .i64 a0_0, .slice A0_1 l0_1.length c0_1] 32 (0, 0)) (by (with_reducible repeat (first | refine blk_drewN ?_ _ | refine blk_drew ?_ | refine blk_alloc ?_ _)); exact BK103.out) hb); have n1_ := Aside0.mk (below_step (by repeat (first | (with_reducible first | exact HB.out | apply below_alloc | apply pw_below_drewN | apply below_drew1 | refine below_set ?_ GE103.out) | exact HB.out)) hb); clear BK103; clear HB; have BK103 := n0_; have HB := n1_; clear n0_ n1_; (try clear hb); (try clear hb2); (try clear hk); (try clear hi))); go_upto_region 3 with (first | ((with_reducible refine gate_dst (N := 2) rfl ?_); (try (refine gate_guard (by rfl) ?_; dsimp only)); refine box_event ?hg (N := 2) ?hd (cs := #[.int .i64 a0_0, .slice A0_1 l0_1.length c0_1]) (t := 32) ?hr ?_; (case hd => rfl); (case hg => rfl); (case hr => first | (go_simp; done) | (go_simp; rfl)); intro gb103 hg w6 hbox hb; have n0_ := Aside0.mk (below_step (by repeat (first | (with_reducible first | exact HB.out | apply below_alloc | apply pw_below_drewN | apply below_drew1) | exact HB.out)) hb); have n1_ := Aside0.mk (hbox); have n2_ := Aside0.mk ((by rw [hg]; exact (below_size (by repeat (first | (with_reducible first | exact HB.out | apply below_alloc | apply pw_below_drewN | apply below_drew1) | exact HB.out))) : w.heap.size ≤ gb103)); have n3_ := Aside0.mk ((by rw [hg]; exact (below_size (by repeat (first | (with_reducible first | exact HB.out | apply below_alloc | apply pw_below_drewN | apply below_drew1) | exact HB.out))) : w.heap.size ≤ gb103)); clear HB; have HB := n0_; have BK103 := n1_; have GW103 := n2_; have GE103 := n3_; clear n0_ n1_ n2_ n3_; clear hb hbox hg; have hcz7_0 : w6.cell? ⟨gb103, 0, none⟩ = some (.int .i64 a0_0) := (blk_cell BK103.out 0).trans rfl; have hcz7_1 : w6.cell? ⟨gb103, 1, none⟩ = some (.slice A0_1 l0_1.length c0_1) := (blk_cell BK103.out 1).trans rfl; have hfz7_0 := blk_frozen BK103.out 0; have hfz7_1 := blk_frozen BK103.out 1) | (go_at_call 43; (with_reducible refine (spec_l01Is.calls a0_0 _ _ l0_1 true _ ?side1 ?side2 A3.out).mono ?_); (case side1 => repeat (first | exact (Kd.C_below HR0_1.out HB.out) | (with_reducible refine Kd.C_alloc ?_ _) | (with_reducible refine Kd.C_drewN ?_ _) | (with_reducible refine Kd.C_drew ?_))); (case side2 => exact HC0_1.out); rintro e w8 ⟨rfl, hb⟩; have n0_ := Aside0.mk (blk_below (g := gb103) (o := .cells #[.int .i64 a0_0, .slice A0_1 l0_1.length c0_1] 32 (0, 0)) (by (with_reducible repeat (first | refine blk_drewN ?_ _ | refine blk_drew ?_ | refine blk_alloc ?_ _)); exact BK103.out) hb); have n1_ := Aside0.mk (below_step (by repeat (first | (with_reducible first | exact HB.out | apply below_alloc | apply pw_below_drewN | apply below_drew1 | refine below_set ?_ GE103.out) | exact HB.out)) hb); clear BK103; clear HB; have BK103 := n0_; have HB := n1_; clear n0_ n1_; (try clear hb); (try clear hb2); (try clear hk); (try clear hi))))
  (try simp only [Act.put, List.setIfInBounds_toArray, List.set_cons_zero, List.set_cons_succ])
  go_cut [31] (fun v31 wc => ∃ (kq : Nat) (x31_4 : Bool), v31 = .bool x31_4 ∧ Aside0 (spec_l01Rows.j0 kq l1 x31_4 a0_0 l0_1 = some r) ∧ Aside0 (kq ≤ k) ∧ Aside0 (wc.heap[gb103]? = some (.cells #[.int .i64 a0_0, (.slice A0_1 l0_1.length c0_1)] 32 (0, 0))) ∧ Aside0 (Below w.heap.size w wc))
  case first =>
   have H := HC5.out
   clear HC5
   by_cases c9 : (l1.length : Int) < 1
   ·rw [if_pos c9] at H
    have c9b0 : decide ((l1.length : Int) < 1) = true := decide_eq_true c9
    have c9b1 : decide (l1.length < 1) = true := decide_eq_true (by omega)
    clear c9
    (first | rw [c9b0] | (simp only [i64_w, i32_w]; rw [c9b0]) | skip)
    have H' := Aside0.mk H
    clear H
    go_wp2
    repeat (go_quiet (fail); try go_wp2)
    go_meet
    case rel => exact ⟨_, (true), (by first | rfl | (simp; done) | (simp [*]; done) | (simp; decide +kernel)), H', ⟨by first | omega | exact Nat.le_refl _⟩, ⟨by (with_reducible repeat (first | refine blk_drewN ?_ _ | refine blk_drew ?_ | refine blk_alloc ?_ _)); exact BK103.out⟩, ⟨by repeat (first | (with_reducible first | exact HB.out | apply below_alloc | apply pw_below_drewN | apply below_drew1 | refine below_set ?_ GE103.out) | exact HB.out)⟩⟩
   ·rw [if_neg c9] at H
    have c9b0 : decide ((l1.length : Int) < 1) = false := decide_eq_false c9
    have c9b1 : decide (l1.length < 1) = false := decide_eq_false (by omega)
    clear c9
    (first | rw [c9b0] | (simp only [i64_w, i32_w]; rw [c9b0]) | skip)
    by_cases c10 : (l1.length : Int) > 8
    ·rw [if_pos c10] at H
     have c10b0 : decide (8 < (l1.length : Int)) = true := decide_eq_true c10
     have c10b1 : decide (8 < l1.length) = true := decide_eq_true (by omega)
     clear c10
     have H' := Aside0.mk H
     clear H
     go_wp2
     repeat (go_quiet (fail); try go_wp2)
     go_meet
     case rel => exact ⟨_, (true), (by first | rfl | (simp; done) | (simp [*]; done) | (simp; decide +kernel)), H', ⟨by first | omega | exact Nat.le_refl _⟩, ⟨by (with_reducible repeat (first | refine blk_drewN ?_ _ | refine blk_drew ?_ | refine blk_alloc ?_ _)); exact BK103.out⟩, ⟨by repeat (first | (with_reducible first | exact HB.out | apply below_alloc | apply pw_below_drewN | apply below_drew1 | refine below_set ?_ GE103.out) | exact HB.out)⟩⟩
    ·rw [if_neg c10] at H
     have c10b0 : decide (8 < (l1.length : Int)) = false := decide_eq_false c10
     have c10b1 : decide (8 < l1.length) = false := decide_eq_false (by omega)
     clear c10
     by_cases c11 : 0 < (l1.length : Int)
     ·rw [if_pos c11] at H
      have c11b0 : decide (0 < (l1.length : Int)) = true := decide_eq_true c11
      have c11b1 : decide (0 < l1.length) = true := decide_eq_true (by omega)
      clear c11
      by_cases c12 : ((rd_L1 l1 0).length : Int) < 1
      ·rw [if_pos c12] at H
       have c12b0 : decide (((rd_L1 l1 0).length : Int) < 1) = true := decide_eq_true c12
       have c12b1 : decide ((rd_L1 l1 0).length < 1) = true := decide_eq_true (by omega)
       clear c12
       have H' := Aside0.mk H
       clear H
       have p105 : 0 ≤ (0 : Int) := (by omega)
       have q105 : 0 < (l1.length : Int) := of_decide_eq_true (by first | (with_reducible assumption) | assumption)
       obtain ⟨ad105, A105_0, c105_0, e105, hx105_0, hl105_0, hi105_0⟩ := at_L1 HR1.out 0 p105 q105
       cases e105
       have qi105 : (0 < l1.length) = True := eq_true (by omega)
       (try rw [show ((0 : Int)).toNat = 0 from rfl] at hx105_0)
       (try rw [Addr.add_zero'] at hx105_0)
       replace hx105_0 := (HB.out.cell (World.block_lt_of_cell? w _ hx105_0)).trans hx105_0
       have HR105_0 := Aside0.mk hi105_0
       have HC105_0 := Aside0.mk hl105_0
       clear hi105_0 hl105_0
       replace p105 := eq_true p105
       replace q105 := eq_true q105
       go_wp2
       repeat (go_quiet (fail); try go_wp2)
       go_meet
       case rel => exact ⟨_, (true), (by first | rfl | (simp; done) | (simp [*]; done) | (simp; decide +kernel)), H', ⟨by first | omega | exact Nat.le_refl _⟩, ⟨by (with_reducible repeat (first | refine blk_drewN ?_ _ | refine blk_drew ?_ | refine blk_alloc ?_ _)); exact BK103.out⟩, ⟨by repeat (first | (with_reducible first | exact HB.out | apply below_alloc | apply pw_below_drewN | apply below_drew1 | refine below_set ?_ GE103.out) | exact HB.out)⟩⟩
      ·rw [if_neg c12] at H
       have c12b0 : decide (((rd_L1 l1 0).length : Int) < 1) = false := decide_eq_false c12
       have c12b1 : decide ((rd_L1 l1 0).length < 1) = false := decide_eq_false (by omega)
       clear c12
       have H' := Aside0.mk H
       clear H
       have p105 : 0 ≤ (0 : Int) := (by omega)
       have q105 : 0 < (l1.length : Int) := of_decide_eq_true (by first | (with_reducible assumption) | assumption)
       obtain ⟨ad105, A105_0, c105_0, e105, hx105_0, hl105_0, hi105_0⟩ := at_L1 HR1.out 0 p105 q105
       cases e105
       have qi105 : (0 < l1.length) = True := eq_true (by omega)
       (try rw [show ((0 : Int)).toNat = 0 from rfl] at hx105_0)
       (try rw [Addr.add_zero'] at hx105_0)
       replace hx105_0 := (HB.out.cell (World.block_lt_of_cell? w _ hx105_0)).trans hx105_0
       have HR105_0 := Aside0.mk hi105_0
       have HC105_0 := Aside0.mk hl105_0
       clear hi105_0 hl105_0
       replace p105 := eq_true p105
       replace q105 := eq_true q105
       have p106 : 0 ≤ (0 : Int) := (by omega)
       have q106 : 0 < (l1.length : Int) := of_decide_eq_true (by first | (with_reducible assumption) | assumption)
       obtain ⟨ad106, A106_0, c106_0, e106, hx106_0, hl106_0, hi106_0⟩ := at_L1 HR1.out 0 p106 q106
       obtain rfl : ad105 = ad106 := (by injection e106)
       have qi106 : (0 < l1.length) = True := eq_true (by omega)
       (try rw [show ((0 : Int)).toNat = 0 from rfl] at hx106_0)
       (try rw [Addr.add_zero'] at hx106_0)
       replace hx106_0 := (HB.out.cell (World.block_lt_of_cell? w _ hx106_0)).trans hx106_0
       have HR106_0 := Aside0.mk hi106_0
       have HC106_0 := Aside0.mk hl106_0
       clear hi106_0 hl106_0
       replace p106 := eq_true p106
       replace q106 := eq_true q106
       have ea_ := Option.some.inj (hx105_0.symm.trans hx106_0)
       injection ea_ with ea_ en_ ec_
       subst ea_
       subst ec_
       clear en_
       go_wp2
       repeat (go_quiet (fail); try go_wp2)
       go_meet
       case rel => exact ⟨_, (decide (((rd_L1 l1 0).length : Int) > 8)), (by first | rfl | (simp; done) | (simp [*]; done) | (simp; decide +kernel)), H', ⟨by first | omega | exact Nat.le_refl _⟩, ⟨by (with_reducible repeat (first | refine blk_drewN ?_ _ | refine blk_drew ?_ | refine blk_alloc ?_ _)); exact BK103.out⟩, ⟨by repeat (first | (with_reducible first | exact HB.out | apply below_alloc | apply pw_below_drewN | apply below_drew1 | refine below_set ?_ GE103.out) | exact HB.out)⟩⟩
     ·rw [if_neg c11] at H
      exact absurd H (by simp)
  case rest =>
   clear HC5
   try clear c1
   try clear p1
   try clear q1
   try clear hx1
   try clear qi1
   try clear c2
   try clear p2
   try clear c4
   try clear c9
   try clear c9b0
   try clear c9b1
   try clear c10
   try clear c10b0
   try clear c10b1
   try clear p10
   try clear q10
   try clear hx10
   try clear qi10
   try clear c11
   try clear c11b0
   try clear c11b1
   try clear c12
   try clear c12b0
   try clear c12b1
   try clear hcz7_0
   try clear hcz7_1
   try clear hfz7_0
   try clear hfz7_1
   try clear hx105_0
   try clear hx106_0
   try clear p105
   try clear p106
   try clear q105
   try clear q106
   obtain ⟨kq, x31_4, rfl, HA, HJ4, BK103, HB⟩ := hcut
   cases kq with
   | zero => exact absurd HA.out (by simp [spec_l01Rows.j0])
   | succ kj4 =>
    have H := HA.out
    clear HA
    simp only [spec_l01Rows.j0] at H
    by_cases c13 : x31_4 = true
    ·subst c13
     have H1 : (some 2) = some r := by rw [if_pos rfl] at H; exact H
     clear H
     have H := H1
     clear H1
     obtain rfl := Option.some.inj H
     go_wp2
     repeat (go_quiet (fail); try go_wp2)
     go_ret
     exact ⟨by first | rfl | (simp [errW_none, errW_some] <;> rfl) | (simp [*, errW_none, errW_some] <;> rfl), by repeat (first | (with_reducible first | exact HB.out | apply below_alloc | apply pw_below_drewN | apply below_drew1 | refine below_set ?_ GE103.out) | exact HB.out)⟩
    ·replace c13 := Bool.eq_false_iff.mpr c13
     subst c13
     have H1 : (spec_l01Rows.l0 kj4 l1 0 a0_0 l0_1) = some r := by rw [if_neg (show ¬ (false = true) by decide)] at H; exact H
     clear H
     have H := H1
     clear H1
     have H' := Aside0.mk H
     clear H
     go_wp2
     repeat (go_quiet (fail); try go_wp2)
     go_loopg [5] kj4 (fun kq v5 w' => ∃ (x5_2 : Int), v5 = .int .i64 x5_2 ∧ Aside0 (spec_l01Rows.l0 kq l1 x5_2 a0_0 l0_1 = some r) ∧ Aside0 (kq ≤ kj4) ∧ Aside0 (w'.heap[gb103]? = some (.cells #[.int .i64 a0_0, (.slice A0_1 l0_1.length c0_1)] 32 (0, 0))) ∧ Aside0 (Below w.heap.size w w'))
     case atStart => exact ⟨(0), (by first | rfl | (simp; done) | (simp [*]; done) | (simp; decide +kernel)), H', ⟨Nat.le_refl _⟩, ⟨by (with_reducible repeat (first | refine blk_drewN ?_ _ | refine blk_drew ?_ | refine blk_alloc ?_ _)); exact BK103.out⟩, ⟨by repeat (first | (with_reducible first | exact HB.out | apply below_alloc | apply pw_below_drewN | apply below_drew1 | refine below_set ?_ GE103.out) | exact HB.out)⟩⟩
     case round =>
      clear H'
      try clear c1
      try clear p1
      try clear q1
      try clear hx1
      try clear qi1
      try clear c2
      try clear p2
      try clear c4
      try clear c9
      try clear c9b0
      try clear c9b1
      try clear c10
      try clear c10b0
      try clear c10b1
      try clear p10
      try clear q10
      try clear hx10
      try clear qi10
      try clear c11
      try clear c11b0
      try clear c11b1
      try clear c12
      try clear c12b0
      try clear c12b1
      try clear c13
      try clear hcz7_0
      try clear hcz7_1
      try clear hfz7_0
      try clear hfz7_1
      try clear hx105_0
      try clear hx106_0
      try clear p1
      try clear p10
      try clear p105
      try clear p106
      try clear p2
      try clear q1
      try clear q10
      try clear q105
      try clear q106
      obtain ⟨x5_2, rfl, HA, HK2, BK103, HB⟩ := hrel
      cases gk with
      | zero => exact absurd HA.out (by simp [spec_l01Rows.l0])
      | succ k2 =>
       have H := HA.out
       clear HA
       simp only [spec_l01Rows.l0] at H
       by_cases c14 : x5_2 < (l1.length : Int)
       ·rw [if_pos c14] at H
        have c14b0 : decide (x5_2 < (l1.length : Int)) = true := decide_eq_true c14
        clear c14
        by_cases c15 : 0 ≤ x5_2
        ·rw [if_pos c15] at H
         have c15b0 : decide (0 ≤ x5_2) = true := decide_eq_true c15
         clear c15
         by_cases c16 : 0 < (l1.length : Int)
         ·rw [if_pos c16] at H
          have c16b0 : decide (0 < (l1.length : Int)) = true := decide_eq_true c16
          have c16b1 : decide (0 < l1.length) = true := decide_eq_true (by omega)
          clear c16
          by_cases c17 : ((rd_L1 l1 x5_2).length : Int) = ((rd_L1 l1 0).length : Int)
          ·rw [if_pos c17] at H
           have c17b0 : (((rd_L1 l1 x5_2).length : Int) == ((rd_L1 l1 0).length : Int)) = true := beq_iff_eq.mpr c17
           have c17b1 : (((rd_L1 l1 x5_2).length : Int) != ((rd_L1 l1 0).length : Int)) = false := bne_eq_false_iff_eq.mpr c17
           have c17b2 : ((rd_L1 l1 x5_2).length == (rd_L1 l1 0).length) = true := by first | simpa using c17 | (simp at c17 ⊢; omega)
           clear c17
           have H' := Aside0.mk H
           clear H
           have p107 : 0 ≤ (x5_2 : Int) := of_decide_eq_true (by first | (with_reducible assumption) | assumption)
           have q107 : x5_2 < (l1.length : Int) := of_decide_eq_true (by first | (with_reducible assumption) | assumption)
           obtain ⟨ad107, A107_0, c107_0, e107, hx107_0, hl107_0, hi107_0⟩ := at_L1 HR1.out x5_2 p107 q107
           cases e107
           replace hx107_0 := (HB.out.cell (World.block_lt_of_cell? w _ hx107_0)).trans hx107_0
           have HR107_0 := Aside0.mk hi107_0
           have HC107_0 := Aside0.mk hl107_0
           clear hi107_0 hl107_0
           replace p107 := eq_true p107
           replace q107 := eq_true q107
           have p108 : 0 ≤ (0 : Int) := (by omega)
           have q108 : 0 < (l1.length : Int) := of_decide_eq_true (by first | (with_reducible assumption) | assumption)
           obtain ⟨ad108, A108_0, c108_0, e108, hx108_0, hl108_0, hi108_0⟩ := at_L1 HR1.out 0 p108 q108
           obtain rfl : ad107 = ad108 := (by injection e108)
           have qi108 : (0 < l1.length) = True := eq_true (by omega)
           (try rw [show ((0 : Int)).toNat = 0 from rfl] at hx108_0)
           (try rw [Addr.add_zero'] at hx108_0)
           replace hx108_0 := (HB.out.cell (World.block_lt_of_cell? w _ hx108_0)).trans hx108_0
           have HR108_0 := Aside0.mk hi108_0
           have HC108_0 := Aside0.mk hl108_0
           clear hi108_0 hl108_0
           replace p108 := eq_true p108
           replace q108 := eq_true q108
           go_wp2
           repeat (go_quiet (fail); try go_wp2)
           go_loopg [6] k2 (fun kq v6 w' => ∃ (x6_3 : Int), v6 = .int .i64 x6_3 ∧ Aside0 (spec_l01Rows.l1 kq l1 x5_2 x6_3 a0_0 l0_1 = some r) ∧ Aside0 (kq ≤ k2) ∧ Aside0 (w'.heap[gb103]? = some (.cells #[.int .i64 a0_0, (.slice A0_1 l0_1.length c0_1)] 32 (0, 0))) ∧ Aside0 (Below w.heap.size w w'))
           case atStart => exact ⟨(0), (by first | rfl | (simp; done) | (simp [*]; done) | (simp; decide +kernel)), H', ⟨Nat.le_refl _⟩, ⟨by (with_reducible repeat (first | refine blk_drewN ?_ _ | refine blk_drew ?_ | refine blk_alloc ?_ _)); exact BK103.out⟩, ⟨by repeat (first | (with_reducible first | exact HB.out | apply below_alloc | apply pw_below_drewN | apply below_drew1 | refine below_set ?_ GE103.out) | exact HB.out)⟩⟩
           case round =>
            clear H'
            try clear c1
            try clear p1
            try clear q1
            try clear hx1
            try clear qi1
            try clear c2
            try clear p2
            try clear c4
            try clear c9
            try clear c9b0
            try clear c9b1
            try clear c10
            try clear c10b0
            try clear c10b1
            try clear p10
            try clear q10
            try clear hx10
            try clear qi10
            try clear c11
            try clear c11b0
            try clear c11b1
            try clear c12
            try clear c12b0
            try clear c12b1
            try clear c13
            try clear c14
            try clear c14b0
            try clear c15
            try clear c15b0
            try clear c16
            try clear c16b0
            try clear c16b1
            try clear c17
            try clear c17b0
            try clear c17b1
            try clear c17b2
            try clear hcz7_0
            try clear hcz7_1
            try clear hfz7_0
            try clear hfz7_1
            try clear hx105_0
            try clear hx106_0
            try clear hx107_0
            try clear hx108_0
            try clear p1
            try clear p10
            try clear p105
            try clear p106
            try clear p107
            try clear p108
            try clear p2
            try clear q1
            try clear q10
            try clear q105
            try clear q106
            try clear q107
            try clear q108
            obtain ⟨x6_3, rfl, HA, HK3, BK103, HB⟩ := hrel
            cases gk with
            | zero => exact absurd HA.out (by simp [spec_l01Rows.l1])
            | succ k3 =>
             have H := HA.out
             clear HA
             simp only [spec_l01Rows.l1] at H
             by_cases c18 : 0 ≤ x5_2
             ·rw [if_pos c18] at H
              have c18b0 : decide (0 ≤ x5_2) = true := decide_eq_true c18
              clear c18
              by_cases c19 : x5_2 < (l1.length : Int)
              ·rw [if_pos c19] at H
               have c19b0 : decide (x5_2 < (l1.length : Int)) = true := decide_eq_true c19
               clear c19
               by_cases c20 : x6_3 < ((rd_L1 l1 x5_2).length : Int)
               ·rw [if_pos c20] at H
                have c20b0 : decide (x6_3 < ((rd_L1 l1 x5_2).length : Int)) = true := decide_eq_true c20
                clear c20
                by_cases c21 : 0 ≤ x6_3
                ·rw [if_pos c21] at H
                 have c21b0 : decide (0 ≤ x6_3) = true := decide_eq_true c21
                 clear c21
                 replace H := Option.bind_eq_some_iff.mp H
                 obtain ⟨t112, A220, H⟩ := H
                 replace H : (if t112 = true then (spec_l01Rows.l1 k3 l1 x5_2 (wrap64 (x6_3 + 1)) a0_0 l0_1) else (some 2)) = some r := H
                 have A22 := Aside0.mk A220
                 clear A220
                 by_cases c23 : t112 = true
                 ·subst c23
                  have H1 : (spec_l01Rows.l1 k3 l1 x5_2 (wrap64 (x6_3 + 1)) a0_0 l0_1) = some r := by rw [if_pos rfl] at H; exact H
                  clear H
                  have H := H1
                  clear H1
                  have H' := Aside0.mk H
                  clear H
                  have p109 : 0 ≤ (x5_2 : Int) := of_decide_eq_true (by first | (with_reducible assumption) | assumption)
                  have q109 : x5_2 < (l1.length : Int) := of_decide_eq_true (by first | (with_reducible assumption) | assumption)
                  obtain ⟨ad109, A109_0, c109_0, e109, hx109_0, hl109_0, hi109_0⟩ := at_L1 HR1.out x5_2 p109 q109
                  obtain rfl : ad107 = ad109 := (by injection e109)
                  replace hx109_0 := (HB.out.cell (World.block_lt_of_cell? w _ hx109_0)).trans hx109_0
                  have HR109_0 := Aside0.mk hi109_0
                  have HC109_0 := Aside0.mk hl109_0
                  clear hi109_0 hl109_0
                  replace p109 := eq_true p109
                  replace q109 := eq_true q109
                  have p110 : 0 ≤ (x5_2 : Int) := of_decide_eq_true (by first | (with_reducible assumption) | assumption)
                  have q110 : x5_2 < (l1.length : Int) := of_decide_eq_true (by first | (with_reducible assumption) | assumption)
                  obtain ⟨ad110, A110_0, c110_0, e110, hx110_0, hl110_0, hi110_0⟩ := at_L1 HR1.out x5_2 p110 q110
                  obtain rfl : ad107 = ad110 := (by injection e110)
                  replace hx110_0 := (HB.out.cell (World.block_lt_of_cell? w _ hx110_0)).trans hx110_0
                  have HR110_0 := Aside0.mk hi110_0
                  have HC110_0 := Aside0.mk hl110_0
                  clear hi110_0 hl110_0
                  replace p110 := eq_true p110
                  replace q110 := eq_true q110
                  have ea_ := Option.some.inj (hx109_0.symm.trans hx110_0)
                  injection ea_ with ea_ en_ ec_
                  subst ea_
                  subst ec_
                  clear en_
                  have p111 : 0 ≤ (x6_3 : Int) := of_decide_eq_true (by first | (with_reducible assumption) | assumption)
                  have q111 : x6_3 < ((rd_L1 l1 x5_2).length : Int) := of_decide_eq_true (by first | (with_reducible assumption) | assumption)
                  obtain ⟨ad111, e111, hx111_0⟩ := Kd.at_int HR110_0.out x6_3 p111 q111
                  cases e111
                  replace hx111_0 := (HB.out.cell (World.block_lt_of_cell? w _ hx111_0)).trans hx111_0
                  replace p111 := eq_true p111
                  replace q111 := eq_true q111
                  have hcz24_0 : wr.cell? ⟨gb103, 0, none⟩ = some (.int .i64 a0_0) := (blk_cell BK103.out 0).trans rfl
                  have hcz24_1 : wr.cell? ⟨gb103, 1, none⟩ = some (.slice A0_1 l0_1.length c0_1) := (blk_cell BK103.out 1).trans rfl
                  have hfz24_0 := blk_frozen BK103.out 0
                  have hfz24_1 := blk_frozen BK103.out 1
                  go_wp2_with (first | (go_at_call 54; (with_reducible refine (spec_l01In.calls (rd (rd_L1 l1 x5_2) x6_3) 0 (wrap64 ((l0_1.length : Int) - 1)) true _ A22.out).mono ?_); rintro e w' ⟨rfl, ⟨nd, rfl⟩⟩; (try first | exact ⟨rfl, _, World.drewN_drewN _ _ _⟩ | exact ⟨rfl, _, Eq.trans (World.drewN_drewN _ _ _) (congrArg (World.drewN _) (Nat.add_assoc _ _ _))⟩)))
                  repeat (go_quiet (first | (go_at_call 54; (with_reducible refine (spec_l01In.calls (rd (rd_L1 l1 x5_2) x6_3) 0 (wrap64 ((l0_1.length : Int) - 1)) true _ A22.out).mono ?_); rintro e w' ⟨rfl, ⟨nd, rfl⟩⟩; (try first | exact ⟨rfl, _, World.drewN_drewN _ _ _⟩ | exact ⟨rfl, _, Eq.trans (World.drewN_drewN _ _ _) (congrArg (World.drewN _) (Nat.add_assoc _ _ _))⟩))); try go_wp2_with (first | (go_at_call 54; (with_reducible refine (spec_l01In.calls (rd (rd_L1 l1 x5_2) x6_3) 0 (wrap64 ((l0_1.length : Int) - 1)) true _ A22.out).mono ?_); rintro e w' ⟨rfl, ⟨nd, rfl⟩⟩; (try first | exact ⟨rfl, _, World.drewN_drewN _ _ _⟩ | exact ⟨rfl, _, Eq.trans (World.drewN_drewN _ _ _) (congrArg (World.drewN _) (Nat.add_assoc _ _ _))⟩))))
                  go_roundg k3
                  case measure => have := HJ4.out; have := HK2.out; have := HK3.out; omega
                  case rel => exact ⟨(wrap64 (x6_3 + 1)), (by first | rfl | (simp; done) | (simp [*]; done) | (simp; decide +kernel)), H', ⟨by have := HJ4.out; have := HK2.out; have := HK3.out; omega⟩, ⟨by (with_reducible repeat (first | refine blk_drewN ?_ _ | refine blk_drew ?_ | refine blk_alloc ?_ _)); exact BK103.out⟩, ⟨by repeat (first | (with_reducible first | exact HB.out | apply below_alloc | apply pw_below_drewN | apply below_drew1 | refine below_set ?_ GE103.out) | exact HB.out)⟩⟩
                 ·replace c23 := Bool.eq_false_iff.mpr c23
                  subst c23
                  have H1 : (some 2) = some r := by rw [if_neg (show ¬ (false = true) by decide)] at H; exact H
                  clear H
                  have H := H1
                  clear H1
                  obtain rfl := Option.some.inj H
                  have p109 : 0 ≤ (x5_2 : Int) := of_decide_eq_true (by first | (with_reducible assumption) | assumption)
                  have q109 : x5_2 < (l1.length : Int) := of_decide_eq_true (by first | (with_reducible assumption) | assumption)
                  obtain ⟨ad109, A109_0, c109_0, e109, hx109_0, hl109_0, hi109_0⟩ := at_L1 HR1.out x5_2 p109 q109
                  obtain rfl : ad107 = ad109 := (by injection e109)
                  replace hx109_0 := (HB.out.cell (World.block_lt_of_cell? w _ hx109_0)).trans hx109_0
                  have HR109_0 := Aside0.mk hi109_0
                  have HC109_0 := Aside0.mk hl109_0
                  clear hi109_0 hl109_0
                  replace p109 := eq_true p109
                  replace q109 := eq_true q109
                  have p110 : 0 ≤ (x5_2 : Int) := of_decide_eq_true (by first | (with_reducible assumption) | assumption)
                  have q110 : x5_2 < (l1.length : Int) := of_decide_eq_true (by first | (with_reducible assumption) | assumption)
                  obtain ⟨ad110, A110_0, c110_0, e110, hx110_0, hl110_0, hi110_0⟩ := at_L1 HR1.out x5_2 p110 q110
                  obtain rfl : ad107 = ad110 := (by injection e110)
                  replace hx110_0 := (HB.out.cell (World.block_lt_of_cell? w _ hx110_0)).trans hx110_0
                  have HR110_0 := Aside0.mk hi110_0
                  have HC110_0 := Aside0.mk hl110_0
                  clear hi110_0 hl110_0
                  replace p110 := eq_true p110
                  replace q110 := eq_true q110
                  have ea_ := Option.some.inj (hx109_0.symm.trans hx110_0)
                  injection ea_ with ea_ en_ ec_
                  subst ea_
                  subst ec_
                  clear en_
                  have p111 : 0 ≤ (x6_3 : Int) := of_decide_eq_true (by first | (with_reducible assumption) | assumption)
                  have q111 : x6_3 < ((rd_L1 l1 x5_2).length : Int) := of_decide_eq_true (by first | (with_reducible assumption) | assumption)
                  obtain ⟨ad111, e111, hx111_0⟩ := Kd.at_int HR110_0.out x6_3 p111 q111
                  cases e111
                  replace hx111_0 := (HB.out.cell (World.block_lt_of_cell? w _ hx111_0)).trans hx111_0
                  replace p111 := eq_true p111
                  replace q111 := eq_true q111
                  have hcz25_0 : wr.cell? ⟨gb103, 0, none⟩ = some (.int .i64 a0_0) := (blk_cell BK103.out 0).trans rfl
                  have hcz25_1 : wr.cell? ⟨gb103, 1, none⟩ = some (.slice A0_1 l0_1.length c0_1) := (blk_cell BK103.out 1).trans rfl
                  have hfz25_0 := blk_frozen BK103.out 0
                  have hfz25_1 := blk_frozen BK103.out 1
                  go_wp2_with (first | (go_at_call 54; (with_reducible refine (spec_l01In.calls (rd (rd_L1 l1 x5_2) x6_3) 0 (wrap64 ((l0_1.length : Int) - 1)) false _ A22.out).mono ?_); rintro e w' ⟨rfl, ⟨nd, rfl⟩⟩; (try first | exact ⟨rfl, _, World.drewN_drewN _ _ _⟩ | exact ⟨rfl, _, Eq.trans (World.drewN_drewN _ _ _) (congrArg (World.drewN _) (Nat.add_assoc _ _ _))⟩)))
                  repeat (go_quiet (first | (go_at_call 54; (with_reducible refine (spec_l01In.calls (rd (rd_L1 l1 x5_2) x6_3) 0 (wrap64 ((l0_1.length : Int) - 1)) false _ A22.out).mono ?_); rintro e w' ⟨rfl, ⟨nd, rfl⟩⟩; (try first | exact ⟨rfl, _, World.drewN_drewN _ _ _⟩ | exact ⟨rfl, _, Eq.trans (World.drewN_drewN _ _ _) (congrArg (World.drewN _) (Nat.add_assoc _ _ _))⟩))); try go_wp2_with (first | (go_at_call 54; (with_reducible refine (spec_l01In.calls (rd (rd_L1 l1 x5_2) x6_3) 0 (wrap64 ((l0_1.length : Int) - 1)) false _ A22.out).mono ?_); rintro e w' ⟨rfl, ⟨nd, rfl⟩⟩; (try first | exact ⟨rfl, _, World.drewN_drewN _ _ _⟩ | exact ⟨rfl, _, Eq.trans (World.drewN_drewN _ _ _) (congrArg (World.drewN _) (Nat.add_assoc _ _ _))⟩))))
                  go_ret
                  exact ⟨by first | rfl | (simp [errW_none, errW_some] <;> rfl) | (simp [*, errW_none, errW_some] <;> rfl), by repeat (first | (with_reducible first | exact HB.out | apply below_alloc | apply pw_below_drewN | apply below_drew1 | refine below_set ?_ GE103.out) | exact HB.out)⟩
                ·rw [if_neg c21] at H
                 exact absurd H (by simp)
               ·rw [if_neg c20] at H
                have c20b0 : decide (x6_3 < ((rd_L1 l1 x5_2).length : Int)) = false := decide_eq_false c20
                clear c20
                have H' := Aside0.mk H
                clear H
                have p109 : 0 ≤ (x5_2 : Int) := of_decide_eq_true (by first | (with_reducible assumption) | assumption)
                have q109 : x5_2 < (l1.length : Int) := of_decide_eq_true (by first | (with_reducible assumption) | assumption)
                obtain ⟨ad109, A109_0, c109_0, e109, hx109_0, hl109_0, hi109_0⟩ := at_L1 HR1.out x5_2 p109 q109
                obtain rfl : ad107 = ad109 := (by injection e109)
                replace hx109_0 := (HB.out.cell (World.block_lt_of_cell? w _ hx109_0)).trans hx109_0
                have HR109_0 := Aside0.mk hi109_0
                have HC109_0 := Aside0.mk hl109_0
                clear hi109_0 hl109_0
                replace p109 := eq_true p109
                replace q109 := eq_true q109
                go_wp2
                repeat (go_quiet (fail); try go_wp2)
                go_roundg k3
                case measure => have := HJ4.out; have := HK2.out; have := HK3.out; omega
                case rel => exact ⟨(wrap64 (x5_2 + 1)), (by first | rfl | (simp; done) | (simp [*]; done) | (simp; decide +kernel)), H', ⟨by have := HJ4.out; have := HK2.out; have := HK3.out; omega⟩, ⟨by (with_reducible repeat (first | refine blk_drewN ?_ _ | refine blk_drew ?_ | refine blk_alloc ?_ _)); exact BK103.out⟩, ⟨by repeat (first | (with_reducible first | exact HB.out | apply below_alloc | apply pw_below_drewN | apply below_drew1 | refine below_set ?_ GE103.out) | exact HB.out)⟩⟩
              ·rw [if_neg c19] at H
               exact absurd H (by simp)
             ·rw [if_neg c18] at H
              exact absurd H (by simp)
          ·rw [if_neg c17] at H
           have c17b0 : (((rd_L1 l1 x5_2).length : Int) == ((rd_L1 l1 0).length : Int)) = false := beq_eq_false_iff_ne.mpr c17
           have c17b1 : (((rd_L1 l1 x5_2).length : Int) != ((rd_L1 l1 0).length : Int)) = true := bne_iff_ne.mpr c17
           have c17b2 : ((rd_L1 l1 x5_2).length == (rd_L1 l1 0).length) = false := by first | simpa using c17 | (simp at c17 ⊢; omega)
           obtain rfl := Option.some.inj H
           have p107 : 0 ≤ (x5_2 : Int) := of_decide_eq_true (by first | (with_reducible assumption) | assumption)
           have q107 : x5_2 < (l1.length : Int) := of_decide_eq_true (by first | (with_reducible assumption) | assumption)
           obtain ⟨ad107, A107_0, c107_0, e107, hx107_0, hl107_0, hi107_0⟩ := at_L1 HR1.out x5_2 p107 q107
           cases e107
           replace hx107_0 := (HB.out.cell (World.block_lt_of_cell? w _ hx107_0)).trans hx107_0
           have HR107_0 := Aside0.mk hi107_0
           have HC107_0 := Aside0.mk hl107_0
           clear hi107_0 hl107_0
           replace p107 := eq_true p107
           replace q107 := eq_true q107
           have p108 : 0 ≤ (0 : Int) := (by omega)
           have q108 : 0 < (l1.length : Int) := of_decide_eq_true (by first | (with_reducible assumption) | assumption)
           obtain ⟨ad108, A108_0, c108_0, e108, hx108_0, hl108_0, hi108_0⟩ := at_L1 HR1.out 0 p108 q108
           obtain rfl : ad107 = ad108 := (by injection e108)
           have qi108 : (0 < l1.length) = True := eq_true (by omega)
           (try rw [show ((0 : Int)).toNat = 0 from rfl] at hx108_0)
           (try rw [Addr.add_zero'] at hx108_0)
           replace hx108_0 := (HB.out.cell (World.block_lt_of_cell? w _ hx108_0)).trans hx108_0
           have HR108_0 := Aside0.mk hi108_0
           have HC108_0 := Aside0.mk hl108_0
           clear hi108_0 hl108_0
           replace p108 := eq_true p108
           replace q108 := eq_true q108
           go_wp2
           repeat (go_quiet (fail); try go_wp2)
           go_ret
           exact ⟨by first | rfl | (simp [errW_none, errW_some] <;> rfl) | (simp [*, errW_none, errW_some] <;> rfl), by repeat (first | (with_reducible first | exact HB.out | apply below_alloc | apply pw_below_drewN | apply below_drew1 | refine below_set ?_ GE103.out) | exact HB.out)⟩
         ·rw [if_neg c16] at H
          exact absurd H (by simp)
        ·rw [if_neg c15] at H
         exact absurd H (by simp)
       ·rw [if_neg c14] at H
        have c14b0 : decide (x5_2 < (l1.length : Int)) = false := decide_eq_false c14
        clear c14
        obtain rfl := Option.some.inj H
        go_wp2
        repeat (go_quiet (fail); try go_wp2)
        go_ret
        exact ⟨by first | rfl | (simp [errW_none, errW_some] <;> rfl) | (simp [*, errW_none, errW_some] <;> rfl), by repeat (first | (with_reducible first | exact HB.out | apply below_alloc | apply pw_below_drewN | apply below_drew1 | refine below_set ?_ GE103.out) | exact HB.out)⟩
 ·replace c4 := Bool.eq_false_iff.mpr c4
  subst c4
  have H1 : (some 1) = some r := by rw [if_neg (show ¬ (false = true) by decide)] at H; exact H
  clear H
  have H := H1
  clear H1
  obtain rfl := Option.some.inj H
  go_enter Try.func27, Try.ntmps27
  go_wp2_with (first | ((with_reducible refine gate_dst (N := 2) rfl ?_); (try (refine gate_guard (by rfl) ?_; dsimp only)); refine box_event ?hg (N := 2) ?hd (cs := #[.int .i64 a0_0, .slice A0_1 l0_1.length c0_1]) (t := 32) ?hr ?_; (case hd => rfl); (case hg => rfl); (case hr => first | (go_simp; done) | (go_simp; rfl)); intro gb103 hg w26 hbox hb; have n0_ := Aside0.mk (below_step (by repeat (first | (with_reducible first | exact HB.out | apply below_alloc | apply pw_below_drewN | apply below_drew1) | exact HB.out)) hb); have n1_ := Aside0.mk (hbox); have n2_ := Aside0.mk ((by rw [hg]; exact (below_size (by repeat (first | (with_reducible first | exact HB.out | apply below_alloc | apply pw_below_drewN | apply below_drew1) | exact HB.out))) : w.heap.size ≤ gb103)); have n3_ := Aside0.mk ((by rw [hg]; exact (below_size (by repeat (first | (with_reducible first | exact HB.out | apply below_alloc | apply pw_below_drewN | apply below_drew1) | exact HB.out))) : w.heap.size ≤ gb103)); clear HB; have HB := n0_; have BK103 := n1_; have GW103 := n2_; have GE103 := n3_; clear n0_ n1_ n2_ n3_; clear hb hbox hg; have hcz27_0 : w26.cell? ⟨gb103, 0, none⟩ = some (.int .i64 a0_0) := (blk_cell BK103.out 0).trans rfl; have hcz27_1 : w26.cell? ⟨gb103, 1, none⟩ = some (.slice A0_1 l0_1.length c0_1) := (blk_cell BK103.out 1).trans rfl; have hfz27_0 := blk_frozen BK103.out 0; have hfz27_1 := blk_frozen BK103.out 1) | (go_at_call 43; (with_reducible refine (spec_l01Is.calls a0_0 _ _ l0_1 false _ ?side1 ?side2 A3.out).mono ?_); (case side1 => repeat (first | exact (Kd.C_below HR0_1.out HB.out) | (with_reducible refine Kd.C_alloc ?_ _) | (with_reducible refine Kd.C_drewN ?_ _) | (with_reducible refine Kd.C_drew ?_))); (case side2 => exact HC0_1.out); rintro e w28 ⟨rfl, hb⟩; have n0_ := Aside0.mk (blk_below (g := gb103) (o := .cells #[.int .i64 a0_0, .slice A0_1 l0_1.length c0_1] 32 (0, 0)) (by (with_reducible repeat (first | refine blk_drewN ?_ _ | refine blk_drew ?_ | refine blk_alloc ?_ _)); exact BK103.out) hb); have n1_ := Aside0.mk (below_step (by repeat (first | (with_reducible first | exact HB.out | apply below_alloc | apply pw_below_drewN | apply below_drew1 | refine below_set ?_ GE103.out) | exact HB.out)) hb); clear BK103; clear HB; have BK103 := n0_; have HB := n1_; clear n0_ n1_; (try clear hb); (try clear hb2); (try clear hk); (try clear hi)))
  repeat (go_quiet (first | ((with_reducible refine gate_dst (N := 2) rfl ?_); (try (refine gate_guard (by rfl) ?_; dsimp only)); refine box_event ?hg (N := 2) ?hd (cs := #[.int .i64 a0_0, .slice A0_1 l0_1.length c0_1]) (t := 32) ?hr ?_; (case hd => rfl); (case hg => rfl); (case hr => first | (go_simp; done) | (go_simp; rfl)); intro gb103 hg w26 hbox hb; have n0_ := Aside0.mk (below_step (by repeat (first | (with_reducible first | exact HB.out | apply below_alloc | apply pw_below_drewN | apply below_drew1) | exact HB.out)) hb); have n1_ := Aside0.mk (hbox); have n2_ := Aside0.mk ((by rw [hg]; exact (below_size (by repeat (first | (with_reducible first | exact HB.out | apply below_alloc | apply pw_below_drewN | apply below_drew1) | exact HB.out))) : w.heap.size ≤ gb103)); have n3_ := Aside0.mk ((by rw [hg]; exact (below_size (by repeat (first | (with_reducible first | exact HB.out | apply below_alloc | apply pw_below_drewN | apply below_drew1) | exact HB.out))) : w.heap.size ≤ gb103)); clear HB; have HB := n0_; have BK103 := n1_; have GW103 := n2_; have GE103 := n3_; clear n0_ n1_ n2_ n3_; clear hb hbox hg; have hcz27_0 : w26.cell? ⟨gb103, 0, none⟩ = some (.int .i64 a0_0) := (blk_cell BK103.out 0).trans rfl; have hcz27_1 : w26.cell? ⟨gb103, 1, none⟩ = some (.slice A0_1 l0_1.length c0_1) := (blk_cell BK103.out 1).trans rfl; have hfz27_0 := blk_frozen BK103.out 0; have hfz27_1 := blk_frozen BK103.out 1) | (go_at_call 43; (with_reducible refine (spec_l01Is.calls a0_0 _ _ l0_1 false _ ?side1 ?side2 A3.out).mono ?_); (case side1 => repeat (first | exact (Kd.C_below HR0_1.out HB.out) | (with_reducible refine Kd.C_alloc ?_ _) | (with_reducible refine Kd.C_drewN ?_ _) | (with_reducible refine Kd.C_drew ?_))); (case side2 => exact HC0_1.out); rintro e w28 ⟨rfl, hb⟩; have n0_ := Aside0.mk (blk_below (g := gb103) (o := .cells #[.int .i64 a0_0, .slice A0_1 l0_1.length c0_1] 32 (0, 0)) (by (with_reducible repeat (first | refine blk_drewN ?_ _ | refine blk_drew ?_ | refine blk_alloc ?_ _)); exact BK103.out) hb); have n1_ := Aside0.mk (below_step (by repeat (first | (with_reducible first | exact HB.out | apply below_alloc | apply pw_below_drewN | apply below_drew1 | refine below_set ?_ GE103.out) | exact HB.out)) hb); clear BK103; clear HB; have BK103 := n0_; have HB := n1_; clear n0_ n1_; (try clear hb); (try clear hb2); (try clear hk); (try clear hi))); try go_wp2_with (first | ((with_reducible refine gate_dst (N := 2) rfl ?_); (try (refine gate_guard (by rfl) ?_; dsimp only)); refine box_event ?hg (N := 2) ?hd (cs := #[.int .i64 a0_0, .slice A0_1 l0_1.length c0_1]) (t := 32) ?hr ?_; (case hd => rfl); (case hg => rfl); (case hr => first | (go_simp; done) | (go_simp; rfl)); intro gb103 hg w26 hbox hb; have n0_ := Aside0.mk (below_step (by repeat (first | (with_reducible first | exact HB.out | apply below_alloc | apply pw_below_drewN | apply below_drew1) | exact HB.out)) hb); have n1_ := Aside0.mk (hbox); have n2_ := Aside0.mk ((by rw [hg]; exact (below_size (by repeat (first | (with_reducible first | exact HB.out | apply below_alloc | apply pw_below_drewN | apply below_drew1) | exact HB.out))) : w.heap.size ≤ gb103)); have n3_ := Aside0.mk ((by rw [hg]; exact (below_size (by repeat (first | (with_reducible first | exact HB.out | apply below_alloc | apply pw_below_drewN | apply below_drew1) | exact HB.out))) : w.heap.size ≤ gb103)); clear HB; have HB := n0_; have BK103 := n1_; have GW103 := n2_; have GE103 := n3_; clear n0_ n1_ n2_ n3_; clear hb hbox hg; have hcz27_0 : w26.cell? ⟨gb103, 0, none⟩ = some (.int .i64 a0_0) := (blk_cell BK103.out 0).trans rfl; have hcz27_1 : w26.cell? ⟨gb103, 1, none⟩ = some (.slice A0_1 l0_1.length c0_1) := (blk_cell BK103.out 1).trans rfl; have hfz27_0 := blk_frozen BK103.out 0; have hfz27_1 := blk_frozen BK103.out 1) | (go_at_call 43; (with_reducible refine (spec_l01Is.calls a0_0 _ _ l0_1 false _ ?side1 ?side2 A3.out).mono ?_); (case side1 => repeat (first | exact (Kd.C_below HR0_1.out HB.out) | (with_reducible refine Kd.C_alloc ?_ _) | (with_reducible refine Kd.C_drewN ?_ _) | (with_reducible refine Kd.C_drew ?_))); (case side2 => exact HC0_1.out); rintro e w28 ⟨rfl, hb⟩; have n0_ := Aside0.mk (blk_below (g := gb103) (o := .cells #[.int .i64 a0_0, .slice A0_1 l0_1.length c0_1] 32 (0, 0)) (by (with_reducible repeat (first | refine blk_drewN ?_ _ | refine blk_drew ?_ | refine blk_alloc ?_ _)); exact BK103.out) hb); have n1_ := Aside0.mk (below_step (by repeat (first | (with_reducible first | exact HB.out | apply below_alloc | apply pw_below_drewN | apply below_drew1 | refine below_set ?_ GE103.out) | exact HB.out)) hb); clear BK103; clear HB; have BK103 := n0_; have HB := n1_; clear n0_ n1_; (try clear hb); (try clear hb2); (try clear hk); (try clear hi))))
  go_ret
  exact ⟨by first | rfl | (simp [errW_none, errW_some] <;> rfl) | (simp [*, errW_none, errW_some] <;> rfl), by repeat (first | (with_reducible first | exact HB.out | apply below_alloc | apply pw_below_drewN | apply below_drew1 | refine below_set ?_ GE103.out) | exact HB.out)⟩

end Go.Proofs.Ytgdmflmglkakgaa.Q

-- Printed by a program of this session (the kit's print, turned: printpatch.py) out of Lean's print of the translation. Lean checks it.
namespace Go.Proofs.Ytgdmflmglkakgaa.Q
open Go.RowKit Go.Proofs.YtgdmflmglkakgaaW.PrintWords Go.Proofs.YtgdmflmglkakgaaW.PrintLast Go.Proofs.YtgdmflmglkakgaaW.PrintMore
attribute [local go_sem] max2_int min2_int max_two min_two max_three min_three max_four min_four   -- for this text's walks alone
set_option linter.unusedVariables false
set_option linter.unusedSimpArgs false

/-! ### impl_setCode_at_impl_IsFilling_1: function 89 -/
def impl_setCode_at_impl_IsFilling_1.f (k : Nat) (a0_0 : Int) (l0_1 : List (S63)) (a1_0_0 : Int) (l1_0_1 : List (S63)) (l1_1_0 : List (List Int)) : Option (Int) := (impl_IsSet.f a0_0 l0_1).bind fun t159 => (if t159 = true then ((impl_IsFilling_1.f k a1_0_0 l1_0_1 l1_1_0).bind fun t160 => (if t160 = true then (some 0) else (some 2))) else (some 1))
theorem impl_setCode_at_impl_IsFilling_1.mono : ∀ a0 a1 a2 a3 a4 k, LeO (impl_setCode_at_impl_IsFilling_1.f k a0 a1 a2 a3 a4) (impl_setCode_at_impl_IsFilling_1.f (k + 1) a0 a1 a2 a3 a4) := by
 intro a0 a1 a2 a3 a4 k
 unfold impl_setCode_at_impl_IsFilling_1.f
 repeat' first
   | (with_reducible exact impl_IsFilling_1.mono _ _ _ _)
   | (with_reducible exact LeO.refl _)
   | (with_reducible exact LeO.none _)
   | (with_reducible refine LeO.ite ?_ ?_)
   | (with_reducible refine LeO.bind ?_ (fun _ => ?_))
   | exact impl_IsFilling_1.mono _ _ _ _
   | exact LeO.none _
   | refine LeO.ite ?_ ?_
   | refine LeO.bind ?_ (fun _ => ?_)
set_option maxHeartbeats 8000000 in
set_option maxRecDepth 100000 in
theorem impl_setCode_at_impl_IsFilling_1.calls (k : Nat) (a0_0 : Int) (A0_1 : Option Addr) (c0_1 : Nat) (l0_1 : List (S63)) (g1_0_ : Nat) (a1_0_0 : Int) (A1_0_1 : Option Addr) (c1_0_1 : Nat) (l1_0_1 : List (S63)) (g1_1_ : Nat) (A1_1_0 : Option Addr) (c1_1_0 : Nat) (l1_1_0 : List (List Int)) (r : Int) (w : World) (hr0_1 : Kd.C k63 w A0_1 l0_1.length l0_1) (hc0_1 : l0_1.length ≤ c0_1) (hr1_0_1 : Kd.C k63 w A1_0_1 l1_0_1.length l1_0_1) (hc1_0_1 : l1_0_1.length ≤ c1_0_1) (hr1_1_0 : Kd.C (Kd.slice 2 (Kd.int .i64)) w A1_1_0 l1_1_0.length l1_1_0) (hc1_1_0 : l1_1_0.length ≤ c1_1_0) (hb1_0_ : w.heap[g1_0_]? = some (.cells #[.int .i64 a1_0_0, .slice A1_0_1 l1_0_1.length c1_0_1] 32 (0, 0))) (hb1_1_ : w.heap[g1_1_]? = some (.cells #[.slice A1_1_0 l1_1_0.length c1_1_0] 25 (0, 0))) (h : impl_setCode_at_impl_IsFilling_1.f k a0_0 l0_1 a1_0_0 l1_0_1 l1_1_0 = some r) :
  Calls Try.prog 31 #[.agg #[.int .i64 a0_0, .slice A0_1 l0_1.length c0_1], .func (.func 32) #[] #[.pointer (some ⟨g1_0_, 0, none⟩), .pointer (some ⟨g1_1_, 0, none⟩)]] w fun e w' => e = .returned (.int .i64 r) ∧ Below w.heap.size w w' := by
 have hu32 := Try.underlying32
 have HR0_1 := Aside0.mk hr0_1
 have HC0_1 := Aside0.mk hc0_1
 clear hr0_1 hc0_1
 have HR1_0_1 := Aside0.mk hr1_0_1
 have HC1_0_1 := Aside0.mk hc1_0_1
 clear hr1_0_1 hc1_0_1
 have HR1_1_0 := Aside0.mk hr1_1_0
 have HC1_1_0 := Aside0.mk hc1_1_0
 clear hr1_1_0 hc1_1_0
 have BK90020 := Aside0.mk hb1_0_
 clear hb1_0_
 have BK90021 := Aside0.mk hb1_1_
 clear hb1_1_
 have HB := Aside0.mk (Below.refl w.heap.size w)
 have H : ((impl_IsSet.f a0_0 l0_1).bind fun t159 => (if t159 = true then ((impl_IsFilling_1.f k a1_0_0 l1_0_1 l1_1_0).bind fun t160 => (if t160 = true then (some 0) else (some 2))) else (some 1))) = some r := h
 clear h
 replace H := Option.bind_eq_some_iff.mp H
 obtain ⟨t159, A30, H⟩ := H
 replace H : (if t159 = true then ((impl_IsFilling_1.f k a1_0_0 l1_0_1 l1_1_0).bind fun t160 => (if t160 = true then (some 0) else (some 2))) else (some 1)) = some r := H
 have A3 := Aside0.mk A30
 clear A30
 by_cases c4 : t159 = true
 ·subst c4
  have H1 : ((impl_IsFilling_1.f k a1_0_0 l1_0_1 l1_1_0).bind fun t160 => (if t160 = true then (some 0) else (some 2))) = some r := by rw [if_pos rfl] at H; exact H
  clear H
  have H := H1
  clear H1
  replace H := Option.bind_eq_some_iff.mp H
  obtain ⟨t160, A50, H⟩ := H
  replace H : (if t160 = true then (some 0) else (some 2)) = some r := H
  have A5 := Aside0.mk A50
  clear A50
  by_cases c6 : t160 = true
  ·subst c6
   have H1 : (some 0) = some r := by rw [if_pos rfl] at H; exact H
   clear H
   have H := H1
   clear H1
   obtain rfl := Option.some.inj H
   go_enter Try.func31, Try.ntmps31
   go_wp2_with (first | ((with_reducible refine gate_dst (N := 2) rfl ?_); refine box_event ?hg (N := 2) ?hd (cs := #[.int .i64 a0_0, .slice A0_1 l0_1.length c0_1]) (t := 32) ?hr ?_; (case hd => rfl); (case hg => rfl); (case hr => first | (go_simp; done) | (go_simp; rfl)); intro gb158 hg w7 hbox hb; have n0_ := Aside0.mk (blk_below (g := g1_0_) (o := .cells #[.int .i64 a1_0_0, .slice A1_0_1 l1_0_1.length c1_0_1] 32 (0, 0)) (by (with_reducible repeat (first | refine blk_drewN ?_ _ | refine blk_drew ?_ | refine blk_alloc ?_ _)); exact BK90020.out) hb); have n1_ := Aside0.mk (blk_below (g := g1_1_) (o := .cells #[.slice A1_1_0 l1_1_0.length c1_1_0] 25 (0, 0)) (by (with_reducible repeat (first | refine blk_drewN ?_ _ | refine blk_drew ?_ | refine blk_alloc ?_ _)); exact BK90021.out) hb); have n2_ := Aside0.mk (below_step (by repeat (first | (with_reducible first | exact HB.out | apply below_alloc | apply pw_below_drewN | apply below_drew1) | exact HB.out)) hb); have n3_ := Aside0.mk (hbox); have n4_ := Aside0.mk ((by rw [hg]; exact (below_size (by repeat (first | (with_reducible first | exact HB.out | apply below_alloc | apply pw_below_drewN | apply below_drew1) | exact HB.out))) : w.heap.size ≤ gb158)); have n5_ := Aside0.mk ((by rw [hg]; exact (below_size (by repeat (first | (with_reducible first | exact HB.out | apply below_alloc | apply pw_below_drewN | apply below_drew1) | exact HB.out))) : w.heap.size ≤ gb158)); have n6_ := Aside0.mk ((by rw [hg]; exact Nat.ne_of_lt (blk_lt (g := g1_0_) (o := .cells #[.int .i64 a1_0_0, .slice A1_0_1 l1_0_1.length c1_0_1] 32 (0, 0)) (by (with_reducible repeat (first | refine blk_drewN ?_ _ | refine blk_drew ?_ | refine blk_alloc ?_ _)); exact BK90020.out)) : g1_0_ ≠ gb158)); have n7_ := Aside0.mk ((by rw [hg]; exact Nat.ne_of_gt (blk_lt (g := g1_0_) (o := .cells #[.int .i64 a1_0_0, .slice A1_0_1 l1_0_1.length c1_0_1] 32 (0, 0)) (by (with_reducible repeat (first | refine blk_drewN ?_ _ | refine blk_drew ?_ | refine blk_alloc ?_ _)); exact BK90020.out)) : gb158 ≠ g1_0_)); have n8_ := Aside0.mk ((by rw [hg]; exact Nat.ne_of_lt (blk_lt (g := g1_1_) (o := .cells #[.slice A1_1_0 l1_1_0.length c1_1_0] 25 (0, 0)) (by (with_reducible repeat (first | refine blk_drewN ?_ _ | refine blk_drew ?_ | refine blk_alloc ?_ _)); exact BK90021.out)) : g1_1_ ≠ gb158)); have n9_ := Aside0.mk ((by rw [hg]; exact Nat.ne_of_gt (blk_lt (g := g1_1_) (o := .cells #[.slice A1_1_0 l1_1_0.length c1_1_0] 25 (0, 0)) (by (with_reducible repeat (first | refine blk_drewN ?_ _ | refine blk_drew ?_ | refine blk_alloc ?_ _)); exact BK90021.out)) : gb158 ≠ g1_1_)); clear BK90020; clear BK90021; clear HB; have BK90020 := n0_; have BK90021 := n1_; have HB := n2_; have BK158 := n3_; have GW158 := n4_; have GE158 := n5_; have NB90020_158 := n6_; have NB158_90020 := n7_; have NB90021_158 := n8_; have NB158_90021 := n9_; clear n0_ n1_ n2_ n3_ n4_ n5_ n6_ n7_ n8_ n9_; clear hb hbox hg; have hnb8 := NB158_90020.out; have hnc8 := NB90020_158.out; have hnb9 := NB158_90021.out; have hnc9 := NB90021_158.out; have hcz10_0 : w7.cell? ⟨gb158, 0, none⟩ = some (.int .i64 a0_0) := (blk_cell BK158.out 0).trans rfl; have hcz10_1 : w7.cell? ⟨gb158, 1, none⟩ = some (.slice A0_1 l0_1.length c0_1) := (blk_cell BK158.out 1).trans rfl; have hfz10_0 := blk_frozen BK158.out 0; have hfz10_1 := blk_frozen BK158.out 1) | ((with_reducible refine gate_callee (f := 45) rfl ?_); refine goesL_ (some 7) rfl rfl Try.func45 (by kernel_rfl) rfl #[.agg #[.int .i64 a0_0, .slice A0_1 l0_1.length c0_1]] rfl (by (try simp only [List.map_toArray, List.map_cons, List.map_nil]); first | done | rfl | (simp only [List.length_drop, List.length_take]; rfl)) ?_; (with_reducible refine (impl_IsSet.calls a0_0 _ _ l0_1 true _ ?side1 ?side2 A3.out).mono ?_); (case side1 => repeat (first | exact (Kd.C_below HR0_1.out HB.out) | (with_reducible refine Kd.C_alloc ?_ _) | (with_reducible refine Kd.C_drewN ?_ _) | (with_reducible refine Kd.C_drew ?_))); (case side2 => exact HC0_1.out); rintro e w11 ⟨rfl, hb⟩; refine ⟨_, rfl, ?_⟩; have n0_ := Aside0.mk (blk_below (g := g1_0_) (o := .cells #[.int .i64 a1_0_0, .slice A1_0_1 l1_0_1.length c1_0_1] 32 (0, 0)) (by (with_reducible repeat (first | refine blk_drewN ?_ _ | refine blk_drew ?_ | refine blk_alloc ?_ _)); exact BK90020.out) hb); have n1_ := Aside0.mk (blk_below (g := g1_1_) (o := .cells #[.slice A1_1_0 l1_1_0.length c1_1_0] 25 (0, 0)) (by (with_reducible repeat (first | refine blk_drewN ?_ _ | refine blk_drew ?_ | refine blk_alloc ?_ _)); exact BK90021.out) hb); have n2_ := Aside0.mk (blk_below (g := gb158) (o := .cells #[.int .i64 a0_0, .slice A0_1 l0_1.length c0_1] 32 (0, 0)) (by (with_reducible repeat (first | refine blk_drewN ?_ _ | refine blk_drew ?_ | refine blk_alloc ?_ _)); exact BK158.out) hb); have n3_ := Aside0.mk (below_step (by repeat (first | (with_reducible first | exact HB.out | apply below_alloc | apply pw_below_drewN | apply below_drew1 | refine below_set ?_ GE158.out) | exact HB.out)) hb); clear BK90020; clear BK90021; clear BK158; clear HB; have BK90020 := n0_; have BK90021 := n1_; have BK158 := n2_; have HB := n3_; clear n0_ n1_ n2_ n3_; (try clear hb); (try clear hb2); (try clear hk); (try clear hi)))
   (with_reducible refine (impl_IsFilling_1.calls k g1_0_ a1_0_0 A1_0_1 c1_0_1 l1_0_1 g1_1_ A1_1_0 c1_1_0 l1_1_0 true _ ?side1_q13 ?side2_q13 ?side3_q13 ?side4_q13 ?side5_q13 ?side6_q13 A5.out).mono ?_); (case side1_q13 => repeat (first | exact (Kd.C_below HR1_0_1.out HB.out) | (with_reducible refine Kd.C_alloc ?_ _) | (with_reducible refine Kd.C_drewN ?_ _) | (with_reducible refine Kd.C_drew ?_))); (case side2_q13 => exact HC1_0_1.out); (case side3_q13 => repeat (first | exact (Kd.C_below HR1_1_0.out HB.out) | (with_reducible refine Kd.C_alloc ?_ _) | (with_reducible refine Kd.C_drewN ?_ _) | (with_reducible refine Kd.C_drew ?_))); (case side4_q13 => exact HC1_1_0.out); (case side5_q13 => exact (by (with_reducible repeat (first | refine blk_drewN ?_ _ | refine blk_drew ?_ | refine blk_alloc ?_ _)); exact BK90020.out)); (case side6_q13 => exact (by (with_reducible repeat (first | refine blk_drewN ?_ _ | refine blk_drew ?_ | refine blk_alloc ?_ _)); exact BK90021.out))
   rintro e w12 ⟨rfl, hb⟩
   have n0_ := Aside0.mk (blk_below (g := g1_0_) (o := .cells #[.int .i64 a1_0_0, .slice A1_0_1 l1_0_1.length c1_0_1] 32 (0, 0)) (by (with_reducible repeat (first | refine blk_drewN ?_ _ | refine blk_drew ?_ | refine blk_alloc ?_ _)); exact BK90020.out) hb)
   have n1_ := Aside0.mk (blk_below (g := g1_1_) (o := .cells #[.slice A1_1_0 l1_1_0.length c1_1_0] 25 (0, 0)) (by (with_reducible repeat (first | refine blk_drewN ?_ _ | refine blk_drew ?_ | refine blk_alloc ?_ _)); exact BK90021.out) hb)
   have n2_ := Aside0.mk (blk_below (g := gb158) (o := .cells #[.int .i64 a0_0, .slice A0_1 l0_1.length c0_1] 32 (0, 0)) (by (with_reducible repeat (first | refine blk_drewN ?_ _ | refine blk_drew ?_ | refine blk_alloc ?_ _)); exact BK158.out) hb)
   have n3_ := Aside0.mk (below_step (by repeat (first | (with_reducible first | exact HB.out | apply below_alloc | apply pw_below_drewN | apply below_drew1 | refine below_set ?_ GE158.out) | exact HB.out)) hb)
   clear BK90020
   clear BK90021
   clear BK158
   clear HB
   have BK90020 := n0_
   have BK90021 := n1_
   have BK158 := n2_
   have HB := n3_
   clear n0_ n1_ n2_ n3_
   (try clear hb)
   (try clear hb2)
   (try clear hk)
   (try clear hi)
   go_wp2_with fail
   go_ret
   exact ⟨by first | rfl | (simp [errW_none, errW_some] <;> rfl) | (simp [*, errW_none, errW_some] <;> rfl), by repeat (first | (with_reducible first | exact HB.out | apply below_alloc | apply pw_below_drewN | apply below_drew1 | refine below_set ?_ GE158.out) | exact HB.out)⟩
  ·replace c6 := Bool.eq_false_iff.mpr c6
   subst c6
   have H1 : (some 2) = some r := by rw [if_neg (show ¬ (false = true) by decide)] at H; exact H
   clear H
   have H := H1
   clear H1
   obtain rfl := Option.some.inj H
   go_enter Try.func31, Try.ntmps31
   go_wp2_with (first | ((with_reducible refine gate_dst (N := 2) rfl ?_); refine box_event ?hg (N := 2) ?hd (cs := #[.int .i64 a0_0, .slice A0_1 l0_1.length c0_1]) (t := 32) ?hr ?_; (case hd => rfl); (case hg => rfl); (case hr => first | (go_simp; done) | (go_simp; rfl)); intro gb158 hg w14 hbox hb; have n0_ := Aside0.mk (blk_below (g := g1_0_) (o := .cells #[.int .i64 a1_0_0, .slice A1_0_1 l1_0_1.length c1_0_1] 32 (0, 0)) (by (with_reducible repeat (first | refine blk_drewN ?_ _ | refine blk_drew ?_ | refine blk_alloc ?_ _)); exact BK90020.out) hb); have n1_ := Aside0.mk (blk_below (g := g1_1_) (o := .cells #[.slice A1_1_0 l1_1_0.length c1_1_0] 25 (0, 0)) (by (with_reducible repeat (first | refine blk_drewN ?_ _ | refine blk_drew ?_ | refine blk_alloc ?_ _)); exact BK90021.out) hb); have n2_ := Aside0.mk (below_step (by repeat (first | (with_reducible first | exact HB.out | apply below_alloc | apply pw_below_drewN | apply below_drew1) | exact HB.out)) hb); have n3_ := Aside0.mk (hbox); have n4_ := Aside0.mk ((by rw [hg]; exact (below_size (by repeat (first | (with_reducible first | exact HB.out | apply below_alloc | apply pw_below_drewN | apply below_drew1) | exact HB.out))) : w.heap.size ≤ gb158)); have n5_ := Aside0.mk ((by rw [hg]; exact (below_size (by repeat (first | (with_reducible first | exact HB.out | apply below_alloc | apply pw_below_drewN | apply below_drew1) | exact HB.out))) : w.heap.size ≤ gb158)); have n6_ := Aside0.mk ((by rw [hg]; exact Nat.ne_of_lt (blk_lt (g := g1_0_) (o := .cells #[.int .i64 a1_0_0, .slice A1_0_1 l1_0_1.length c1_0_1] 32 (0, 0)) (by (with_reducible repeat (first | refine blk_drewN ?_ _ | refine blk_drew ?_ | refine blk_alloc ?_ _)); exact BK90020.out)) : g1_0_ ≠ gb158)); have n7_ := Aside0.mk ((by rw [hg]; exact Nat.ne_of_gt (blk_lt (g := g1_0_) (o := .cells #[.int .i64 a1_0_0, .slice A1_0_1 l1_0_1.length c1_0_1] 32 (0, 0)) (by (with_reducible repeat (first | refine blk_drewN ?_ _ | refine blk_drew ?_ | refine blk_alloc ?_ _)); exact BK90020.out)) : gb158 ≠ g1_0_)); have n8_ := Aside0.mk ((by rw [hg]; exact Nat.ne_of_lt (blk_lt (g := g1_1_) (o := .cells #[.slice A1_1_0 l1_1_0.length c1_1_0] 25 (0, 0)) (by (with_reducible repeat (first | refine blk_drewN ?_ _ | refine blk_drew ?_ | refine blk_alloc ?_ _)); exact BK90021.out)) : g1_1_ ≠ gb158)); have n9_ := Aside0.mk ((by rw [hg]; exact Nat.ne_of_gt (blk_lt (g := g1_1_) (o := .cells #[.slice A1_1_0 l1_1_0.length c1_1_0] 25 (0, 0)) (by (with_reducible repeat (first | refine blk_drewN ?_ _ | refine blk_drew ?_ | refine blk_alloc ?_ _)); exact BK90021.out)) : gb158 ≠ g1_1_)); clear BK90020; clear BK90021; clear HB; have BK90020 := n0_; have BK90021 := n1_; have HB := n2_; have BK158 := n3_; have GW158 := n4_; have GE158 := n5_; have NB90020_158 := n6_; have NB158_90020 := n7_; have NB90021_158 := n8_; have NB158_90021 := n9_; clear n0_ n1_ n2_ n3_ n4_ n5_ n6_ n7_ n8_ n9_; clear hb hbox hg; have hnb15 := NB158_90020.out; have hnc15 := NB90020_158.out; have hnb16 := NB158_90021.out; have hnc16 := NB90021_158.out; have hcz17_0 : w14.cell? ⟨gb158, 0, none⟩ = some (.int .i64 a0_0) := (blk_cell BK158.out 0).trans rfl; have hcz17_1 : w14.cell? ⟨gb158, 1, none⟩ = some (.slice A0_1 l0_1.length c0_1) := (blk_cell BK158.out 1).trans rfl; have hfz17_0 := blk_frozen BK158.out 0; have hfz17_1 := blk_frozen BK158.out 1) | ((with_reducible refine gate_callee (f := 45) rfl ?_); refine goesL_ (some 7) rfl rfl Try.func45 (by kernel_rfl) rfl #[.agg #[.int .i64 a0_0, .slice A0_1 l0_1.length c0_1]] rfl (by (try simp only [List.map_toArray, List.map_cons, List.map_nil]); first | done | rfl | (simp only [List.length_drop, List.length_take]; rfl)) ?_; (with_reducible refine (impl_IsSet.calls a0_0 _ _ l0_1 true _ ?side1 ?side2 A3.out).mono ?_); (case side1 => repeat (first | exact (Kd.C_below HR0_1.out HB.out) | (with_reducible refine Kd.C_alloc ?_ _) | (with_reducible refine Kd.C_drewN ?_ _) | (with_reducible refine Kd.C_drew ?_))); (case side2 => exact HC0_1.out); rintro e w18 ⟨rfl, hb⟩; refine ⟨_, rfl, ?_⟩; have n0_ := Aside0.mk (blk_below (g := g1_0_) (o := .cells #[.int .i64 a1_0_0, .slice A1_0_1 l1_0_1.length c1_0_1] 32 (0, 0)) (by (with_reducible repeat (first | refine blk_drewN ?_ _ | refine blk_drew ?_ | refine blk_alloc ?_ _)); exact BK90020.out) hb); have n1_ := Aside0.mk (blk_below (g := g1_1_) (o := .cells #[.slice A1_1_0 l1_1_0.length c1_1_0] 25 (0, 0)) (by (with_reducible repeat (first | refine blk_drewN ?_ _ | refine blk_drew ?_ | refine blk_alloc ?_ _)); exact BK90021.out) hb); have n2_ := Aside0.mk (blk_below (g := gb158) (o := .cells #[.int .i64 a0_0, .slice A0_1 l0_1.length c0_1] 32 (0, 0)) (by (with_reducible repeat (first | refine blk_drewN ?_ _ | refine blk_drew ?_ | refine blk_alloc ?_ _)); exact BK158.out) hb); have n3_ := Aside0.mk (below_step (by repeat (first | (with_reducible first | exact HB.out | apply below_alloc | apply pw_below_drewN | apply below_drew1 | refine below_set ?_ GE158.out) | exact HB.out)) hb); clear BK90020; clear BK90021; clear BK158; clear HB; have BK90020 := n0_; have BK90021 := n1_; have BK158 := n2_; have HB := n3_; clear n0_ n1_ n2_ n3_; (try clear hb); (try clear hb2); (try clear hk); (try clear hi)))
   (with_reducible refine (impl_IsFilling_1.calls k g1_0_ a1_0_0 A1_0_1 c1_0_1 l1_0_1 g1_1_ A1_1_0 c1_1_0 l1_1_0 false _ ?side1_q20 ?side2_q20 ?side3_q20 ?side4_q20 ?side5_q20 ?side6_q20 A5.out).mono ?_); (case side1_q20 => repeat (first | exact (Kd.C_below HR1_0_1.out HB.out) | (with_reducible refine Kd.C_alloc ?_ _) | (with_reducible refine Kd.C_drewN ?_ _) | (with_reducible refine Kd.C_drew ?_))); (case side2_q20 => exact HC1_0_1.out); (case side3_q20 => repeat (first | exact (Kd.C_below HR1_1_0.out HB.out) | (with_reducible refine Kd.C_alloc ?_ _) | (with_reducible refine Kd.C_drewN ?_ _) | (with_reducible refine Kd.C_drew ?_))); (case side4_q20 => exact HC1_1_0.out); (case side5_q20 => exact (by (with_reducible repeat (first | refine blk_drewN ?_ _ | refine blk_drew ?_ | refine blk_alloc ?_ _)); exact BK90020.out)); (case side6_q20 => exact (by (with_reducible repeat (first | refine blk_drewN ?_ _ | refine blk_drew ?_ | refine blk_alloc ?_ _)); exact BK90021.out))
   rintro e w19 ⟨rfl, hb⟩
   have n0_ := Aside0.mk (blk_below (g := g1_0_) (o := .cells #[.int .i64 a1_0_0, .slice A1_0_1 l1_0_1.length c1_0_1] 32 (0, 0)) (by (with_reducible repeat (first | refine blk_drewN ?_ _ | refine blk_drew ?_ | refine blk_alloc ?_ _)); exact BK90020.out) hb)
   have n1_ := Aside0.mk (blk_below (g := g1_1_) (o := .cells #[.slice A1_1_0 l1_1_0.length c1_1_0] 25 (0, 0)) (by (with_reducible repeat (first | refine blk_drewN ?_ _ | refine blk_drew ?_ | refine blk_alloc ?_ _)); exact BK90021.out) hb)
   have n2_ := Aside0.mk (blk_below (g := gb158) (o := .cells #[.int .i64 a0_0, .slice A0_1 l0_1.length c0_1] 32 (0, 0)) (by (with_reducible repeat (first | refine blk_drewN ?_ _ | refine blk_drew ?_ | refine blk_alloc ?_ _)); exact BK158.out) hb)
   have n3_ := Aside0.mk (below_step (by repeat (first | (with_reducible first | exact HB.out | apply below_alloc | apply pw_below_drewN | apply below_drew1 | refine below_set ?_ GE158.out) | exact HB.out)) hb)
   clear BK90020
   clear BK90021
   clear BK158
   clear HB
   have BK90020 := n0_
   have BK90021 := n1_
   have BK158 := n2_
   have HB := n3_
   clear n0_ n1_ n2_ n3_
   (try clear hb)
   (try clear hb2)
   (try clear hk)
   (try clear hi)
   go_wp2_with fail
   go_ret
   exact ⟨by first | rfl | (simp [errW_none, errW_some] <;> rfl) | (simp [*, errW_none, errW_some] <;> rfl), by repeat (first | (with_reducible first | exact HB.out | apply below_alloc | apply pw_below_drewN | apply below_drew1 | refine below_set ?_ GE158.out) | exact HB.out)⟩
 ·replace c4 := Bool.eq_false_iff.mpr c4
  subst c4
  have H1 : (some 1) = some r := by rw [if_neg (show ¬ (false = true) by decide)] at H; exact H
  clear H
  have H := H1
  clear H1
  obtain rfl := Option.some.inj H
  go_enter Try.func31, Try.ntmps31
  go_wp2_with (first | ((with_reducible refine gate_dst (N := 2) rfl ?_); refine box_event ?hg (N := 2) ?hd (cs := #[.int .i64 a0_0, .slice A0_1 l0_1.length c0_1]) (t := 32) ?hr ?_; (case hd => rfl); (case hg => rfl); (case hr => first | (go_simp; done) | (go_simp; rfl)); intro gb158 hg w21 hbox hb; have n0_ := Aside0.mk (blk_below (g := g1_0_) (o := .cells #[.int .i64 a1_0_0, .slice A1_0_1 l1_0_1.length c1_0_1] 32 (0, 0)) (by (with_reducible repeat (first | refine blk_drewN ?_ _ | refine blk_drew ?_ | refine blk_alloc ?_ _)); exact BK90020.out) hb); have n1_ := Aside0.mk (blk_below (g := g1_1_) (o := .cells #[.slice A1_1_0 l1_1_0.length c1_1_0] 25 (0, 0)) (by (with_reducible repeat (first | refine blk_drewN ?_ _ | refine blk_drew ?_ | refine blk_alloc ?_ _)); exact BK90021.out) hb); have n2_ := Aside0.mk (below_step (by repeat (first | (with_reducible first | exact HB.out | apply below_alloc | apply pw_below_drewN | apply below_drew1) | exact HB.out)) hb); have n3_ := Aside0.mk (hbox); have n4_ := Aside0.mk ((by rw [hg]; exact (below_size (by repeat (first | (with_reducible first | exact HB.out | apply below_alloc | apply pw_below_drewN | apply below_drew1) | exact HB.out))) : w.heap.size ≤ gb158)); have n5_ := Aside0.mk ((by rw [hg]; exact (below_size (by repeat (first | (with_reducible first | exact HB.out | apply below_alloc | apply pw_below_drewN | apply below_drew1) | exact HB.out))) : w.heap.size ≤ gb158)); have n6_ := Aside0.mk ((by rw [hg]; exact Nat.ne_of_lt (blk_lt (g := g1_0_) (o := .cells #[.int .i64 a1_0_0, .slice A1_0_1 l1_0_1.length c1_0_1] 32 (0, 0)) (by (with_reducible repeat (first | refine blk_drewN ?_ _ | refine blk_drew ?_ | refine blk_alloc ?_ _)); exact BK90020.out)) : g1_0_ ≠ gb158)); have n7_ := Aside0.mk ((by rw [hg]; exact Nat.ne_of_gt (blk_lt (g := g1_0_) (o := .cells #[.int .i64 a1_0_0, .slice A1_0_1 l1_0_1.length c1_0_1] 32 (0, 0)) (by (with_reducible repeat (first | refine blk_drewN ?_ _ | refine blk_drew ?_ | refine blk_alloc ?_ _)); exact BK90020.out)) : gb158 ≠ g1_0_)); have n8_ := Aside0.mk ((by rw [hg]; exact Nat.ne_of_lt (blk_lt (g := g1_1_) (o := .cells #[.slice A1_1_0 l1_1_0.length c1_1_0] 25 (0, 0)) (by (with_reducible repeat (first | refine blk_drewN ?_ _ | refine blk_drew ?_ | refine blk_alloc ?_ _)); exact BK90021.out)) : g1_1_ ≠ gb158)); have n9_ := Aside0.mk ((by rw [hg]; exact Nat.ne_of_gt (blk_lt (g := g1_1_) (o := .cells #[.slice A1_1_0 l1_1_0.length c1_1_0] 25 (0, 0)) (by (with_reducible repeat (first | refine blk_drewN ?_ _ | refine blk_drew ?_ | refine blk_alloc ?_ _)); exact BK90021.out)) : gb158 ≠ g1_1_)); clear BK90020; clear BK90021; clear HB; have BK90020 := n0_; have BK90021 := n1_; have HB := n2_; have BK158 := n3_; have GW158 := n4_; have GE158 := n5_; have NB90020_158 := n6_; have NB158_90020 := n7_; have NB90021_158 := n8_; have NB158_90021 := n9_; clear n0_ n1_ n2_ n3_ n4_ n5_ n6_ n7_ n8_ n9_; clear hb hbox hg; have hnb22 := NB158_90020.out; have hnc22 := NB90020_158.out; have hnb23 := NB158_90021.out; have hnc23 := NB90021_158.out; have hcz24_0 : w21.cell? ⟨gb158, 0, none⟩ = some (.int .i64 a0_0) := (blk_cell BK158.out 0).trans rfl; have hcz24_1 : w21.cell? ⟨gb158, 1, none⟩ = some (.slice A0_1 l0_1.length c0_1) := (blk_cell BK158.out 1).trans rfl; have hfz24_0 := blk_frozen BK158.out 0; have hfz24_1 := blk_frozen BK158.out 1) | ((with_reducible refine gate_callee (f := 45) rfl ?_); refine goesL_ (some 7) rfl rfl Try.func45 (by kernel_rfl) rfl #[.agg #[.int .i64 a0_0, .slice A0_1 l0_1.length c0_1]] rfl (by (try simp only [List.map_toArray, List.map_cons, List.map_nil]); first | done | rfl | (simp only [List.length_drop, List.length_take]; rfl)) ?_; (with_reducible refine (impl_IsSet.calls a0_0 _ _ l0_1 false _ ?side1 ?side2 A3.out).mono ?_); (case side1 => repeat (first | exact (Kd.C_below HR0_1.out HB.out) | (with_reducible refine Kd.C_alloc ?_ _) | (with_reducible refine Kd.C_drewN ?_ _) | (with_reducible refine Kd.C_drew ?_))); (case side2 => exact HC0_1.out); rintro e w25 ⟨rfl, hb⟩; refine ⟨_, rfl, ?_⟩; have n0_ := Aside0.mk (blk_below (g := g1_0_) (o := .cells #[.int .i64 a1_0_0, .slice A1_0_1 l1_0_1.length c1_0_1] 32 (0, 0)) (by (with_reducible repeat (first | refine blk_drewN ?_ _ | refine blk_drew ?_ | refine blk_alloc ?_ _)); exact BK90020.out) hb); have n1_ := Aside0.mk (blk_below (g := g1_1_) (o := .cells #[.slice A1_1_0 l1_1_0.length c1_1_0] 25 (0, 0)) (by (with_reducible repeat (first | refine blk_drewN ?_ _ | refine blk_drew ?_ | refine blk_alloc ?_ _)); exact BK90021.out) hb); have n2_ := Aside0.mk (blk_below (g := gb158) (o := .cells #[.int .i64 a0_0, .slice A0_1 l0_1.length c0_1] 32 (0, 0)) (by (with_reducible repeat (first | refine blk_drewN ?_ _ | refine blk_drew ?_ | refine blk_alloc ?_ _)); exact BK158.out) hb); have n3_ := Aside0.mk (below_step (by repeat (first | (with_reducible first | exact HB.out | apply below_alloc | apply pw_below_drewN | apply below_drew1 | refine below_set ?_ GE158.out) | exact HB.out)) hb); clear BK90020; clear BK90021; clear BK158; clear HB; have BK90020 := n0_; have BK90021 := n1_; have BK158 := n2_; have HB := n3_; clear n0_ n1_ n2_ n3_; (try clear hb); (try clear hb2); (try clear hk); (try clear hi)))
  go_ret
  exact ⟨by first | rfl | (simp [errW_none, errW_some] <;> rfl) | (simp [*, errW_none, errW_some] <;> rfl), by repeat (first | (with_reducible first | exact HB.out | apply below_alloc | apply pw_below_drewN | apply below_drew1 | refine below_set ?_ GE158.out) | exact HB.out)⟩

end Go.Proofs.Ytgdmflmglkakgaa.Q

-- Printed by a program of this session (the kit's print, turned: printpatch.py) out of Lean's print of the translation. Lean checks it.
namespace Go.Proofs.Ytgdmflmglkakgaa.Q
open Go.RowKit Go.Proofs.YtgdmflmglkakgaaW.PrintWords Go.Proofs.YtgdmflmglkakgaaW.PrintLast Go.Proofs.YtgdmflmglkakgaaW.PrintMore
attribute [local go_sem] max2_int min2_int max_two min_two max_three min_three max_four min_four   -- for this text's walks alone
set_option linter.unusedVariables false
set_option linter.unusedSimpArgs false

/-! ### impl_IsFilling: function 12 -/
def impl_IsFilling.f (k : Nat) (a0_0 : Int) (l0_1 : List (S63)) (l1 : List (List Int)) : Option (Bool × Int) := (impl_setCode_at_impl_IsFilling_1.f k a0_0 l0_1 a0_0 l0_1 l1).bind fun t163 => (if t163 = 0 then ((impl_Set_isFilling.f k a0_0 l0_1 l1).bind fun t164 => (some (t164, 0))) else (some (false, t163)))
theorem impl_IsFilling.mono : ∀ a0 a1 a2 k, LeO (impl_IsFilling.f k a0 a1 a2) (impl_IsFilling.f (k + 1) a0 a1 a2) := by
 intro a0 a1 a2 k
 unfold impl_IsFilling.f
 repeat' first
   | (with_reducible exact impl_Set_isFilling.mono _ _ _ _)
   | (with_reducible exact impl_setCode_at_impl_IsFilling_1.mono _ _ _ _ _ _)
   | (with_reducible exact LeO.refl _)
   | (with_reducible exact LeO.none _)
   | (with_reducible refine LeO.ite ?_ ?_)
   | (with_reducible refine LeO.bind ?_ (fun _ => ?_))
   | exact impl_Set_isFilling.mono _ _ _ _
   | exact impl_setCode_at_impl_IsFilling_1.mono _ _ _ _ _ _
   | exact LeO.none _
   | refine LeO.ite ?_ ?_
   | refine LeO.bind ?_ (fun _ => ?_)
set_option maxHeartbeats 8000000 in
set_option maxRecDepth 100000 in
theorem impl_IsFilling.calls (k : Nat) (a0_0 : Int) (A0_1 : Option Addr) (c0_1 : Nat) (l0_1 : List (S63)) (A1 : Option Addr) (c1 : Nat) (l1 : List (List Int)) (r1 : Bool) (r2 : Int) (w : World) (hr0_1 : Kd.C k63 w A0_1 l0_1.length l0_1) (hc0_1 : l0_1.length ≤ c0_1) (hr1 : Kd.C (Kd.slice 2 (Kd.int .i64)) w A1 l1.length l1) (hc1 : l1.length ≤ c1) (h : impl_IsFilling.f k a0_0 l0_1 l1 = some (r1, r2)) :
  Calls Try.prog 12 #[.agg #[.int .i64 a0_0, .slice A0_1 l0_1.length c0_1], .slice A1 l1.length c1] w fun e w' => e = .returned (.tuple #[.bool r1, .int .i64 r2]) ∧ Below w.heap.size w w' := by
 have hu32 := Try.underlying32
 have HR0_1 := Aside0.mk hr0_1
 have HC0_1 := Aside0.mk hc0_1
 clear hr0_1 hc0_1
 have HR1 := Aside0.mk hr1
 have HC1 := Aside0.mk hc1
 clear hr1 hc1
 have HB := Aside0.mk (Below.refl w.heap.size w)
 have H : ((impl_setCode_at_impl_IsFilling_1.f k a0_0 l0_1 a0_0 l0_1 l1).bind fun t163 => (if t163 = 0 then ((impl_Set_isFilling.f k a0_0 l0_1 l1).bind fun t164 => (some (t164, 0))) else (some (false, t163)))) = some (r1, r2) := h
 clear h
 replace H := Option.bind_eq_some_iff.mp H
 obtain ⟨t163, A30, H⟩ := H
 replace H : (if t163 = 0 then ((impl_Set_isFilling.f k a0_0 l0_1 l1).bind fun t164 => (some (t164, 0))) else (some (false, t163))) = some (r1, r2) := H
 have A3 := Aside0.mk A30
 clear A30
 by_cases c4 : t163 = 0
 ·rw [if_pos c4] at H
  have c4b0 : (t163 == 0) = true := beq_iff_eq.mpr c4
  have c4b1 : (t163 != 0) = false := bne_eq_false_iff_eq.mpr c4
  clear c4
  replace H := Option.bind_eq_some_iff.mp H
  obtain ⟨t164, A50, H⟩ := H
  replace H : (some (t164, 0)) = some (r1, r2) := H
  have A5 := Aside0.mk A50
  clear A50
  simp only [Option.some.injEq, Prod.mk.injEq] at H
  obtain ⟨rfl, rfl⟩ := H
  go_enter Try.func12, Try.ntmps12
  go_wp2_with (first | ((with_reducible refine gate_dst (N := 2) rfl ?_); refine box_event ?hg (N := 2) ?hd (cs := #[.int .i64 a0_0, .slice A0_1 l0_1.length c0_1]) (t := 32) ?hr ?_; (case hd => rfl); (case hg => rfl); (case hr => first | (go_simp; done) | (go_simp; rfl)); intro gb161 hg w6 hbox hb; have n0_ := Aside0.mk (below_step (by repeat (first | (with_reducible first | exact HB.out | apply below_alloc | apply pw_below_drewN | apply below_drew1) | exact HB.out)) hb); have n1_ := Aside0.mk (hbox); have n2_ := Aside0.mk ((by rw [hg]; exact (below_size (by repeat (first | (with_reducible first | exact HB.out | apply below_alloc | apply pw_below_drewN | apply below_drew1) | exact HB.out))) : w.heap.size ≤ gb161)); have n3_ := Aside0.mk ((by rw [hg]; exact (below_size (by repeat (first | (with_reducible first | exact HB.out | apply below_alloc | apply pw_below_drewN | apply below_drew1) | exact HB.out))) : w.heap.size ≤ gb161)); clear HB; have HB := n0_; have BK161 := n1_; have GW161 := n2_; have GE161 := n3_; clear n0_ n1_ n2_ n3_; clear hb hbox hg) | ((with_reducible refine gate_dst (N := 3) rfl ?_); refine box_event ?hg (N := 3) ?hd (cs := #[.slice A1 l1.length c1]) (t := 25) ?hr ?_; (case hd => rfl); (case hg => rfl); (case hr => first | (go_simp; done) | (go_simp; rfl)); intro gb162 hg w7 hbox hb; have n0_ := Aside0.mk (blk_below (g := gb161) (o := .cells #[.int .i64 a0_0, .slice A0_1 l0_1.length c0_1] 32 (0, 0)) (by (with_reducible repeat (first | refine blk_drewN ?_ _ | refine blk_drew ?_ | refine blk_alloc ?_ _)); exact BK161.out) hb); have n1_ := Aside0.mk (below_step (by repeat (first | (with_reducible first | exact HB.out | apply below_alloc | apply pw_below_drewN | apply below_drew1 | refine below_set ?_ GE161.out) | exact HB.out)) hb); have n2_ := Aside0.mk (hbox); have n3_ := Aside0.mk ((by rw [hg]; exact (below_size (by repeat (first | (with_reducible first | exact HB.out | apply below_alloc | apply pw_below_drewN | apply below_drew1 | refine below_set ?_ GE161.out) | exact HB.out))) : w.heap.size ≤ gb162)); have n4_ := Aside0.mk ((by rw [hg]; exact (below_size (by repeat (first | (with_reducible first | exact HB.out | apply below_alloc | apply pw_below_drewN | apply below_drew1 | refine below_set ?_ GE161.out) | exact HB.out))) : w.heap.size ≤ gb162)); have n5_ := Aside0.mk ((by rw [hg]; exact Nat.ne_of_lt (blk_lt (g := gb161) (o := .cells #[.int .i64 a0_0, .slice A0_1 l0_1.length c0_1] 32 (0, 0)) (by (with_reducible repeat (first | refine blk_drewN ?_ _ | refine blk_drew ?_ | refine blk_alloc ?_ _)); exact BK161.out)) : gb161 ≠ gb162)); have n6_ := Aside0.mk ((by rw [hg]; exact Nat.ne_of_gt (blk_lt (g := gb161) (o := .cells #[.int .i64 a0_0, .slice A0_1 l0_1.length c0_1] 32 (0, 0)) (by (with_reducible repeat (first | refine blk_drewN ?_ _ | refine blk_drew ?_ | refine blk_alloc ?_ _)); exact BK161.out)) : gb162 ≠ gb161)); clear BK161; clear HB; have BK161 := n0_; have HB := n1_; have BK162 := n2_; have GW162 := n3_; have GE162 := n4_; have NB161_162 := n5_; have NB162_161 := n6_; clear n0_ n1_ n2_ n3_ n4_ n5_ n6_; clear hb hbox hg; have hnb8 := NB161_162.out; have hnc8 := NB162_161.out; have hcz9_0 : w7.cell? ⟨gb161, 0, none⟩ = some (.int .i64 a0_0) := (blk_cell BK161.out 0).trans rfl; have hcz9_1 : w7.cell? ⟨gb161, 1, none⟩ = some (.slice A0_1 l0_1.length c0_1) := (blk_cell BK161.out 1).trans rfl; have hfz9_0 := blk_frozen BK161.out 0; have hfz9_1 := blk_frozen BK161.out 1) | ((with_reducible refine gate_callee (f := 31) rfl ?_); refine goesL_ (some 9) rfl rfl Try.func31 (by kernel_rfl) rfl #[.agg #[.int .i64 a0_0, .slice A0_1 l0_1.length c0_1], .func (.func 32) #[] #[.pointer (some ⟨gb161, 0, none⟩), .pointer (some ⟨gb162, 0, none⟩)]] rfl (by (try simp only [List.map_toArray, List.map_cons, List.map_nil]); first | done | rfl | (simp only [List.length_drop, List.length_take]; rfl)) ?_; (with_reducible refine (impl_setCode_at_impl_IsFilling_1.calls k a0_0 _ _ l0_1 gb161 a0_0 A0_1 c0_1 l0_1 gb162 A1 c1 l1 t163 _ ?side1 ?side2 ?side3 ?side4 ?side5 ?side6 ?side7 ?side8 A3.out).mono ?_); (case side1 => repeat (first | exact (Kd.C_below HR0_1.out HB.out) | (with_reducible refine Kd.C_alloc ?_ _) | (with_reducible refine Kd.C_drewN ?_ _) | (with_reducible refine Kd.C_drew ?_))); (case side2 => exact HC0_1.out); (case side3 => repeat (first | exact (Kd.C_below HR0_1.out HB.out) | (with_reducible refine Kd.C_alloc ?_ _) | (with_reducible refine Kd.C_drewN ?_ _) | (with_reducible refine Kd.C_drew ?_))); (case side4 => exact HC0_1.out); (case side5 => repeat (first | exact (Kd.C_below HR1.out HB.out) | (with_reducible refine Kd.C_alloc ?_ _) | (with_reducible refine Kd.C_drewN ?_ _) | (with_reducible refine Kd.C_drew ?_))); (case side6 => exact HC1.out); (case side7 => exact (by (with_reducible repeat (first | refine blk_drewN ?_ _ | refine blk_drew ?_ | refine blk_alloc ?_ _)); exact BK161.out)); (case side8 => exact (by (with_reducible repeat (first | refine blk_drewN ?_ _ | refine blk_drew ?_ | refine blk_alloc ?_ _)); exact BK162.out)); rintro e w10 ⟨rfl, hb⟩; refine ⟨_, rfl, ?_⟩; have n0_ := Aside0.mk (blk_below (g := gb161) (o := .cells #[.int .i64 a0_0, .slice A0_1 l0_1.length c0_1] 32 (0, 0)) (by (with_reducible repeat (first | refine blk_drewN ?_ _ | refine blk_drew ?_ | refine blk_alloc ?_ _)); exact BK161.out) hb); have n1_ := Aside0.mk (blk_below (g := gb162) (o := .cells #[.slice A1 l1.length c1] 25 (0, 0)) (by (with_reducible repeat (first | refine blk_drewN ?_ _ | refine blk_drew ?_ | refine blk_alloc ?_ _)); exact BK162.out) hb); have n2_ := Aside0.mk (below_step (by repeat (first | (with_reducible first | exact HB.out | apply below_alloc | apply pw_below_drewN | apply below_drew1 | refine below_set ?_ GE161.out | refine below_set ?_ GE162.out) | exact HB.out)) hb); clear BK161; clear BK162; clear HB; have BK161 := n0_; have BK162 := n1_; have HB := n2_; clear n0_ n1_ n2_; (try clear hb); (try clear hb2); (try clear hk); (try clear hi); have hcz11_0 : w10.cell? ⟨gb161, 0, none⟩ = some (.int .i64 a0_0) := (blk_cell BK161.out 0).trans rfl; have hcz11_1 : w10.cell? ⟨gb161, 1, none⟩ = some (.slice A0_1 l0_1.length c0_1) := (blk_cell BK161.out 1).trans rfl; have hfz11_0 := blk_frozen BK161.out 0; have hfz11_1 := blk_frozen BK161.out 1; have hcz12_0 : w10.cell? ⟨gb162, 0, none⟩ = some (.slice A1 l1.length c1) := (blk_cell BK162.out 0).trans rfl; have hfz12_0 := blk_frozen BK162.out 0) | ((with_reducible refine gate_callee (f := 34) rfl ?_); refine goesL_ (some 15) rfl rfl Try.func34 (by kernel_rfl) rfl #[.agg #[.int .i64 a0_0, .slice A0_1 l0_1.length c0_1], .slice A1 l1.length c1] rfl (by (try simp only [List.map_toArray, List.map_cons, List.map_nil]); first | done | rfl | (simp only [List.length_drop, List.length_take]; rfl)) ?_; (with_reducible refine (impl_Set_isFilling.calls k a0_0 _ _ l0_1 _ _ l1 t164 _ ?side1 ?side2 ?side3 ?side4 A5.out).mono ?_); (case side1 => repeat (first | exact (Kd.C_below HR0_1.out HB.out) | (with_reducible refine Kd.C_alloc ?_ _) | (with_reducible refine Kd.C_drewN ?_ _) | (with_reducible refine Kd.C_drew ?_))); (case side2 => exact HC0_1.out); (case side3 => repeat (first | exact (Kd.C_below HR1.out HB.out) | (with_reducible refine Kd.C_alloc ?_ _) | (with_reducible refine Kd.C_drewN ?_ _) | (with_reducible refine Kd.C_drew ?_))); (case side4 => exact HC1.out); rintro e w13 ⟨rfl, hb⟩; refine ⟨_, rfl, ?_⟩; have n0_ := Aside0.mk (blk_below (g := gb161) (o := .cells #[.int .i64 a0_0, .slice A0_1 l0_1.length c0_1] 32 (0, 0)) (by (with_reducible repeat (first | refine blk_drewN ?_ _ | refine blk_drew ?_ | refine blk_alloc ?_ _)); exact BK161.out) hb); have n1_ := Aside0.mk (blk_below (g := gb162) (o := .cells #[.slice A1 l1.length c1] 25 (0, 0)) (by (with_reducible repeat (first | refine blk_drewN ?_ _ | refine blk_drew ?_ | refine blk_alloc ?_ _)); exact BK162.out) hb); have n2_ := Aside0.mk (below_step (by repeat (first | (with_reducible first | exact HB.out | apply below_alloc | apply pw_below_drewN | apply below_drew1 | refine below_set ?_ GE161.out | refine below_set ?_ GE162.out) | exact HB.out)) hb); clear BK161; clear BK162; clear HB; have BK161 := n0_; have BK162 := n1_; have HB := n2_; clear n0_ n1_ n2_; (try clear hb); (try clear hb2); (try clear hk); (try clear hi)))
  go_ret2
  exact ⟨by first | rfl | (simp [errW_none, errW_some] <;> rfl) | (simp [*, errW_none, errW_some] <;> rfl), by repeat (first | (with_reducible first | exact HB.out | apply below_alloc | apply pw_below_drewN | apply below_drew1 | refine below_set ?_ GE161.out | refine below_set ?_ GE162.out) | exact HB.out)⟩
 ·rw [if_neg c4] at H
  have c4b0 : (t163 == 0) = false := beq_eq_false_iff_ne.mpr c4
  have c4b1 : (t163 != 0) = true := bne_iff_ne.mpr c4
  simp only [Option.some.injEq, Prod.mk.injEq] at H
  obtain ⟨rfl, rfl⟩ := H
  go_enter Try.func12, Try.ntmps12
  go_wp2_with (first | ((with_reducible refine gate_dst (N := 2) rfl ?_); refine box_event ?hg (N := 2) ?hd (cs := #[.int .i64 a0_0, .slice A0_1 l0_1.length c0_1]) (t := 32) ?hr ?_; (case hd => rfl); (case hg => rfl); (case hr => first | (go_simp; done) | (go_simp; rfl)); intro gb161 hg w14 hbox hb; have n0_ := Aside0.mk (below_step (by repeat (first | (with_reducible first | exact HB.out | apply below_alloc | apply pw_below_drewN | apply below_drew1) | exact HB.out)) hb); have n1_ := Aside0.mk (hbox); have n2_ := Aside0.mk ((by rw [hg]; exact (below_size (by repeat (first | (with_reducible first | exact HB.out | apply below_alloc | apply pw_below_drewN | apply below_drew1) | exact HB.out))) : w.heap.size ≤ gb161)); have n3_ := Aside0.mk ((by rw [hg]; exact (below_size (by repeat (first | (with_reducible first | exact HB.out | apply below_alloc | apply pw_below_drewN | apply below_drew1) | exact HB.out))) : w.heap.size ≤ gb161)); clear HB; have HB := n0_; have BK161 := n1_; have GW161 := n2_; have GE161 := n3_; clear n0_ n1_ n2_ n3_; clear hb hbox hg) | ((with_reducible refine gate_dst (N := 3) rfl ?_); refine box_event ?hg (N := 3) ?hd (cs := #[.slice A1 l1.length c1]) (t := 25) ?hr ?_; (case hd => rfl); (case hg => rfl); (case hr => first | (go_simp; done) | (go_simp; rfl)); intro gb162 hg w15 hbox hb; have n0_ := Aside0.mk (blk_below (g := gb161) (o := .cells #[.int .i64 a0_0, .slice A0_1 l0_1.length c0_1] 32 (0, 0)) (by (with_reducible repeat (first | refine blk_drewN ?_ _ | refine blk_drew ?_ | refine blk_alloc ?_ _)); exact BK161.out) hb); have n1_ := Aside0.mk (below_step (by repeat (first | (with_reducible first | exact HB.out | apply below_alloc | apply pw_below_drewN | apply below_drew1 | refine below_set ?_ GE161.out) | exact HB.out)) hb); have n2_ := Aside0.mk (hbox); have n3_ := Aside0.mk ((by rw [hg]; exact (below_size (by repeat (first | (with_reducible first | exact HB.out | apply below_alloc | apply pw_below_drewN | apply below_drew1 | refine below_set ?_ GE161.out) | exact HB.out))) : w.heap.size ≤ gb162)); have n4_ := Aside0.mk ((by rw [hg]; exact (below_size (by repeat (first | (with_reducible first | exact HB.out | apply below_alloc | apply pw_below_drewN | apply below_drew1 | refine below_set ?_ GE161.out) | exact HB.out))) : w.heap.size ≤ gb162)); have n5_ := Aside0.mk ((by rw [hg]; exact Nat.ne_of_lt (blk_lt (g := gb161) (o := .cells #[.int .i64 a0_0, .slice A0_1 l0_1.length c0_1] 32 (0, 0)) (by (with_reducible repeat (first | refine blk_drewN ?_ _ | refine blk_drew ?_ | refine blk_alloc ?_ _)); exact BK161.out)) : gb161 ≠ gb162)); have n6_ := Aside0.mk ((by rw [hg]; exact Nat.ne_of_gt (blk_lt (g := gb161) (o := .cells #[.int .i64 a0_0, .slice A0_1 l0_1.length c0_1] 32 (0, 0)) (by (with_reducible repeat (first | refine blk_drewN ?_ _ | refine blk_drew ?_ | refine blk_alloc ?_ _)); exact BK161.out)) : gb162 ≠ gb161)); clear BK161; clear HB; have BK161 := n0_; have HB := n1_; have BK162 := n2_; have GW162 := n3_; have GE162 := n4_; have NB161_162 := n5_; have NB162_161 := n6_; clear n0_ n1_ n2_ n3_ n4_ n5_ n6_; clear hb hbox hg; have hnb16 := NB161_162.out; have hnc16 := NB162_161.out; have hcz17_0 : w15.cell? ⟨gb161, 0, none⟩ = some (.int .i64 a0_0) := (blk_cell BK161.out 0).trans rfl; have hcz17_1 : w15.cell? ⟨gb161, 1, none⟩ = some (.slice A0_1 l0_1.length c0_1) := (blk_cell BK161.out 1).trans rfl; have hfz17_0 := blk_frozen BK161.out 0; have hfz17_1 := blk_frozen BK161.out 1) | ((with_reducible refine gate_callee (f := 31) rfl ?_); refine goesL_ (some 9) rfl rfl Try.func31 (by kernel_rfl) rfl #[.agg #[.int .i64 a0_0, .slice A0_1 l0_1.length c0_1], .func (.func 32) #[] #[.pointer (some ⟨gb161, 0, none⟩), .pointer (some ⟨gb162, 0, none⟩)]] rfl (by (try simp only [List.map_toArray, List.map_cons, List.map_nil]); first | done | rfl | (simp only [List.length_drop, List.length_take]; rfl)) ?_; (with_reducible refine (impl_setCode_at_impl_IsFilling_1.calls k a0_0 _ _ l0_1 gb161 a0_0 A0_1 c0_1 l0_1 gb162 A1 c1 l1 t163 _ ?side1 ?side2 ?side3 ?side4 ?side5 ?side6 ?side7 ?side8 A3.out).mono ?_); (case side1 => repeat (first | exact (Kd.C_below HR0_1.out HB.out) | (with_reducible refine Kd.C_alloc ?_ _) | (with_reducible refine Kd.C_drewN ?_ _) | (with_reducible refine Kd.C_drew ?_))); (case side2 => exact HC0_1.out); (case side3 => repeat (first | exact (Kd.C_below HR0_1.out HB.out) | (with_reducible refine Kd.C_alloc ?_ _) | (with_reducible refine Kd.C_drewN ?_ _) | (with_reducible refine Kd.C_drew ?_))); (case side4 => exact HC0_1.out); (case side5 => repeat (first | exact (Kd.C_below HR1.out HB.out) | (with_reducible refine Kd.C_alloc ?_ _) | (with_reducible refine Kd.C_drewN ?_ _) | (with_reducible refine Kd.C_drew ?_))); (case side6 => exact HC1.out); (case side7 => exact (by (with_reducible repeat (first | refine blk_drewN ?_ _ | refine blk_drew ?_ | refine blk_alloc ?_ _)); exact BK161.out)); (case side8 => exact (by (with_reducible repeat (first | refine blk_drewN ?_ _ | refine blk_drew ?_ | refine blk_alloc ?_ _)); exact BK162.out)); rintro e w18 ⟨rfl, hb⟩; refine ⟨_, rfl, ?_⟩; have n0_ := Aside0.mk (blk_below (g := gb161) (o := .cells #[.int .i64 a0_0, .slice A0_1 l0_1.length c0_1] 32 (0, 0)) (by (with_reducible repeat (first | refine blk_drewN ?_ _ | refine blk_drew ?_ | refine blk_alloc ?_ _)); exact BK161.out) hb); have n1_ := Aside0.mk (blk_below (g := gb162) (o := .cells #[.slice A1 l1.length c1] 25 (0, 0)) (by (with_reducible repeat (first | refine blk_drewN ?_ _ | refine blk_drew ?_ | refine blk_alloc ?_ _)); exact BK162.out) hb); have n2_ := Aside0.mk (below_step (by repeat (first | (with_reducible first | exact HB.out | apply below_alloc | apply pw_below_drewN | apply below_drew1 | refine below_set ?_ GE161.out | refine below_set ?_ GE162.out) | exact HB.out)) hb); clear BK161; clear BK162; clear HB; have BK161 := n0_; have BK162 := n1_; have HB := n2_; clear n0_ n1_ n2_; (try clear hb); (try clear hb2); (try clear hk); (try clear hi)))
  go_ret2
  exact ⟨by first | rfl | (simp [errW_none, errW_some] <;> rfl) | (simp [*, errW_none, errW_some] <;> rfl), by repeat (first | (with_reducible first | exact HB.out | apply below_alloc | apply pw_below_drewN | apply below_drew1 | refine below_set ?_ GE161.out | refine below_set ?_ GE162.out) | exact HB.out)⟩

end Go.Proofs.Ytgdmflmglkakgaa.Q

/-
  IsFilling: what both return.
-/
namespace Go.Proofs.Ytgdmflmglkakgaa
open Go Go.RowKit Go.Proofs Go.Proofs.YtgdmflmglkakgaaW.PrintWords Go.Proofs.YtgdmflmglkakgaaW.PrintMore Go.Proofs.Ytgdmflmglkakgaa.Q
set_option linter.unusedVariables false
set_option linter.unusedSimpArgs false

theorem getD_at {α : Type} {xs : List α} {i : Nat} {d : α} (h : i < xs.length) : xs.getD i d = xs[i] := by simp [List.getD, List.getElem?_eq_getElem h]
theorem wrapS (m : Nat) (h : m < 1000000000) : wrap64 ((m : Int) + 1) = ((m + 1 : Nat) : Int) := by unfold wrap64; omega
theorem wrapP (m : Nat) (h : m < 1000000000) : wrap64 (((m + 1 : Nat) : Int) - 1) = (m : Int) := by unfold wrap64; omega
theorem rdL_row (x : List (List Int)) (i : Nat) : rd_L1 x (i : Int) = x.getD i [] := by simp [rd_L1]
theorem rdL_cell (x : List (List Int)) (y i : Nat) : rd (x.getD y []) (i : Int) = cell x y i := by rw [rd_nat]; rfl
theorem specIn_f2 (n lo hi : Int) : spec_l01In.f n lo hi = some (inB n lo hi) := by
  unfold spec_l01In.f inB
  by_cases h : n ≥ lo
  · rw [if_pos h]; simp [h]
  · rw [if_neg h]; simp at h ⊢; omega
theorem implWithin_f (n lo hi : Int) : impl_within.f n lo hi = some (inB n lo hi) := by
  unfold impl_within.f inB
  by_cases h : n ≥ lo
  · rw [if_pos h]; simp [h]
  · rw [if_neg h]; simp at h ⊢; omega
theorem isNumber_f (C : Int) (l : List STile) (a : Int) (hl : l.length ≤ 35184372088832) : impl_Set_isNumber.f C l a = some (numB l.length a) := by
  have e : wrap64 ((l.length : Int) - 1) = (l.length : Int) - 1 := by unfold wrap64; omega
  rw [impl_Set_isNumber.f, implWithin_f, e]; rfl
theorem numsRow_ev (C : Int) (l : List STile) (xs : List (List Int)) (h y : Int) (row : List Int) (R : Bool) (hl : l.length ≤ 35184372088832) (hrow : row.length ≤ 10000000) (hR : Ev (fun k => impl_Set_areNumbers.l0 k xs xs h (wrap64 (y + 1)) C l) R) :
    ∀ d m, m + d = row.length → Ev (fun k => impl_Set_areNumbers.l1 k xs xs h y row (row.length : Int) (m : Int) C l) ((row.drop m).all (numB l.length) && R) := by
  intro d
  induction d with
  | zero =>
    intro m hm
    have b1 : ¬ (m : Int) < (row.length : Int) := by omega
    rw [List.drop_of_length_le (by omega), List.all_nil, Bool.true_and]
    exact Ev.step (fun k => by rw [impl_Set_areNumbers.l1, if_neg b1]) hR
  | succ d ih =>
    intro m hm
    have hlt : m < row.length := by omega
    have b1 : (m : Int) < (row.length : Int) := by omega
    have b2 : (0 : Int) ≤ (m : Int) := Int.natCast_nonneg m
    have hm9 : m < 1000000000 := by omega
    have hd : row.drop m = row[m] :: row.drop (m + 1) := List.drop_eq_getElem_cons hlt
    have e1 : rd row (m : Int) = row[m] := by rw [rd_nat, List.getD_eq_getElem?_getD, List.getElem?_eq_getElem hlt]; rfl
    rw [hd, List.all_cons]
    cases hq : numB l.length row[m]
    · refine Ev.step (fun k => ?_) (Ev.now _)
      rw [impl_Set_areNumbers.l1, if_pos b1, if_pos b2, if_pos b1, e1, isNumber_f C l _ hl, hq]; rfl
    · rw [Bool.true_and]
      refine Ev.step (fun k => ?_) (ih (m + 1) (by omega))
      rw [impl_Set_areNumbers.l1, if_pos b1, if_pos b2, if_pos b1, e1, isNumber_f C l _ hl, hq, wrapS m hm9]; rfl
theorem isTable_l0 (xs : List (List Int)) (h1 : 1 ≤ xs.length) (hx : xs.length ≤ 10000000) : ∀ d m, m + d = xs.length → Ev (fun k => impl_isTable.l0 k xs 8 xs (xs.length : Int) (m : Int)) ((xs.drop m).all (rowOk (width xs))) := by
  intro d
  induction d with
  | zero =>
    intro m hm
    have b1 : ¬ (m : Int) < (xs.length : Int) := by omega
    rw [List.drop_of_length_le (by omega), List.all_nil]
    exact Ev.step (f := fun _ => some true) (fun k => by rw [impl_isTable.l0, if_neg b1]) (Ev.now _)
  | succ d ih =>
    intro m hm
    have hlt : m < xs.length := by omega
    have b0 : (0 : Int) < (xs.length : Int) := by omega
    have b1 : (m : Int) < (xs.length : Int) := by omega
    have b2 : (0 : Int) ≤ (m : Int) := Int.natCast_nonneg m
    have hm9 : m < 1000000000 := by omega
    have hd : xs.drop m = xs[m] :: xs.drop (m + 1) := List.drop_eq_getElem_cons hlt
    have e0 : rd_L1 xs 0 = xs.getD 0 [] := rdL_row xs 0
    have e1 : rd_L1 xs (m : Int) = xs[m] := by rw [rdL_row, List.getD_eq_getElem?_getD, List.getElem?_eq_getElem hlt]; rfl
    rw [hd, List.all_cons]
    by_cases q1 : (xs[m].length : Int) = ((xs.getD 0 []).length : Int)
    · by_cases q2 : (xs[m].length : Int) < 1
      · have : rowOk (width xs) xs[m] = false := by simp only [rowOk, decide_eq_false_iff_not]; omega
        rw [this]
        refine Ev.step (f := fun _ => some false) (fun k => ?_) (Ev.now _)
        rw [impl_isTable.l0, if_pos b1, if_pos b2, if_pos b1, if_pos b0, e1, e0, if_pos q1, if_pos q2]
      · by_cases q3 : (xs[m].length : Int) > 8
        · have : rowOk (width xs) xs[m] = false := by simp only [rowOk, decide_eq_false_iff_not]; omega
          rw [this]
          refine Ev.step (f := fun _ => some false) (fun k => ?_) (Ev.now _)
          rw [impl_isTable.l0, if_pos b1, if_pos b2, if_pos b1, if_pos b0, e1, e0, if_pos q1, if_neg q2, if_pos q3]
        · have q4 : xs[m].length = (xs.getD 0 []).length := by omega
          have : rowOk (width xs) xs[m] = true := by
            show decide (xs[m].length = (xs.getD 0 []).length ∧ 1 ≤ xs[m].length ∧ xs[m].length ≤ 8) = true
            exact decide_eq_true ⟨q4, by omega, by omega⟩
          rw [this, Bool.true_and]
          refine Ev.step (fun k => ?_) (ih (m + 1) (by omega))
          rw [impl_isTable.l0, if_pos b1, if_pos b2, if_pos b1, if_pos b0, e1, e0, if_pos q1, if_neg q2, if_neg q3, wrapS m hm9]
    · have q4 : ¬ xs[m].length = (xs.getD 0 []).length := by omega
      have : rowOk (width xs) xs[m] = false := by
        show decide (xs[m].length = (xs.getD 0 []).length ∧ 1 ≤ xs[m].length ∧ xs[m].length ≤ 8) = false
        exact decide_eq_false fun h => q4 h.1
      rw [this]
      refine Ev.step (f := fun _ => some false) (fun k => ?_) (Ev.now _)
      rw [impl_isTable.l0, if_pos b1, if_pos b2, if_pos b1, if_pos b0, e1, e0, if_neg q1]
theorem isTable_ev (xs : List (List Int)) (hx : xs.length ≤ 10000000) : Ev (fun k => impl_isTable.f k xs 8) (shapeB xs) := by
  have hf : Ev (fun k => impl_isTable.j0 k xs 8 true) false := Ev.step (f := fun _ => some false) (fun k => by rw [impl_isTable.j0, if_pos rfl]) (Ev.now _)
  by_cases h1 : (xs.length : Int) < 1
  · have : shapeB xs = false := by simp only [shapeB, Bool.and_eq_false_imp, decide_eq_true_eq]; omega
    rw [this]
    exact Ev.congr (fun k => by rw [impl_isTable.f, if_pos h1]) hf
  · by_cases h8 : (xs.length : Int) > 8
    · have : shapeB xs = false := by simp only [shapeB, Bool.and_eq_false_imp, decide_eq_true_eq]; omega
      rw [this]
      exact Ev.congr (fun k => by rw [impl_isTable.f, if_neg h1, decide_eq_true h8]) hf
    · have hs : shapeB xs = xs.all (rowOk (width xs)) := by rw [shapeB, decide_eq_true (show 1 ≤ xs.length ∧ xs.length ≤ 8 by omega), Bool.true_and]
      rw [hs]
      refine Ev.congr (f := fun k => impl_isTable.j0 k xs 8 false) (fun k => by rw [impl_isTable.f, if_neg h1, decide_eq_false h8]) ?_
      have := isTable_l0 xs (by omega) hx xs.length 0 (by omega)
      rw [List.drop_zero] at this
      exact Ev.step (fun k => by rw [impl_isTable.j0, if_neg (by simp)]; rfl) this
theorem areNumbers_ev (C : Int) (l : List STile) (xs : List (List Int)) (hl : l.length ≤ 35184372088832) (hx : xs.length ≤ 10000000) (hr : ∀ r ∈ xs, r.length ≤ 10000000) : Ev (fun k => impl_Set_areNumbers.f k C l xs) (tabB l.length xs) := by
  have go : ∀ d m, m + d = xs.length → Ev (fun k => impl_Set_areNumbers.l0 k xs xs (xs.length : Int) (m : Int) C l) (numsB l.length (xs.drop m) && shapeB xs) := by
    intro d
    induction d with
    | zero =>
      intro m hm
      have b1 : ¬ (m : Int) < (xs.length : Int) := by omega
      rw [List.drop_of_length_le (by omega)]
      refine Ev.step (f := fun k => (impl_isTable.f k xs 8).bind fun t => some t) (fun k => by rw [impl_Set_areNumbers.l0, if_neg b1]) ?_
      exact Ev.bind (isTable_ev xs hx) (Ev.now _)
    | succ d ih =>
      intro m hm
      have hlt : m < xs.length := by omega
      have b1 : (m : Int) < (xs.length : Int) := by omega
      have b2 : (0 : Int) ≤ (m : Int) := Int.natCast_nonneg m
      have hm9 : m < 1000000000 := by omega
      have hd : xs.drop m = xs[m] :: xs.drop (m + 1) := List.drop_eq_getElem_cons hlt
      have e1 : rd_L1 xs (m : Int) = xs[m] := by rw [rdL_row, List.getD_eq_getElem?_getD, List.getElem?_eq_getElem hlt]; rfl
      have hi := ih (m + 1) (by omega)
      rw [← wrapS m hm9] at hi
      have h2 := numsRow_ev C l xs (xs.length : Int) (m : Int) xs[m] _ hl (hr _ (List.getElem_mem hlt)) hi xs[m].length 0 (by omega)
      rw [List.drop_zero] at h2
      have e : (numsB l.length (xs.drop m) && shapeB xs) = (xs[m].all (numB l.length) && (numsB l.length (xs.drop (m + 1)) && shapeB xs)) := by rw [hd]; simp only [numsB, List.all_cons, Bool.and_assoc]
      rw [e]
      exact Ev.step (fun k => by rw [impl_Set_areNumbers.l0, if_pos b1, if_pos b2, if_pos b1, e1]; rfl) h2
  have := go xs.length 0 (by omega)
  rw [List.drop_zero] at this
  exact this
theorem implFillCode_ev (C : Int) (l : List STile) (xs : List (List Int)) (hl : l.length ≤ 35184372088832) (hx : xs.length ≤ 10000000) (hr : ∀ r ∈ xs, r.length ≤ 10000000) :
    Ev (fun k => impl_setCode_at_impl_IsFilling_1.f k C l C l xs) (if isS C (l.map toT) = true then if tabB l.length xs = true then 0 else 2 else 1) := by
  have hin : inLim l.length = true := by simpa [inLim] using hl
  cases hs : isS C (l.map toT)
  · refine Ev.congr (fun k => ?_) (Ev.now _)
    rw [impl_setCode_at_impl_IsFilling_1.f, impl_IsSet.f, if_pos hin, hs]; rfl
  · refine Ev.congr (f := fun k => (impl_IsFilling_1.f k C l xs).bind fun b => if b = true then some 0 else some 2) (fun k => ?_) (Ev.bind (a := tabB l.length xs) ?_ ?_)
    · rw [impl_setCode_at_impl_IsFilling_1.f, impl_IsSet.f, if_pos hin, hs]; rfl
    · exact Ev.congr (f := fun k => (impl_Set_areNumbers.f k C l xs).bind fun t => some t) (fun k => by rw [impl_IsFilling_1.f]) (Ev.bind (areNumbers_ev C l xs hl hx hr) (Ev.now _))
    · refine Ev.congr (fun k => ?_) (Ev.now _)
      cases tabB l.length xs <;> rfl
theorem fillRow_ev (C : Int) (l : List STile) (xs : List (List Int)) (ht : Tab l.length xs) (y : Nat) (hy : y < xs.length) (R : Bool) (hR : Ev (fun k => impl_Set_isFilling.l0 k xs xs (xs.length : Int) (wrap64 ((y : Int) + 1)) C l) R) :
    ∀ d m, m + d = width xs → Ev (fun k => impl_Set_isFilling.l1 k xs (y : Int) (xs.getD y []) xs (xs.length : Int) (y : Int) (xs.getD y []) ((xs.getD y []).length : Int) (m : Int) C l) (allN (cellB l xs y) d m && R) := by
  have hlen := ht.len y hy
  have h8 := ht.h8
  have w8 := ht.w8
  intro d
  induction d with
  | zero =>
    intro m hm
    have b1 : ¬ (m : Int) < ((xs.getD y []).length : Int) := by omega
    rw [allN, Bool.true_and]
    exact Ev.step (fun k => by rw [impl_Set_isFilling.l1, if_neg b1]) hR
  | succ d ih =>
    intro m hm
    have hlt : m < width xs := by omega
    have b1 : (m : Int) < ((xs.getD y []).length : Int) := by omega
    have b2 : (0 : Int) ≤ (m : Int) := Int.natCast_nonneg m
    have hm9 : m < 1000000000 := by omega
    have c1 := ht.lo y m hy hlt
    have c2 := ht.up y m hy hlt
    have hi := ih (m + 1) (by omega)
    rw [← wrapS m hm9] at hi
    rw [allN, Bool.and_assoc]
    have north : y ≠ 0 → (0 ≤ wrap64 ((y : Int) - 1)) ∧ wrap64 ((y : Int) - 1) < (xs.length : Int) ∧ (m : Int) < ((rd_L1 xs (wrap64 ((y : Int) - 1))).length : Int) ∧ 0 ≤ rd (rd_L1 xs (wrap64 ((y : Int) - 1))) (m : Int) ∧ rd (rd_L1 xs (wrap64 ((y : Int) - 1))) (m : Int) < (l.length : Int) ∧ rd (rd_L1 xs (wrap64 ((y : Int) - 1))) (m : Int) = cell xs (y - 1) m := by
      intro h0
      obtain ⟨z, rfl⟩ : ∃ z, y = z + 1 := ⟨y - 1, by omega⟩
      have hz9 : z < 1000000000 := by omega
      have l2 := ht.len z (by omega)
      have d1 := ht.lo z m (by omega) hlt
      have d2 := ht.up z m (by omega) hlt
      rw [wrapP z hz9, rdL_row, rdL_cell]
      exact ⟨by omega, by omega, by omega, d1, d2, rfl⟩
    by_cases h0 : m = 0
    · subst h0
      have g0 : ¬ ((0 : Nat) : Int) > 0 := by omega
      by_cases hy0 : y = 0
      · subst hy0
        have : cellB l xs 0 0 = true := by simp [cellB]
        rw [this, Bool.true_and]
        exact Ev.step (fun k => by rw [impl_Set_isFilling.l1, if_pos b1, if_pos b2, if_pos b1, if_neg g0, if_neg g0]) hi
      · have g1 : (y : Int) > 0 := by omega
        obtain ⟨n1, n2, n3, n4, n5, n6⟩ := north hy0
        by_cases hq : (rd_T63 l (cell xs (y - 1) 0)).f3 = (rd_T63 l (cell xs y 0)).f1
        · have : cellB l xs y 0 = true := by simp [cellB, tileAt, hq]
          rw [this, Bool.true_and]
          refine Ev.step (fun k => ?_) hi
          rw [impl_Set_isFilling.l1, if_pos b1, if_pos b2, if_pos b1, if_neg g0, if_pos g1, if_pos n1, if_pos n2, if_pos n3, if_pos n4, if_pos n5, n6, rdL_cell, if_pos c1, if_pos c2, if_pos hq]
        · have : cellB l xs y 0 = false := by simp [cellB, tileAt, hq, hy0]
          rw [this, Bool.false_and]
          refine Ev.step (f := fun _ => some false) (fun k => ?_) (Ev.now _)
          rw [impl_Set_isFilling.l1, if_pos b1, if_pos b2, if_pos b1, if_neg g0, if_pos g1, if_pos n1, if_pos n2, if_pos n3, if_pos n4, if_pos n5, n6, rdL_cell, if_pos c1, if_pos c2, if_neg hq]
    · have g0 : (m : Int) > 0 := by omega
      have west : (0 ≤ wrap64 ((m : Int) - 1)) ∧ wrap64 ((m : Int) - 1) < ((xs.getD y []).length : Int) ∧ 0 ≤ rd (xs.getD y []) (wrap64 ((m : Int) - 1)) ∧ rd (xs.getD y []) (wrap64 ((m : Int) - 1)) < (l.length : Int) ∧ rd (xs.getD y []) (wrap64 ((m : Int) - 1)) = cell xs y (m - 1) := by
        obtain ⟨z, rfl⟩ : ∃ z, m = z + 1 := ⟨m - 1, by omega⟩
        have hz9 : z < 1000000000 := by omega
        have d1 := ht.lo y z hy (by omega)
        have d2 := ht.up y z hy (by omega)
        rw [wrapP z hz9, rdL_cell]
        exact ⟨by omega, by omega, d1, d2, rfl⟩
      obtain ⟨w1, w2, w3, w4, w5⟩ := west
      by_cases hp : (rd_T63 l (cell xs y (m - 1))).f2 = (rd_T63 l (cell xs y m)).f0
      · by_cases hy0 : y = 0
        · subst hy0
          have g1 : ¬ ((0 : Nat) : Int) > 0 := by omega
          have : cellB l xs 0 m = true := by simp [cellB, tileAt, hp]
          rw [this, Bool.true_and]
          refine Ev.step (fun k => ?_) hi
          rw [impl_Set_isFilling.l1, if_pos b1, if_pos b2, if_pos b1, if_pos g0, if_pos w1, if_pos w2, if_pos w3, if_pos w4, w5, rdL_cell, if_pos c1, if_pos c2, if_pos hp, if_neg g1]
        · have g1 : (y : Int) > 0 := by omega
          obtain ⟨n1, n2, n3, n4, n5, n6⟩ := north hy0
          by_cases hq : (rd_T63 l (cell xs (y - 1) m)).f3 = (rd_T63 l (cell xs y m)).f1
          · have : cellB l xs y m = true := by simp [cellB, tileAt, hp, hq]
            rw [this, Bool.true_and]
            refine Ev.step (fun k => ?_) hi
            rw [impl_Set_isFilling.l1, if_pos b1, if_pos b2, if_pos b1, if_pos g0, if_pos w1, if_pos w2, if_pos w3, if_pos w4, w5, rdL_cell, if_pos c1, if_pos c2, if_pos hp, if_pos g1, if_pos n1, if_pos n2, if_pos n3, if_pos n4, if_pos n5, n6, if_pos hq]
          · have : cellB l xs y m = false := by simp [cellB, tileAt, hp, hq, hy0]
            rw [this, Bool.false_and]
            refine Ev.step (f := fun _ => some false) (fun k => ?_) (Ev.now _)
            rw [impl_Set_isFilling.l1, if_pos b1, if_pos b2, if_pos b1, if_pos g0, if_pos w1, if_pos w2, if_pos w3, if_pos w4, w5, rdL_cell, if_pos c1, if_pos c2, if_pos hp, if_pos g1, if_pos n1, if_pos n2, if_pos n3, if_pos n4, if_pos n5, n6, if_neg hq]
      · have : cellB l xs y m = false := by simp [cellB, tileAt, hp, h0]
        rw [this, Bool.false_and]
        refine Ev.step (f := fun _ => some false) (fun k => ?_) (Ev.now _)
        rw [impl_Set_isFilling.l1, if_pos b1, if_pos b2, if_pos b1, if_pos g0, if_pos w1, if_pos w2, if_pos w3, if_pos w4, w5, rdL_cell, if_pos c1, if_pos c2, if_neg hp]
theorem isFilling_ev (C : Int) (l : List STile) (xs : List (List Int)) (ht : Tab l.length xs) : Ev (fun k => impl_Set_isFilling.f k C l xs) (goodB l xs) := by
  have h8 := ht.h8
  have go : ∀ d m, m + d = xs.length → Ev (fun k => impl_Set_isFilling.l0 k xs xs (xs.length : Int) (m : Int) C l) (allN (rowB l xs) d m) := by
    intro d
    induction d with
    | zero =>
      intro m hm
      have b1 : ¬ (m : Int) < (xs.length : Int) := by omega
      exact Ev.step (f := fun _ => some true) (fun k => by rw [impl_Set_isFilling.l0, if_neg b1]) (Ev.now _)
    | succ d ih =>
      intro m hm
      have b1 : (m : Int) < (xs.length : Int) := by omega
      have b2 : (0 : Int) ≤ (m : Int) := Int.natCast_nonneg m
      have hm9 : m < 1000000000 := by omega
      have hi := ih (m + 1) (by omega)
      rw [← wrapS m hm9] at hi
      have h2 := fillRow_ev C l xs ht m (by omega) _ hi (width xs) 0 (by omega)
      rw [allN]
      exact Ev.step (fun k => by rw [impl_Set_isFilling.l0, if_pos b1, if_pos b2, if_pos b1, rdL_row]; rfl) h2
  exact go xs.length 0 (by omega)
theorem implFill_ev (C : Int) (l : List STile) (xs : List (List Int)) (hl : l.length ≤ 35184372088832) (hx : xs.length ≤ 10000000) (hr : ∀ r ∈ xs, r.length ≤ 10000000) : Ev (fun k => impl_IsFilling.f k C l xs) (fillR C (l.map toT) xs) := by
  refine Ev.congr (f := fun k => (impl_setCode_at_impl_IsFilling_1.f k C l C l xs).bind fun t => if t = 0 then (impl_Set_isFilling.f k C l xs).bind fun u => some (u, 0) else some (false, t)) (fun k => by rw [impl_IsFilling.f]) ?_
  refine Ev.bind (implFillCode_ev C l xs hl hx hr) ?_
  unfold fillR
  rw [List.length_map, map_toST]
  cases isS C (l.map toT)
  · exact Ev.now _
  · cases hb : tabB l.length xs
    · exact Ev.now _
    · exact Ev.congr (fun k => if_pos rfl) (Ev.bind (isFilling_ev C l xs (tab_of hb)) (Ev.now _))
/-- the reference's code -/
theorem specRow_ev (C : Int) (l : List STile) (xs : List (List Int)) (y : Nat) (hy : y < xs.length) (R : Int) (hl : l.length ≤ 35184372088832) (hrow : (xs.getD y []).length ≤ 10000000) (hR : Ev (fun k => spec_l01Rows.l0 k xs (wrap64 ((y : Int) + 1)) C l) R) :
    ∀ d m, m + d = (xs.getD y []).length → Ev (fun k => spec_l01Rows.l1 k xs (y : Int) (m : Int) C l) (if ((xs.getD y []).drop m).all (numB l.length) = true then R else 2) := by
  have y1 : (0 : Int) ≤ (y : Int) := Int.natCast_nonneg y
  have y2 : (y : Int) < (xs.length : Int) := by omega
  have ew : wrap64 ((l.length : Int) - 1) = (l.length : Int) - 1 := by unfold wrap64; omega
  intro d
  induction d with
  | zero =>
    intro m hm
    have b1 : ¬ (m : Int) < ((xs.getD y []).length : Int) := by omega
    rw [List.drop_of_length_le (by omega), List.all_nil, if_pos rfl]
    exact Ev.step (fun k => by rw [spec_l01Rows.l1, if_pos y1, if_pos y2, rdL_row, if_neg b1]) hR
  | succ d ih =>
    intro m hm
    have hlt : m < (xs.getD y []).length := by omega
    have b1 : (m : Int) < ((xs.getD y []).length : Int) := by omega
    have b2 : (0 : Int) ≤ (m : Int) := Int.natCast_nonneg m
    have hm9 : m < 1000000000 := by omega
    have hd : (xs.getD y []).drop m = (xs.getD y [])[m] :: (xs.getD y []).drop (m + 1) := List.drop_eq_getElem_cons hlt
    have e1 : rd (xs.getD y []) (m : Int) = (xs.getD y [])[m] := by rw [rd_nat, getD_at hlt]
    have e2 : inB (xs.getD y [])[m] 0 ((l.length : Int) - 1) = numB l.length (xs.getD y [])[m] := rfl
    rw [hd, List.all_cons]
    cases hq : numB l.length (xs.getD y [])[m]
    · refine Ev.step (f := fun _ => some 2) (fun k => ?_) (Ev.now _)
      rw [spec_l01Rows.l1, if_pos y1, if_pos y2, rdL_row, if_pos b1, if_pos b2, e1, ew, specIn_f2, e2, hq]; rfl
    · rw [Bool.true_and]
      refine Ev.step (fun k => ?_) (ih (m + 1) (by omega))
      rw [spec_l01Rows.l1, if_pos y1, if_pos y2, rdL_row, if_pos b1, if_pos b2, e1, ew, specIn_f2, e2, hq, wrapS m hm9]; rfl
def rowGood (n w : Nat) (r : List Int) : Bool := decide (r.length = w) && r.all (numB n)
theorem specRows_l0 (C : Int) (l : List STile) (xs : List (List Int)) (hl : l.length ≤ 35184372088832) (hx : xs.length ≤ 10000000) (hr : ∀ r ∈ xs, r.length ≤ 10000000) :
    ∀ d m, m + d = xs.length → Ev (fun k => spec_l01Rows.l0 k xs (m : Int) C l) (if (xs.drop m).all (rowGood l.length (width xs)) = true then 0 else 2) := by
  intro d
  induction d with
  | zero =>
    intro m hm
    have b1 : ¬ (m : Int) < (xs.length : Int) := by omega
    rw [List.drop_of_length_le (by omega), List.all_nil, if_pos rfl]
    exact Ev.step (f := fun _ => some 0) (fun k => by rw [spec_l01Rows.l0, if_neg b1]) (Ev.now _)
  | succ d ih =>
    intro m hm
    have hlt : m < xs.length := by omega
    have b0 : (0 : Int) < (xs.length : Int) := by omega
    have b1 : (m : Int) < (xs.length : Int) := by omega
    have b2 : (0 : Int) ≤ (m : Int) := Int.natCast_nonneg m
    have hm9 : m < 1000000000 := by omega
    have hd : xs.drop m = xs[m] :: xs.drop (m + 1) := List.drop_eq_getElem_cons hlt
    have eg : xs.getD m [] = xs[m] := by rw [List.getD_eq_getElem?_getD, List.getElem?_eq_getElem hlt]; rfl
    have e0 : rd_L1 xs 0 = xs.getD 0 [] := rdL_row xs 0
    have e1 : rd_L1 xs (m : Int) = xs.getD m [] := rdL_row xs m
    have hi := ih (m + 1) (by omega)
    rw [← wrapS m hm9] at hi
    rw [hd, List.all_cons]
    by_cases q1 : ((xs.getD m []).length : Int) = ((xs.getD 0 []).length : Int)
    · have h2 := specRow_ev C l xs m hlt _ hl (by rw [eg]; exact hr _ (List.getElem_mem hlt)) hi (xs.getD m []).length 0 (by omega)
      rw [List.drop_zero] at h2
      have e : (if (rowGood l.length (width xs) xs[m] && (xs.drop (m + 1)).all (rowGood l.length (width xs))) = true then (0 : Int) else 2) = (if (xs.getD m []).all (numB l.length) = true then (if (xs.drop (m + 1)).all (rowGood l.length (width xs)) = true then 0 else 2) else 2) := by
        have : rowGood l.length (width xs) xs[m] = (xs.getD m []).all (numB l.length) := by
          rw [← eg, rowGood, decide_eq_true (show (xs.getD m []).length = width xs by unfold width; omega), Bool.true_and]
        rw [this]
        cases (xs.getD m []).all (numB l.length) <;> rfl
      rw [e]
      exact Ev.step (fun k => by rw [spec_l01Rows.l0, if_pos b1, if_pos b2, if_pos b0, e1, e0, if_pos q1]; rfl) h2
    · have : rowGood l.length (width xs) xs[m] = false := by
        rw [← eg, rowGood, decide_eq_false (show ¬ (xs.getD m []).length = width xs by unfold width; omega), Bool.false_and]
      rw [this]
      exact Ev.step (f := fun _ => some 2) (fun k => by rw [spec_l01Rows.l0, if_pos b1, if_pos b2, if_pos b0, e1, e0, if_neg q1]) (Ev.now _)
theorem tabB_rows {n : Nat} {xs : List (List Int)} (h : 1 ≤ xs.length ∧ xs.length ≤ 8 ∧ 1 ≤ width xs ∧ width xs ≤ 8) : tabB n xs = xs.all (rowGood n (width xs)) := by
  apply Bool.eq_iff_iff.2
  simp only [tabB, numsB, shapeB, Bool.and_eq_true, List.all_eq_true, rowOk, rowGood, decide_eq_true_eq]
  constructor
  · rintro ⟨h1, -, h3⟩ r hr
    exact ⟨(h3 r hr).1, h1 r hr⟩
  · intro h1
    exact ⟨fun r hr => (h1 r hr).2, ⟨h.1, h.2.1⟩, fun r hr => by have := (h1 r hr).1; omega⟩
theorem tabB_out {n : Nat} {xs : List (List Int)} (h : ¬ (1 ≤ xs.length ∧ xs.length ≤ 8 ∧ 1 ≤ width xs ∧ width xs ≤ 8)) : tabB n xs = false := by
  cases hb : tabB n xs
  · rfl
  · have := tab_of hb
    exact absurd ⟨this.h1, this.h8, this.w1, this.w8⟩ h
theorem specRows_ev (C : Int) (l : List STile) (xs : List (List Int)) (hl : l.length ≤ 35184372088832) (hx : xs.length ≤ 10000000) (hr : ∀ r ∈ xs, r.length ≤ 10000000) :
    Ev (fun k => spec_l01Rows.f k C l xs) (if isS C (l.map toT) = true then if tabB l.length xs = true then 0 else 2 else 1) := by
  have hin : inLim l.length = true := by simpa [inLim] using hl
  have hf : Ev (fun k => spec_l01Rows.j0 k xs true C l) 2 := Ev.step (f := fun _ => some 2) (fun k => by rw [spec_l01Rows.j0, if_pos rfl]) (Ev.now _)
  cases hs : isS C (l.map toT)
  · refine Ev.congr (fun k => ?_) (Ev.now _)
    rw [spec_l01Rows.f, spec_l01Is.f, if_pos hin, hs]; rfl
  · rw [if_pos rfl]
    have e0 : rd_L1 xs 0 = xs.getD 0 [] := rdL_row xs 0
    by_cases h1 : (xs.length : Int) < 1
    · rw [tabB_out (by omega)]
      exact Ev.congr (fun k => by rw [spec_l01Rows.f, spec_l01Is.f, if_pos hin, hs, Option.bind_some, if_pos rfl, if_pos h1]) hf
    · by_cases h8 : (xs.length : Int) > 8
      · rw [tabB_out (by omega)]
        exact Ev.congr (fun k => by rw [spec_l01Rows.f, spec_l01Is.f, if_pos hin, hs, Option.bind_some, if_pos rfl, if_neg h1, if_pos h8]) hf
      · have b0 : (0 : Int) < (xs.length : Int) := by omega
        by_cases w1 : ((xs.getD 0 []).length : Int) < 1
        · rw [tabB_out (by unfold width; omega)]
          exact Ev.congr (fun k => by rw [spec_l01Rows.f, spec_l01Is.f, if_pos hin, hs, Option.bind_some, if_pos rfl, if_neg h1, if_neg h8, if_pos b0, e0, if_pos w1]) hf
        · by_cases w8 : ((xs.getD 0 []).length : Int) > 8
          · rw [tabB_out (by unfold width; omega)]
            exact Ev.congr (fun k => by rw [spec_l01Rows.f, spec_l01Is.f, if_pos hin, hs, Option.bind_some, if_pos rfl, if_neg h1, if_neg h8, if_pos b0, e0, if_neg w1, decide_eq_true w8]) hf
          · rw [tabB_rows (by unfold width; omega)]
            refine Ev.congr (f := fun k => spec_l01Rows.j0 k xs false C l) (fun k => by rw [spec_l01Rows.f, spec_l01Is.f, if_pos hin, hs, Option.bind_some, if_pos rfl, if_neg h1, if_neg h8, if_pos b0, e0, if_neg w1, decide_eq_false w8]) ?_
            have := specRows_l0 C l xs hl hx hr xs.length 0 (by omega)
            rw [List.drop_zero] at this
            exact Ev.step (fun k => by rw [spec_l01Rows.j0, if_neg (by simp)]; rfl) this
end Go.Proofs.Ytgdmflmglkakgaa

/-
  The laws' functions on rows of rows of numbers: what is marked and what is held.
-/
namespace Go.Proofs.Ytgdmflmglkakgaa
open Go Go.RowKit Go.Proofs Go.Proofs.YtgdmflmglkakgaaW.PrintWords Go.Proofs.Ytgdmflmglkakgaa.Q
set_option linter.unusedVariables false
set_option linter.unusedSimpArgs false

/-- a row's own block alone -/
theorem OW.narrow {w : World} {lo hi : Nat} {E : TypeId} {size n : Nat} {v : Value} {cells : List Value} (h : OW w lo hi E size v n cells) :
    ∃ l u, OW w l u E size v n cells ∧ ∀ b, l ≤ b → b < u → v.ownBlock = some b := by
  obtain ⟨h1, h2⟩ := h.own
  rcases h2 with h2 | ⟨g, cap, cur, hv, hg, hh, r⟩
  · refine ⟨0, 0, ⟨⟨h1, .inl h2⟩, fun b hb => ?_, Nat.zero_le _⟩, fun b _ hb => absurd hb (Nat.not_lt_zero _)⟩
    rw [h2.1] at hb
    simp [Value.ownBlock] at hb
  · have hb : v.ownBlock = some g := by rw [hv]; rfl
    have hl := h.up g hb
    refine ⟨g, g + 1, ⟨⟨h1, .inr ⟨g, cap, cur, hv, Nat.le_refl _, hh, r⟩⟩, fun b hb2 => ?_, Nat.lt_of_lt_of_le hl h.top⟩, fun b h3 h4 => ?_⟩
    · have : g = b := Option.some.inj (hb.symm.trans hb2)
      omega
    · rw [hb, show b = g by omega]
/-- a row whose block is not among those that changed -/
theorem OW.apart {w w' : World} {lo hi lo' hi' : Nat} {E : TypeId} {size n : Nat} {v : Value} {cells : List Value} (h : OW w lo hi E size v n cells) (k : Only lo' hi' w w')
    (hd : ∀ b, lo' ≤ b → b < hi' → v.ownBlock ≠ some b) : OW w' lo hi E size v n cells := by
  refine ⟨?_, h.up, Nat.le_trans h.top k.size⟩
  obtain ⟨h1, h2⟩ := h.own
  refine ⟨h1, ?_⟩
  rcases h2 with h2 | ⟨g, cap, cur, hv, hg, hh, r⟩
  · exact .inl h2
  · refine .inr ⟨g, cap, cur, hv, hg, ?_, r⟩
    have hb : v.ownBlock = some g := by rw [hv]; rfl
    have hu := h.up g hb
    exact (k.block g (Nat.lt_of_lt_of_le hu h.top) (by
      by_cases h1 : lo' ≤ g
      · by_cases h2 : g < hi'
        · exact absurd hb (hd g h1 h2)
        · exact .inr (by omega)
      · exact .inl (by omega))).trans hh
def tot (m : Nat → Nat) : Nat → Nat
  | 0 => 0
  | n + 1 => tot m n + m n
theorem tot_le (m : Nat → Nat) {i n : Nat} (h : i ≤ n) : tot m i ≤ tot m n := by
  induction n with
  | zero => rw [Nat.le_zero.1 h]; exact Nat.le_refl _
  | succ n ih =>
    rcases Nat.lt_or_ge i (n + 1) with h1 | h1
    · exact Nat.le_trans (ih (by omega)) (Nat.le_add_right _ _)
    · rw [show i = n + 1 by omega]; exact Nat.le_refl _
/-- n rows of numbers, the i-th with header v i, m i long, cells cs i; the headers lie in block g; no two rows share a block, none lies in block g -/
structure RowsW (w : World) (lo hi g n : Nat) (v : Nat → Value) (m : Nat → Nat) (cs : Nat → List Value) : Prop where
  hdr : ∀ i, i < n → w.cell? ⟨g, i, none⟩ = some (v i)
  row : ∀ i, i < n → OW w lo hi 2 1 (v i) (m i) (cs i)
  apart : ∀ i j, i < n → j < n → i ≠ j → ∀ b, (v i).ownBlock = some b → (v j).ownBlock ≠ some b
  out : ∀ i, i < n → (v i).ownBlock ≠ some g
theorem RowsW.below {w w' : World} {lo hi g n : Nat} {v : Nat → Value} {m : Nat → Nat} {cs : Nat → List Value} (h : RowsW w lo hi g n v m cs) (k : Below w.heap.size w w') : RowsW w' lo hi g n v m cs :=
  ⟨fun i hi => k.cell (World.block_lt_of_cell? w _ (h.hdr i hi)) |>.trans (h.hdr i hi), fun i hi => (h.row i hi).to k, h.apart, h.out⟩
/-- one row written anew -/
theorem RowsW.set {w w' : World} {lo hi g n : Nat} {v : Nat → Value} {m : Nat → Nat} {cs : Nat → List Value} (h : RowsW w lo hi g n v m cs) {i : Nat} (hi' : i < n) {l u : Nat} (k : Only l u w w')
    (hk : ∀ b, l ≤ b → b < u → (v i).ownBlock = some b) {c : List Value} (hr : OW w' lo hi 2 1 (v i) (m i) c) : RowsW w' lo hi g n v m (fun j => if j = i then c else cs j) := by
  refine ⟨fun j hj => ?_, fun j hj => ?_, h.apart, h.out⟩
  · refine cell_only k ?_ (h.hdr j hj)
    by_cases h1 : l ≤ g
    · by_cases h2 : g < u
      · exact absurd (hk g h1 h2) (h.out i hi')
      · exact .inr (by omega)
    · exact .inl (by omega)
  · by_cases e : j = i
    · subst e; simpa using hr
    · simp only [if_neg e]
      exact (h.row j hj).apart k fun b h1 h2 => h.apart i j hi' hj (fun e2 => e e2.symm) b (hk b h1 h2)
theorem Only.into {lo hi l u : Nat} {w w' : World} (h : Only l u w w') (k : ∀ b, l ≤ b → b < u → lo ≤ b ∧ b < hi) : Only lo hi w w' :=
  ⟨h.os, h.tape, h.output, h.size, fun i hi' hd => h.block i hi' (by
    by_cases h1 : l ≤ i
    · by_cases h2 : i < u
      · have := k i h1 h2
        omega
      · exact .inr (by omega)
    · exact .inl (by omega))⟩
theorem OW.inside {w : World} {lo hi : Nat} {E : TypeId} {size n : Nat} {v : Value} {cells : List Value} (h : OW w lo hi E size v n cells) {b : Nat} (hb : v.ownBlock = some b) : lo ≤ b ∧ b < hi :=
  ⟨(h.own.lt b hb).1, h.up b hb⟩
theorem OW.into {w : World} {lo hi l u : Nat} {E : TypeId} {size n : Nat} {v : Value} {cells : List Value} (h : OW w l u E size v n cells) (k : ∀ b, v.ownBlock = some b → lo ≤ b ∧ b < hi) (ht : hi ≤ w.heap.size) : OW w lo hi E size v n cells := by
  refine ⟨?_, fun b hb => (k b hb).2, ht⟩
  obtain ⟨h1, h2⟩ := h.own
  refine ⟨h1, ?_⟩
  rcases h2 with h2 | ⟨g, cap, cur, hv, hg, r⟩
  · exact .inl h2
  · exact .inr ⟨g, cap, cur, hv, (k g (by rw [hv]; rfl)).1, r⟩
theorem RowsW.congr {w : World} {lo hi g n : Nat} {v : Nat → Value} {m : Nat → Nat} {cs cs' : Nat → List Value} (h : RowsW w lo hi g n v m cs) (e : ∀ i, i < n → cs i = cs' i) : RowsW w lo hi g n v m cs' :=
  ⟨h.hdr, fun i hi => by rw [← e i hi]; exact h.row i hi, h.apart, h.out⟩
/-- the cells behind d rows marked from k on -/
def mkRows (k : Int) (m : Nat → Nat) (cs : Nat → List Value) (d : Nat) : Nat → List Value := fun j => if j < d then icells (mkI (k + (tot m j : Int)) (m j * 1)) else cs j
set_option maxHeartbeats 1000000 in
theorem markInt64SS_any (lo hi g n c : Nat) (A : Option Addr) (v : Nat → Value) (m : Nat → Nat) (cs : Nat → List Value) (k : Int) (w : World) (hA : 0 < n → A = some ⟨g, 0, none⟩) (h : RowsW w lo hi g n v m cs) (hk : 0 ≤ k) (hk2 : k + (tot m n : Int) ≤ 1000000000000) (hl : n ≤ 35184372088832) :
    Calls Try.prog 18 #[.slice A n c, .int .i64 k] w fun e w' => e = .returned (.int .i64 (k + (tot m n : Int))) ∧ RowsW w' lo hi g n v m (mkRows k m cs n) ∧ Only lo hi w w' := by
  have HR := Lib.hid h; clear h
  go_enter Try.func18, Try.ntmps18
  go_wp2
  go_loopw [1, 5] (fun kk i wr => Only lo hi w wr ∧ ∃ d : Nat, d ≤ n ∧ i = .int .i64 d ∧ kk = .int .i64 (k + (tot m d : Int)) ∧ RowsW wr lo hi g n v m (mkRows k m cs d)) (fun _ i _ => n - (intOf i).toNat)
  case atStart => exact ⟨Only.refl _ _ _, 0, Nat.zero_le _, rfl, by simp [tot], HR.out.congr fun j _ => by simp [mkRows]⟩
  case round =>
    obtain ⟨hB, d, hd, rfl, rfl, hrows⟩ := hrel
    have HB := Lib.hid hB; have HW := Lib.hid hrows; clear hB hrows
    by_cases hlt : d < n
    · have hA2 := hA (by omega)
      subst hA2
      obtain ⟨l, u, hO, hn⟩ := (HW.out.row d hlt).narrow
      have HO := Lib.hid hO; have HN := Lib.hid hn; clear hO hn
      have c0 := HW.out.hdr d hlt
      have ht := tot_le m (show d + 1 ≤ n from hlt)
      have HT := Lib.hid (show 0 ≤ k + (tot m d : Int) ∧ k + (tot m d : Int) ≤ 1000000000000 ∧ m d ≤ 35184372088832 by simp only [tot] at ht; omega)
      clear ht
      go_wp2_with (first | (go_at_call 41; refine (markInt64S_any l u (v d) (m d) _ _ _ HO.out HT.out.1 HT.out.2.1 HT.out.2.2).mono ?_; rintro e w2 ⟨rfl, hO2, hK2⟩; have HO2 := Lib.hid hO2; have HK2 := Lib.hid hK2; clear hO2 hK2))
      go_roundw
      case rel => exact ⟨HB.out.trans (HK2.out.into fun b h1 h2 => (HW.out.row d hlt).inside (HN.out b h1 h2)), d + 1, by omega, by go_num, by rw [show k + (tot m d : Int) + (m d : Int) = k + (tot m (d + 1) : Int) by simp only [tot]; omega], (HW.out.set hlt HK2.out HN.out (HO2.out.into (fun b hb => (HW.out.row d hlt).inside hb) (Nat.le_trans (HW.out.row d hlt).top HK2.out.size))).congr fun j _ => by
          unfold mkRows
          by_cases e : j = d
          · subst e; simp
          · by_cases e2 : j < d
            · simp [e, e2, show j < d + 1 by omega]
            · simp [e, e2, show ¬ j < d + 1 by omega]⟩
      case measure => simp [intOf]; omega
    · have hdn : d = n := by omega
      subst hdn
      go_wp2
      go_ret
      exact ⟨rfl, HW.out, HB.out⟩
set_option maxHeartbeats 1000000 in
theorem heldInt64SS_any (lo hi g n c : Nat) (A : Option Addr) (v : Nat → Value) (m : Nat → Nat) (cs : Nat → List Value) (k : Int) (w : World) (hA : 0 < n → A = some ⟨g, 0, none⟩) (h : RowsW w lo hi g n v m (mkRows k m cs n)) (hk : 0 ≤ k) (hk2 : k + (tot m n : Int) ≤ 1000000000000) (hl : n ≤ 35184372088832) :
    Calls Try.prog 19 #[.slice A n c, .int .i64 k] w fun e w' => e = .returned (.int .i64 (k + (tot m n : Int))) ∧ Below w.heap.size w w' := by
  have HR := Lib.hid h; clear h
  go_enter Try.func19, Try.ntmps19
  go_wp2
  go_loopw [1, 5] (fun kk i wr => Below w.heap.size w wr ∧ ∃ d : Nat, d ≤ n ∧ i = .int .i64 d ∧ kk = .int .i64 (k + (tot m d : Int))) (fun _ i _ => n - (intOf i).toNat)
  case atStart => exact ⟨Below.refl _ _, 0, Nat.zero_le _, rfl, by simp [tot]⟩
  case round =>
    obtain ⟨hB, d, hd, rfl, rfl⟩ := hrel
    have HB := Lib.hid hB; clear hB
    by_cases hlt : d < n
    · have hA2 := hA (by omega)
      subst hA2
      have HW := Lib.hid (HR.out.below HB.out)
      have HO := Lib.hid (show OW wr lo hi 2 1 (v d) (m d) (icells (mkI (k + (tot m d : Int)) (m d * 1))) by have := HW.out.row d hlt; unfold mkRows at this; rw [if_pos hlt] at this; exact this)
      have c0 := HW.out.hdr d hlt
      have ht := tot_le m (show d + 1 ≤ n from hlt)
      have HT := Lib.hid (show 0 ≤ k + (tot m d : Int) ∧ k + (tot m d : Int) ≤ 1000000000000 ∧ m d ≤ 35184372088832 by simp only [tot] at ht; omega)
      have n0 : ¬ k + (tot m d : Int) + (m d : Int) < 0 := by omega
      clear ht
      go_wp2_with (first | (go_at_call 42; refine (heldInt64S_any lo hi (v d) (m d) _ _ HO.out HT.out.1 HT.out.2.1 HT.out.2.2).mono ?_; rintro e w2 ⟨rfl, hK2⟩; have HK2 := Lib.hid hK2; clear hK2))
      go_roundw
      case rel => exact ⟨HB.out.trans (HK2.out.mono HB.out.size), d + 1, by omega, by go_num, by rw [show k + (tot m d : Int) + (m d : Int) = k + (tot m (d + 1) : Int) by simp only [tot]; omega]⟩
      case measure => simp [intOf]; omega
    · have hdn : d = n := by omega
      subst hdn
      go_wp2
      go_ret
      exact ⟨rfl, HB.out⟩
/-- the i-th row -/
def rowAt (xs : List (List Int)) (i : Nat) : List Int := xs.getD i []
def rowLen (xs : List (List Int)) (i : Nat) : Nat := (rowAt xs i).length
/-- v is a row of rows of the call's own (headers and rows in blocks from lo on and below hi); row i bears the cells cs i -/
structure OWS (w : World) (lo hi : Nat) (v : Value) (xs : List (List Int)) (cs : Nat → List Value) : Prop where
  ex : ∃ A c g hv, v = .slice A xs.length c ∧ (xs.length ≤ c ∧ c ≤ 9223372036854775807) ∧ (0 < xs.length → A = some ⟨g, 0, none⟩ ∧ lo ≤ g ∧ g < hi) ∧ RowsW w lo hi g xs.length hv (rowLen xs) cs
  top : hi ≤ w.heap.size
theorem OWS.form0 {w : World} {lo hi : Nat} {v : Value} {xs : List (List Int)} {cs : Nat → List Value} (h : OWS w lo hi v xs cs) : ∃ A c, v = .slice A xs.length c := by
  obtain ⟨A, c, g, hv, rfl, -⟩ := h.ex
  exact ⟨A, c, rfl⟩
theorem OWS.only {w w' : World} {lo hi lo' hi' : Nat} {v : Value} {xs : List (List Int)} {cs : Nat → List Value} (h : OWS w lo hi v xs cs) (k : Only lo' hi' w w') (hd : hi ≤ lo' ∨ hi' ≤ lo) : OWS w' lo hi v xs cs := by
  obtain ⟨A, c, g, hv, rfl, hc, hA, hr⟩ := h.ex
  exact ⟨⟨A, c, g, hv, rfl, hc, hA, ⟨fun i hi' => cell_only k (by have := hA (by omega); omega) (hr.hdr i hi'), fun i hi' => (hr.row i hi').only k hd, hr.apart, hr.out⟩⟩, Nat.le_trans h.top k.size⟩
theorem OWS.to {w w' : World} {lo hi : Nat} {v : Value} {xs : List (List Int)} {cs : Nat → List Value} (h : OWS w lo hi v xs cs) (k : Below w.heap.size w w') : OWS w' lo hi v xs cs :=
  h.only (only_of k w.heap.size w.heap.size) (.inl h.top)
/-- rows of numbers that can be read -/
def RR (w : World) (A : Option Addr) (xs : List (List Int)) : Prop :=
  ∀ k, k < xs.length → ∃ b o A' c', A = some ⟨b, o, none⟩ ∧ b < w.heap.size ∧ w.cell? ⟨b, o + k, none⟩ = some (.slice A' (rowLen xs k) c') ∧ RI w A' (rowAt xs k) ∧ rowLen xs k ≤ c' ∧ rowLen xs k ≤ 9223372036854775807
theorem RR.below {w w' : World} {A : Option Addr} {xs : List (List Int)} (h : RR w A xs) (hb : Below w.heap.size w w') : RR w' A xs := by
  intro k hk
  obtain ⟨b, o, A', c', e, hlt, hc, hr, h1, h2⟩ := h k hk
  exact ⟨b, o, A', c', e, Nat.lt_of_lt_of_le hlt hb.size, (hb.cell (World.block_lt_of_cell? w _ hc)).trans hc, hr.below hb, h1, h2⟩
theorem rowAt_get {xs : List (List Int)} {j : Nat} {p : List Int} (h : xs[j]? = some p) : rowAt xs j = p := by simp [rowAt, List.getD, h]
theorem rowAt_at {xs : List (List Int)} {j : Nat} (h : j < xs.length) : rowAt xs j = xs[j] := rowAt_get (List.getElem?_eq_getElem h)
theorem rowLen_at {xs : List (List Int)} {j : Nat} {p : List Int} (h : xs[j]? = some p) : rowLen xs j = p.length := by rw [rowLen, rowAt_get h]
theorem OW.len {w : World} {lo hi : Nat} {E : TypeId} {size n : Nat} {v : Value} {cells : List Value} (h : OW w lo hi E size v n cells) : n ≤ 9223372036854775807 := by
  obtain ⟨A, c, -, h⟩ := h.form
  rcases h with ⟨-, rfl, -⟩ | ⟨g, cur, -, -, -, -, h1, h2, -⟩ <;> omega
theorem rr_of {w : World} {lo hi : Nat} {A : Option Addr} {n c : Nat} {xs : List (List Int)} (h : OWS w lo hi (.slice A n c) xs (fun i => icells (rowAt xs i))) (hn : n = xs.length) : RR w A xs := by
  obtain ⟨A', c', g, hv, e, -, hA, hr⟩ := h.ex
  injection e with e1 e2 e3
  subst e1
  intro k hk
  obtain ⟨A2, c2, e2, hri, hle⟩ := (hr.row k hk).readsI
  have hc := hr.hdr k hk
  rw [e2] at hc
  refine ⟨g, 0, A2, c2, (hA (by omega)).1, World.block_lt_of_cell? w _ hc, by rw [Nat.zero_add]; exact hc, hri, hle, (hr.row k hk).len⟩
theorem C_of_rr {w : World} {A : Option Addr} {xs : List (List Int)} (h : RR w A xs) (hl : xs.length ≤ 9223372036854775807) : Kd.C (Kd.slice 2 (Kd.int .i64)) w A xs.length xs := by
  refine ⟨rfl, hl, fun hn => ?_⟩
  obtain ⟨b, o, -, -, e, -⟩ := h 0 hn
  refine ⟨_, e, fun j p hj => ?_⟩
  have hjl := (List.getElem?_eq_some_iff.1 hj).1
  obtain ⟨b', o', A', c', e', -, hc, hr, h1, h2⟩ := h j hjl
  rw [e] at e'
  injection e' with e'; injection e' with e1 e2; subst e1 e2
  rw [rowLen_at hj] at hc h1 h2
  rw [rowAt_get hj] at hr
  refine ⟨[.slice A' p.length c'], rfl, ⟨A', c', rfl, h1, C_of_ri hr h2⟩, fun i u hu => ?_⟩
  have e1 : (Kd.slice 2 (Kd.int IntKind.i64)).sz = 1 := rfl
  match i, hu with
  | 0, hu => simp at hu; subst hu; rw [e1, Nat.mul_one, Nat.add_zero, add_off]; exact hc
  | i + 1, hu => simp at hu
theorem rr_of_C {w : World} {A : Option Addr} {xs : List (List Int)} (h : Kd.C (Kd.slice 2 (Kd.int .i64)) w A xs.length xs) : RR w A xs := by
  intro k hk
  obtain ⟨ad, e, hc⟩ := h.2.2 (by omega)
  have e1 : (Kd.slice 2 (Kd.int IntKind.i64)).sz = 1 := rfl
  obtain ⟨c, hcl, ⟨A', c', rfl, hl, hC⟩, hcell⟩ := hc k _ (List.getElem?_eq_getElem hk)
  have h0 := hcell 0 _ rfl
  rw [e1, Nat.mul_one, Nat.add_zero] at h0
  obtain ⟨c0, -, ⟨A0, c0', rfl, -, -⟩, hcell0⟩ := hc 0 _ (List.getElem?_eq_getElem (show 0 < xs.length by omega))
  have h00 := hcell0 0 _ rfl
  have hs : ad.spot = none := by
    have := spot_none h00
    simpa [Addr.add] using this
  obtain ⟨b, o, s⟩ := ad
  simp only at hs
  subst hs
  rw [add_off] at h0
  have hb := World.block_lt_of_cell? w _ h0
  have e2 := rowLen_at (List.getElem?_eq_getElem hk)
  refine ⟨b, o, A', c', e, hb, by rw [e2]; exact h0, by rw [rowAt_at hk]; exact ri_of_C hC, by rw [e2]; exact hl, by rw [e2]; exact hC.2.1⟩
/-- rows that a printed contract tells -/
theorem ows_of_S {w : World} {base : Nat} {v : Value} {xs : List (List Int)} {ok : Nat → Prop} (h : Kd.S (Kd.slice 2 (Kd.int .i64)) 46 w base ok v xs) : OWS w base w.heap.size v xs (fun i => icells (rowAt xs i)) := by
  obtain ⟨f, -, inner, ho, hr⟩ := h
  have hz : xs.zipIdx.length = xs.length := List.length_zipIdx
  rw [hz] at ho
  have e1 : (Kd.tag f (Kd.slice 2 (Kd.int IntKind.i64))).sz = 1 := rfl
  rw [e1] at ho hr
  have each : ∀ i, i < xs.length → ∃ v', inner[i]? = some v' ∧ Kd.R (Kd.int .i64) 2 w base (fun k => (ok k ∧ some k ≠ v.ownBlock) ∧ f k = i) v' (rowAt xs i) := by
    intro i hi
    have hj : xs[i]? = some (rowAt xs i) := by rw [rowAt_at hi]; exact List.getElem?_eq_getElem hi
    obtain ⟨v', hv', hR⟩ := hr.2 i _ (Kd.zip_at hj)
    refine ⟨v', ?_, hR⟩
    have hl : i < inner.length := by rw [hr.1, hz]; omega
    rw [Nat.mul_one, List.drop_eq_getElem_cons hl, List.take_succ_cons, List.take_zero] at hv'
    rw [List.getElem?_eq_getElem hl]
    exact congrArg some (List.cons.inj hv').1
  have hrows : ∀ g c, v = .slice (some ⟨g, 0, none⟩) xs.length c → RowsW w base w.heap.size g xs.length (fun i => inner.getD i default) (rowLen xs) (fun i => icells (rowAt xs i)) := by
    intro g c hv
    subst hv
    have hd : ∀ i v', inner[i]? = some v' → inner.getD i default = v' := fun i v' h => by rw [List.getD_eq_getElem?_getD, h]; rfl
    refine ⟨fun i hi => ?_, fun i hi => ?_, fun i j hi hj hne b hb hb2 => ?_, fun i hi hb => ?_⟩
    · obtain ⟨v', e, -⟩ := each i hi
      rw [hd i v' e]
      exact own_cell ho e
    · obtain ⟨v', e, hR⟩ := each i hi
      simp only [hd i v' e]
      exact ow_of_R hR
    · obtain ⟨v', e, hR⟩ := each i hi
      obtain ⟨v2, e2, hR2⟩ := each j hj
      rw [hd i v' e] at hb
      rw [hd j v2 e2] at hb2
      exact hne ((hR.1 b hb).2.symm.trans (hR2.1 b hb2).2)
    · obtain ⟨v', e, hR⟩ := each i hi
      rw [hd i v' e] at hb
      exact (hR.1 g hb).1.2 rfl
  rcases ho.2 with ⟨rfl, hn⟩ | ⟨g, cap, cur, rfl, hb, hg, hle, hm, hsz, -⟩
  · refine ⟨⟨none, 0, 0, fun _ => .slice none 0 0, by rw [hn], by omega, fun h => by omega, ⟨fun i hi => by omega, fun i hi => by omega, fun i j hi => by omega, fun i hi => by omega⟩⟩, Nat.le_refl _⟩
  · exact ⟨⟨_, cap, g, _, rfl, ⟨hle, by simpa [maxLen] using hm⟩, fun _ => ⟨rfl, hb, (Array.getElem?_eq_some_iff.1 hg).1⟩, hrows g cap rfl⟩, Nat.le_refl _⟩
/-- all numbers together -/
def rowsz0 (xs : List (List Int)) : Nat := tot (rowLen xs) xs.length
theorem rowsz0_row {xs : List (List Int)} {i : Nat} (h : i < xs.length) : rowLen xs i ≤ rowsz0 xs := by
  have := tot_le (rowLen xs) (show i + 1 ≤ xs.length from h)
  rw [tot] at this
  unfold rowsz0
  omega
theorem OWS.congr {w : World} {lo hi : Nat} {v : Value} {xs : List (List Int)} {cs cs' : Nat → List Value} (h : OWS w lo hi v xs cs) (e : ∀ i, i < xs.length → cs i = cs' i) : OWS w lo hi v xs cs' := by
  obtain ⟨A, c, g, hv, e1, hc, hA, hr⟩ := h.ex
  exact ⟨⟨A, c, g, hv, e1, hc, hA, hr.congr e⟩, h.top⟩
def mkS (k : Int) (xs : List (List Int)) (i : Nat) : List Value := icells (mkI (k + (tot (rowLen xs) i : Int)) (rowLen xs i * 1))
theorem markInt64SS_m (lo hi : Nat) (xs : List (List Int)) (m : Nat) (k : Int) (w : World) (hm : m = rowsz0 xs) {v : Value} {cs : Nat → List Value} (h : OWS w lo hi v xs cs) (hk : 0 ≤ k) (hk2 : k + (m : Int) ≤ 1000000000000) (hl : xs.length ≤ 35184372088832) :
    Calls Try.prog 18 #[v, .int .i64 k] w fun e w' => e = .returned (.int .i64 (k + (m : Int))) ∧ OWS w' lo hi v xs (mkS k xs) ∧ Only lo hi w w' := by
  subst hm
  obtain ⟨A, c, g, hv, rfl, hc, hA, hr⟩ := h.ex
  refine (markInt64SS_any lo hi g xs.length c A hv (rowLen xs) cs k w (fun h => (hA h).1) hr hk hk2 hl).mono ?_
  rintro e w' ⟨rfl, h2, h3⟩
  exact ⟨rfl, ⟨⟨A, c, g, hv, rfl, hc, hA, h2.congr fun i hi => by simp only [mkRows, if_pos hi]; rfl⟩, Nat.le_trans h.top h3.size⟩, h3⟩
theorem heldInt64SS_m (lo hi : Nat) (xs : List (List Int)) (m : Nat) (k : Int) (w : World) (hm : m = rowsz0 xs) {v : Value} (h : OWS w lo hi v xs (mkS k xs)) (hk : 0 ≤ k) (hk2 : k + (m : Int) ≤ 1000000000000) (hl : xs.length ≤ 35184372088832) :
    Calls Try.prog 19 #[v, .int .i64 k] w fun e w' => e = .returned (.int .i64 (k + (m : Int))) ∧ Below w.heap.size w w' := by
  subst hm
  obtain ⟨A, c, g, hv, rfl, hc, hA, hr⟩ := h.ex
  exact heldInt64SS_any lo hi g xs.length c A hv (rowLen xs) (mkS k xs) k w (fun h => (hA h).1) (hr.congr fun i hi => by simp only [mkRows, if_pos hi]; rfl) hk hk2 hl
theorem rows_eq {ts us : List (List Int)} (hl : ts.length = us.length) (h : ∀ j, j < ts.length → rowAt ts j = rowAt us j) : ts = us := by
  apply List.ext_getElem hl
  intro j h1 h2
  have := h j h1
  rwa [rowAt_at h1, rowAt_at h2] at this
set_option maxHeartbeats 1000000 in
theorem eqInt64SS_any (A A' : Option Addr) (ts us : List (List Int)) (n m c c' : Nat) (w : World) (hn : n = ts.length) (hm : m = us.length) (hA : RR w A ts) (hA' : RR w A' us) (hl : ts.length ≤ 35184372088832 ∧ rowsz0 ts ≤ 35184372088832) (hl' : us.length ≤ 35184372088832 ∧ rowsz0 us ≤ 35184372088832) :
    Calls Try.prog 14 #[.slice A n c, .slice A' m c'] w fun e w' => e = .returned (.bool (decide (ts = us))) ∧ Below w.heap.size w w' := by
  have HA := Lib.hid hA; have HA' := Lib.hid hA'; clear hA hA'
  by_cases hlen : n = m
  · have HL := Lib.hid (show ts.length = us.length by omega); have HN := Lib.hid hn; have HM := Lib.hid hlen
    have h1 : ((n : Int) != m) = false := by simp [hlen]
    have hn0 : n ≤ 35184372088832 := by omega
    clear hlen hn hm
    go_enter Try.func14, Try.ntmps14
    go_wp2
    go_loopw [5] (fun i wr => Below w.heap.size w wr ∧ ∃ k : Nat, k ≤ n ∧ i = .int .i64 k ∧ ∀ j, j < k → rowAt ts j = rowAt us j) (fun i _ => n - (intOf i).toNat)
    case atStart => exact ⟨Below.refl _ _, 0, by omega, rfl, fun j h => absurd h (by omega)⟩
    case round =>
      obtain ⟨hB, k, hk, rfl, hall⟩ := hrel
      have hT := HA.out.below hB
      have hT' := HA'.out.below hB
      have HB := Lib.hid hB; have HALL := Lib.hid hall; clear hB hall
      by_cases hlt : k < n
      · have k1 : k < ts.length := by have := HN.out; omega
        have k2 : k < us.length := by have := HL.out; omega
        have r1 : rowLen ts k ≤ 35184372088832 := Nat.le_trans (rowsz0_row k1) hl.2
        have r2 : rowLen us k ≤ 35184372088832 := Nat.le_trans (rowsz0_row k2) hl'.2
        have HK := Lib.hid (And.intro k1 k2)
        obtain ⟨b, o, A1, c1, rfl, hb, h0, hr, -⟩ := hT k k1
        obtain ⟨b', o', A2, c2, rfl, hb', h0', hr', -⟩ := hT' k k2
        have HR := Lib.hid hr; have HR' := Lib.hid hr'
        have i1 : (k : Int) < n := by omega
        have i2 : (k : Int) < m := by have := HM.out; omega
        clear hT hT' hr hr' k1 k2
        by_cases he : rowAt ts k = rowAt us k
        · have HE := Lib.hid (show decide (rowAt ts k = rowAt us k) = true by simpa using he); clear he
          go_wp2
          refine wp_region_gro (by kernel_rfl) (by kernel_rfl) ?_
          repeat (first | go_big_quiet_step (((go_at_call 36; exact quiet_call (by have h := eqInt64S_any A1 A2 (rowAt ts k) (rowAt us k) (rowLen ts k) (rowLen us k) c1 c2 (gro wr ‹GP›) rfl rfl (HR.out.below (gro_below wr _)) (HR'.out.below (gro_below wr _)) r1 r2; rw [HE.out] at h; exact h)))) | quiet_step (((go_at_call 36; exact quiet_call (by have h := eqInt64S_any A1 A2 (rowAt ts k) (rowAt us k) (rowLen ts k) (rowLen us k) c1 c2 (gro wr ‹GP›) rfl rfl (HR.out.below (gro_below wr _)) (HR'.out.below (gro_below wr _)) r1 r2; rw [HE.out] at h; exact h)))))
          refine wpQuiet_nil ?_
          intro w1 hB1
          have HB1 := Lib.hid hB1; clear hB1
          go_wp2
          go_roundw
          case rel => exact ⟨HB.out.trans (HB1.out.mono HB.out.size), k + 1, by omega, by go_num, fun j hj => by
            by_cases e : j = k
            · subst e; exact of_decide_eq_true HE.out
            · exact HALL.out j (by omega)⟩
          case measure => simp [intOf]; omega
        · have HE := Lib.hid (show decide (rowAt ts k = rowAt us k) = false by simpa using he); clear he
          go_wp2
          refine wp_region_gro (by kernel_rfl) (by kernel_rfl) ?_
          repeat (first | go_big_quiet_step (((go_at_call 36; exact quiet_call (by have h := eqInt64S_any A1 A2 (rowAt ts k) (rowAt us k) (rowLen ts k) (rowLen us k) c1 c2 (gro wr ‹GP›) rfl rfl (HR.out.below (gro_below wr _)) (HR'.out.below (gro_below wr _)) r1 r2; rw [HE.out] at h; exact h)))) | quiet_step (((go_at_call 36; exact quiet_call (by have h := eqInt64S_any A1 A2 (rowAt ts k) (rowAt us k) (rowLen ts k) (rowLen us k) c1 c2 (gro wr ‹GP›) rfl rfl (HR.out.below (gro_below wr _)) (HR'.out.below (gro_below wr _)) r1 r2; rw [HE.out] at h; exact h)))))
          refine wpQuiet_nil ?_
          intro w1 hB1
          have HB1 := Lib.hid hB1; clear hB1
          go_wp2
          go_ret
          exact ⟨ret_bool (by have : ts ≠ us := fun e => of_decide_eq_false HE.out (by rw [e])
                              simp [this]), HB.out.trans (HB1.out.mono HB.out.size)⟩
      · go_wp2
        go_ret
        exact ⟨ret_bool (by have : ts = us := rows_eq HL.out fun j hj => HALL.out j (by have := HN.out; omega)
                            simp [this]), HB.out⟩
  · have h1 : ((n : Int) != m) = true := by simp; omega
    have HL := Lib.hid (show ts.length ≠ us.length by omega); clear hlen hn hm
    go_enter Try.func14, Try.ntmps14
    go_wp2
    go_ret
    exact ⟨ret_bool (by have : ts ≠ us := fun e => HL.out (by rw [e])
                        simp [this]), Below.refl _ _⟩
end Go.Proofs.Ytgdmflmglkakgaa

/-
  Four rows of numbers that grow, their headers in one block.
-/
namespace Go.Proofs.Ytgdmflmglkakgaa
open Go Go.RowKit Go.Proofs Go.Proofs.YtgdmflmglkakgaaW.PrintWords Go.Proofs.YtgdmflmglkakgaaW.PrintLast Go.Proofs.YtgdmflmglkakgaaW.PrintMore Go.Proofs.Ytgdmflmglkakgaa.Q
set_option linter.unusedVariables false
set_option linter.unusedSimpArgs false

def ok4 (V : Nat → Value) (i : Nat) (k : Nat) : Prop := ∀ j, j < 4 → j ≠ i → some k ≠ (V j).ownBlock
structure O4 (w0 W : World) (g : Nat) (V : Nat → Value) (L : Nat → List Int) : Prop where
  bk : W.heap[g]? = some (.cells #[V 0, V 1, V 2, V 3] 46 (0, 0))
  ge : w0.heap.size ≤ g
  row : ∀ i, i < 4 → Kd.R (Kd.int .i64) 2 W w0.heap.size (ok4 V i) (V i) (L i)
  be : Below w0.heap.size w0 W
theorem O4.to {w0 W W1 : World} {g : Nat} {V : Nat → Value} {L : Nat → List Int} (h : O4 w0 W g V L) (hb : Below W.heap.size W W1) : O4 w0 W1 g V L :=
  ⟨(hb.block g (blk_lt h.bk)).trans h.bk, h.ge, fun i hi => Kd.R_below (h.row i hi) hb, below_to h.be hb⟩
def up4 {α : Type} (V : Nat → α) (i : Nat) (x : α) (j : Nat) : α := if j = i then x else V j
theorem up4_at {α : Type} (V : Nat → α) (i : Nat) (x : α) : up4 V i x i = x := if_pos rfl
theorem up4_ne {α : Type} (V : Nat → α) {i j : Nat} (x : α) (h : j ≠ i) : up4 V i x j = V j := if_neg h
theorem O4.app {w0 W W1 : World} {g i : Nat} {V : Nat → Value} {L : Nat → List Int} {v : Value} {l : List Int} (h : O4 w0 W g V L) (hi : i < 4)
    (ho : Kd.R (Kd.int .i64) 2 W1 w0.heap.size (ok4 V i) v l) (hb : Below w0.heap.size w0 W1) (hg : W.grownBy W1 (V i).ownBlock) (hat : v.ownBlock = (V i).ownBlock ∨ ∃ b, v.ownBlock = some b ∧ W.heap.size ≤ b) :
    O4 w0 (W1.setCell ⟨g, i, none⟩ v) g (up4 V i v) (up4 L i l) := by
  have hne : ∀ j, j < 4 → some g ≠ (V j).ownBlock := fun j hj => Kd.R_ne (h.row j hj) h.bk (by decide)
  have b1 : W1.heap[g]? = some (.cells #[V 0, V 1, V 2, V 3] 46 (0, 0)) := blk_grown h.bk hg (hne i hi)
  have far : ∀ {u : Value} {xs : List Int} {ok : Nat → Prop}, Kd.R (Kd.int .i64) 2 W1 w0.heap.size ok u xs → Kd.R (Kd.int .i64) 2 (W1.setCell ⟨g, i, none⟩ v) w0.heap.size ok u xs := fun hr =>
    Kd.R_mono (Kd.R_far (p := ⟨g, i, none⟩) (Kd.R_types hr b1 (fun q hq => by have : q = 2 := List.mem_singleton.1 hq; subst this; decide)) (fun _ hk => hk.2) v) (fun _ hk => hk.1)
  refine ⟨?_, h.ge, fun j hj => ?_, hb.setCell h.ge v⟩
  · match i, hi with
    | 0, _ => exact blk_put b1 0 v rfl
    | 1, _ => exact blk_put b1 1 v rfl
    | 2, _ => exact blk_put b1 2 v rfl
    | 3, _ => exact blk_put b1 3 v rfl
  · by_cases e : j = i
    · subst e
      rw [up4_at, up4_at]
      exact far (Kd.R_mono ho (fun k hk m hm hne => by rw [up4_ne V v hne]; exact hk m hm hne))
    · rw [up4_ne V v e, up4_ne L l e]
      have h2 := Kd.R_after (ok := fun k => ∀ m, m < 4 → m ≠ j → m ≠ i → some k ≠ (V m).ownBlock) (v := V i) (Kd.R_mono (h.row j hj) (fun k hk => ⟨fun m hm h1 _ => hk m hm h1, hk i hi (Ne.symm e)⟩)) hg hat
      refine far (Kd.R_mono h2 (fun k hk m hm h1 => ?_))
      by_cases e2 : m = i
      · subst e2; rw [up4_at]; exact hk.2
      · rw [up4_ne V v e2]; exact hk.1 m hm h1 e2
theorem O4.ows {w0 W : World} {g : Nat} {V : Nat → Value} {L : Nat → List Int} (h : O4 w0 W g V L) : OWS W w0.heap.size W.heap.size (.slice (some ⟨g, 0, none⟩) 4 4) [L 0, L 1, L 2, L 3] (fun i => icells (rowAt [L 0, L 1, L 2, L 3] i)) := by
  have hl : [L 0, L 1, L 2, L 3].length = 4 := rfl
  have hr : ∀ i, i < 4 → rowAt [L 0, L 1, L 2, L 3] i = L i := fun i hi => by
    match i, hi with
    | 0, _ => rfl
    | 1, _ => rfl
    | 2, _ => rfl
    | 3, _ => rfl
  refine ⟨⟨some ⟨g, 0, none⟩, 4, g, V, rfl, ⟨by rw [hl]; omega, by omega⟩, fun _ => ⟨rfl, h.ge, blk_lt h.bk⟩, ⟨fun i hi => ?_, fun i hi => ?_, fun i j hi hj hne b hb hb2 => ?_, fun i hi hb => ?_⟩⟩, Nat.le_refl _⟩
  · rw [hl] at hi
    match i, hi with
    | 0, _ => exact blk_cell h.bk 0
    | 1, _ => exact blk_cell h.bk 1
    | 2, _ => exact blk_cell h.bk 2
    | 3, _ => exact blk_cell h.bk 3
  · rw [hl] at hi
    simp only [rowLen, hr i hi]
    exact ow_of_R (h.row i hi)
  · rw [hl] at hi hj
    exact (h.row i hi).1 b hb j hj (Ne.symm hne) hb2.symm
  · rw [hl] at hi
    exact Kd.R_ne (h.row i hi) h.bk (by decide) hb.symm
/-- an empty row in a block of its own -/
theorem R_empty {W : World} {b base : Nat} {ok : Nat → Prop} (hb : W.heap[b]? = some (.cells #[] 2 (0, 0))) (hbase : base ≤ b) (hok : ok b) : Kd.R (Kd.int .i64) 2 W base ok (.slice (some ⟨b, 0, none⟩) 0 0) [] := by
  refine ⟨fun k hk => ?_, [], ⟨rfl, .inr ⟨b, 0, #[], rfl, hbase, hb, Nat.le_refl _, by decide, rfl, rfl⟩⟩, ⟨rfl, fun j p hj => by simp at hj⟩⟩
  have : b = k := by simpa [Value.ownBlock] using hk
  subst this
  exact hok
/-- four empty rows, their headers behind them -/
theorem O4.start {w0 W : World} {g : Nat} (b : Nat → Nat) (hg : W.heap[g]? = some (.cells #[.slice (some ⟨b 0, 0, none⟩) 0 0, .slice (some ⟨b 1, 0, none⟩) 0 0, .slice (some ⟨b 2, 0, none⟩) 0 0, .slice (some ⟨b 3, 0, none⟩) 0 0] 46 (0, 0))) (ge : w0.heap.size ≤ g)
    (hb : ∀ i, i < 4 → W.heap[b i]? = some (.cells #[] 2 (0, 0)) ∧ w0.heap.size ≤ b i) (hne : ∀ i j, i < 4 → j < 4 → j ≠ i → b i ≠ b j) (be : Below w0.heap.size w0 W) : O4 w0 W g (fun i => .slice (some ⟨b i, 0, none⟩) 0 0) (fun _ => []) :=
  ⟨hg, ge, fun i hi => R_empty (hb i hi).1 (hb i hi).2 (fun j hj h => by
    intro e
    have e : some (b i) = some (b j) := e
    injection e with e
    exact hne i j hi hj h e), be⟩
end Go.Proofs.Ytgdmflmglkakgaa

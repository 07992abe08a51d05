/-
  Parts of the proof, in their order: Bridge, PStack, Law2, Ext, SortI, PairsS, PairsE, QSpecPairsOfStack.
-/
import Derived.Test.YtnjmgmdpkogocaaPk13
import Derived.Test.YtnjmgmdpkogocaaPk5
import Derived.Test.YtnjmgmdpkogocaaPk2
import Derived.Test.YtnjmgmdpkogocaaWMore
import Derived.Test.YtnjmgmdpkogocaaPk6
import Derived.Test.YtnjmgmdpkogocaaPk3
import Derived.Deep.CutBlock
import Derived.Deep.RegionHeld3
/-
  Words: what the printed contracts tell of memory, as our own words tell it, and the other way about.
-/
namespace Go.Proofs.Ytnjmgmdpkogocaa
open Go Go.RowKit Go.Proofs Go.Proofs.YtnjmgmdpkogocaaW.PrintWords Go.Proofs.Ytnjmgmdpkogocaa.Q
set_option linter.unusedVariables false
set_option linter.unusedSimpArgs false

abbrev STile := Q.S45
def toT (s : STile) : T4 := ⟨s.f0, s.f1, s.f2, s.f3⟩
def toS (t : T4) : STile := ⟨t.a, t.b, t.c, t.d⟩
theorem toT_toS (t : T4) : toT (toS t) = t := rfl
theorem toS_toT (s : STile) : toS (toT s) = s := rfl
theorem map_toTS (l : List T4) : (l.map toS).map toT = l := by simp [List.map_map, Function.comp_def, toT_toS]
theorem map_toST (l : List STile) : (l.map toT).map toS = l := by simp [List.map_map, Function.comp_def, toS_toT]
theorem spot_none {w : World} {a : Addr} {v : Value} (h : w.cell? a = some v) : a.spot = none := by
  unfold World.cell? at h
  split at h
  · split at h
    · exact absurd h (by simp)
    · rename_i hn
      cases hs : a.spot with
      | none => rfl
      | some x => rw [hs] at hn; simp at hn
  · exact absurd h (by simp)
theorem tk_map (l : List STile) (k : Nat) (h : k < l.length) : tk (l.map toT) k = toT l[k] := by
  simp [tk, List.getD, List.getElem?_map, List.getElem?_eq_getElem h]
theorem rt_of_C {w : World} {A : Option Addr} {l : List STile} (h : Kd.C k45 w A l.length l) : RT w A (l.map toT) := by
  intro k hk
  rw [List.length_map] at hk
  obtain ⟨ad, e, hc⟩ := h.2.2 (by omega)
  have g : ∀ j (hj : j < l.length) i v, ([.int .i64 l[j].f0, .int .i64 l[j].f1, .int .i64 l[j].f2, .int .i64 l[j].f3] : List Value)[i]? = some v → w.cell? (ad.add (j * 4 + i)) = some v := by
    intro j hj i v hv
    obtain ⟨c, hcl, hK, hcell⟩ := hc j l[j] (List.getElem?_eq_getElem hj)
    rw [k45_open hK] at hcell
    exact hcell i v hv
  have h0 := g 0 (by omega) 0 _ rfl
  have hs : ad.spot = none := by
    have := spot_none h0
    simpa [Addr.add] using this
  obtain ⟨b, o, s⟩ := ad
  simp only at hs
  subst hs
  have hb : b < w.heap.size := by
    have := World.block_lt_of_cell? w _ h0
    simpa [Addr.add] using this
  refine ⟨b, o, e, hb, ?_, ?_, ?_, ?_⟩ <;> rw [tk_map _ _ hk]
  · have := g k hk 0 _ rfl; rwa [add_off] at this
  · have := g k hk 1 _ rfl; rwa [add_off, ← Nat.add_assoc] at this
  · have := g k hk 2 _ rfl; rwa [add_off, ← Nat.add_assoc] at this
  · have := g k hk 3 _ rfl; rwa [add_off, ← Nat.add_assoc] at this
theorem C_of_rt {w : World} {A : Option Addr} {ts : List T4} (h : RT w A ts) (hl : ts.length ≤ 9223372036854775807) : Kd.C k45 w A (ts.map toS).length (ts.map toS) := by
  refine ⟨rfl, by simpa using hl, fun hn => ?_⟩
  rw [List.length_map] at hn
  obtain ⟨b, o, e, hb, -⟩ := h 0 hn
  refine ⟨_, e, fun j p hj => ?_⟩
  have hjl : j < ts.length := by have := (List.getElem?_eq_some_iff.1 hj).1; simpa using this
  have hp : p = toS (tk ts j) := by
    rw [List.getElem?_map, List.getElem?_eq_getElem hjl] at hj
    simp only [Option.map_some, Option.some.injEq] at hj
    rw [← hj]; simp [tk, List.getD, List.getElem?_eq_getElem hjl]
  subst hp
  obtain ⟨b', o', e', -, c0, c1, c2, c3⟩ := h j hjl
  rw [e] at e'
  injection e' with e'; injection e' with e1 e2; subst e1 e2
  refine ⟨_, rfl, k45_mk w (toS (tk ts j)), fun i u hu => ?_⟩
  rw [add_off, ← Nat.add_assoc]
  match i, hu with
  | 0, hu => simp at hu; subst hu; exact c0
  | 1, hu => simp at hu; subst hu; exact c1
  | 2, hu => simp at hu; subst hu; exact c2
  | 3, hu => simp at hu; subst hu; exact c3
  | i + 4, hu => simp at hu
theorem ri_of_C {w : World} {A : Option Addr} {l : List Int} (h : Kd.C (Kd.int .i64) w A l.length l) : RI w A l := by
  intro k hk
  obtain ⟨ad, e, hc⟩ := h.2.2 (by omega)
  have g : ∀ j (hj : j < l.length), w.cell? (ad.add j) = some (.int .i64 l[j]) := by
    intro j hj
    obtain ⟨c, hcl, hK, hcell⟩ := hc j l[j] (List.getElem?_eq_getElem hj)
    have hK' : c = [.int .i64 l[j]] := hK
    subst hK'
    have := hcell 0 _ rfl
    have e1 : (Kd.int IntKind.i64).sz = 1 := rfl
    rwa [e1, Nat.mul_one, Nat.add_zero] at this
  have h0 := g 0 (by omega)
  have hs : ad.spot = none := by
    have := spot_none h0
    simpa [Addr.add] using this
  obtain ⟨b, o, s⟩ := ad
  simp only at hs
  subst hs
  have hb : b < w.heap.size := by
    have := World.block_lt_of_cell? w _ h0
    simpa [Addr.add] using this
  refine ⟨b, o, e, hb, ?_⟩
  have := g k hk
  rw [add_off] at this
  rw [this]
  simp [ik, List.getD, List.getElem?_eq_getElem hk]
theorem C_of_ri {w : World} {A : Option Addr} {xs : List Int} (h : RI w A xs) (hl : xs.length ≤ 9223372036854775807) : Kd.C (Kd.int .i64) w A xs.length xs := by
  refine ⟨rfl, hl, fun hn => ?_⟩
  obtain ⟨b, o, e, hb, -⟩ := h 0 hn
  refine ⟨_, e, fun j p hj => ?_⟩
  have hjl := (List.getElem?_eq_some_iff.1 hj).1
  have hp : p = ik xs j := by
    rw [List.getElem?_eq_getElem hjl] at hj
    simp only [Option.some.injEq] at hj
    rw [← hj]; simp [ik, List.getD, List.getElem?_eq_getElem hjl]
  subst hp
  obtain ⟨b', o', e', -, c0⟩ := h j hjl
  rw [e] at e'
  injection e' with e'; injection e' with e1 e2; subst e1 e2
  refine ⟨[.int .i64 (ik xs j)], rfl, rfl, fun i u hu => ?_⟩
  have e1 : (Kd.int IntKind.i64).sz = 1 := rfl
  match i, hu with
  | 0, hu => simp at hu; subst hu; rw [e1, Nat.mul_one, Nat.add_zero, add_off]; exact c0
  | i + 1, hu => simp at hu
/-- a row of numbers that a printed contract tells -/
theorem ow_of_R {w : World} {base : Nat} {e : TypeId} {v : Value} {xs : List Int} {ok : Nat → Prop} (h : Kd.R (Kd.int .i64) e w base ok v xs) : OW w base w.heap.size e 1 v xs.length (icells xs) := by
  obtain ⟨-, inner, ho, hr⟩ := h
  have e1 : (Kd.int IntKind.i64).sz = 1 := rfl
  have : inner = icells xs := by
    apply List.ext_getElem?
    intro j
    by_cases hj : j < xs.length
    · have h2 := hr.2 j _ (List.getElem?_eq_getElem hj)
      have hl : j < inner.length := by rw [hr.1, e1]; omega
      rw [e1, Nat.mul_one, List.drop_eq_getElem_cons hl, List.take_succ_cons, List.take_zero] at h2
      have h3 : [inner[j]] = [Value.int .i64 xs[j]] := h2
      rw [List.getElem?_eq_getElem hl, icells, List.getElem?_map, List.getElem?_eq_getElem hj]
      simpa using h3
    · rw [List.getElem?_eq_none (by rw [hr.1, e1]; omega), List.getElem?_eq_none (by rw [icells_length]; omega)]
  subst this
  exact OW.of ho
end Go.Proofs.Ytnjmgmdpkogocaa

/-
  Plain: which tiles are stacked, as the program lists them; pairs of colours, each once.
-/
namespace Go.Proofs.Ytnjmgmdpkogocaa
open Go Go.RowKit Go.Proofs Go.Proofs.YtnjmgmdpkogocaaW.PrintWords Go.Proofs.YtnjmgmdpkogocaaW.PrintMore Go.Proofs.Ytnjmgmdpkogocaa.Q
set_option linter.unusedVariables false
set_option linter.unusedSimpArgs false

abbrev SPos := Q.S100
theorem one_wrap (m : Nat) (h : m < 1000000000) : wrap64 ((m : Int) + 1) = ((m + 1 : Nat) : Int) := by unfold wrap64; omega
theorem rdT_at (l : List STile) (i : Nat) (h : i < l.length) : rd_T45 l (i : Int) = l[i] := by
  simp [rd_T45, List.getD_eq_getElem?_getD, List.getElem?_eq_getElem h]
/-- the places of the tiles below that fit tile i, from k on -/
def posK (s : STile) (i : Nat) (ts : List STile) : Nat → Nat → List SPos
  | 0, _ => []
  | d + 1, k => (if s.f3 = (rd_T45 ts (k : Int)).f1 then [⟨(i : Int), (k : Int)⟩] else []) ++ posK s i ts d (k + 1)
def posI (ss ts : List STile) : Nat → Nat → List SPos
  | 0, _ => []
  | d + 1, i => posK (rd_T45 ss (i : Int)) i ts ts.length 0 ++ posI ss ts d (i + 1)
def posL (ss ts : List STile) : List SPos := posI ss ts ss.length 0
theorem posK_len (s : STile) (i : Nat) (ts : List STile) : ∀ d k, (posK s i ts d k).length ≤ d := by
  intro d
  induction d with
  | zero => intro k; simp [posK]
  | succ d ih =>
    intro k
    have := ih (k + 1)
    rw [posK, List.length_append]
    split <;> simp <;> omega
theorem posI_len (ss ts : List STile) : ∀ d i, (posI ss ts d i).length ≤ d * ts.length := by
  intro d
  induction d with
  | zero => intro i; simp [posI]
  | succ d ih =>
    intro i
    have h1 := ih (i + 1)
    have h2 := posK_len (rd_T45 ss (i : Int)) i ts ts.length 0
    rw [posI, List.length_append, Nat.succ_mul]
    omega
theorem posK_mem {s : STile} {i : Nat} {ts : List STile} : ∀ d k, ∀ p ∈ posK s i ts d k, p.f0 = (i : Int) ∧ 0 ≤ p.f1 ∧ p.f1 < ((k + d : Nat) : Int) := by
  intro d
  induction d with
  | zero => intro k p hp; simp [posK] at hp
  | succ d ih =>
    intro k p hp
    rw [posK, List.mem_append] at hp
    rcases hp with hp | hp
    · split at hp
      · simp only [List.mem_singleton] at hp
        subst hp
        exact ⟨rfl, by simp, by simp; omega⟩
      · simp at hp
    · obtain ⟨h1, h2, h3⟩ := ih (k + 1) p hp
      exact ⟨h1, h2, by omega⟩
theorem posI_mem {ss ts : List STile} : ∀ d i, ∀ p ∈ posI ss ts d i, 0 ≤ p.f0 ∧ p.f0 < ((i + d : Nat) : Int) ∧ 0 ≤ p.f1 ∧ p.f1 < (ts.length : Int) := by
  intro d
  induction d with
  | zero => intro i p hp; simp [posI] at hp
  | succ d ih =>
    intro i p hp
    rw [posI, List.mem_append] at hp
    rcases hp with hp | hp
    · obtain ⟨h1, h2, h3⟩ := posK_mem _ _ p hp
      exact ⟨by omega, by omega, h2, by omega⟩
    · obtain ⟨h1, h2, h3⟩ := ih (i + 1) p hp
      exact ⟨h1, by omega, h3⟩
theorem posL_mem {ss ts : List STile} {p : SPos} (h : p ∈ posL ss ts) : 0 ≤ p.f0 ∧ p.f0 < (ss.length : Int) ∧ 0 ≤ p.f1 ∧ p.f1 < (ts.length : Int) := by
  have := posI_mem _ _ p h
  rw [Nat.zero_add] at this
  exact this
theorem stacked_l1 (ss ts : List STile) (hs : ss.length ≤ 1000) (ht : ts.length ≤ 1000) (i : Nat) (s : STile) (r : List SPos) :
    ∀ d k (out : List SPos), k + d = ts.length → out.length + d ≤ 4000000 → (∀ out', out' = out ++ posK s i ts d k → Ev (fun n => impl_stacked.l0 n ts out' ss (ss.length : Int) (wrap64 ((i : Int) + 1))) r) →
    Ev (fun n => impl_stacked.l1 n ts out (i : Int) ss (ss.length : Int) (i : Int) ts (ts.length : Int) (k : Int) s.f0 s.f1 s.f2 s.f3) r := by
  intro d
  induction d with
  | zero =>
    intro k out hk ho h
    have b1 : ¬ (k : Int) < (ts.length : Int) := by omega
    refine Ev.step (fun n => ?_) (h out (by simp [posK]))
    rw [impl_stacked.l1, if_neg b1]
  | succ d ih =>
    intro k out hk ho h
    have b1 : (k : Int) < (ts.length : Int) := by omega
    have b2 : (0 : Int) ≤ (k : Int) := Int.natCast_nonneg k
    by_cases hq : s.f3 = (rd_T45 ts (k : Int)).f1
    · have b3 : out.length < 8796093022208 := by omega
      refine Ev.step (fun n => ?_) (ih (k + 1) (out ++ [⟨(i : Int), (k : Int)⟩]) (by omega) (by simp; omega) (fun out' e => h out' (by rw [e, posK, if_pos hq]; simp)))
      rw [impl_stacked.l1, if_pos b1, if_pos b2, if_pos b1, if_pos hq, if_pos b3, one_wrap k (by omega)]
    · refine Ev.step (fun n => ?_) (ih (k + 1) out (by omega) (by omega) (fun out' e => h out' (by rw [e, posK, if_neg hq]; simp)))
      rw [impl_stacked.l1, if_pos b1, if_pos b2, if_pos b1, if_neg hq, one_wrap k (by omega)]
theorem stacked_l0 (ss ts : List STile) (hs : ss.length ≤ 1000) (ht : ts.length ≤ 1000) :
    ∀ d i (out : List SPos), i + d = ss.length → out.length ≤ i * ts.length → Ev (fun n => impl_stacked.l0 n ts out ss (ss.length : Int) (i : Int)) (out ++ posI ss ts d i) := by
  intro d
  induction d with
  | zero =>
    intro i out hi ho
    have b1 : ¬ (i : Int) < (ss.length : Int) := by omega
    refine Ev.step (f := fun _ => some out) (fun n => ?_) (by rw [posI, List.append_nil]; exact Ev.now _)
    rw [impl_stacked.l0, if_neg b1]
  | succ d ih =>
    intro i out hi ho
    have b1 : (i : Int) < (ss.length : Int) := by omega
    have b2 : (0 : Int) ≤ (i : Int) := Int.natCast_nonneg i
    have h3 : i * ts.length ≤ 1000 * 1000 := Nat.mul_le_mul (by omega) ht
    have hl := posK_len (rd_T45 ss (i : Int)) i ts ts.length 0
    refine Ev.step (fun n => ?_) (stacked_l1 ss ts hs ht i (rd_T45 ss (i : Int)) _ ts.length 0 out (by omega) (by omega) (fun out' e => ?_))
    · rw [impl_stacked.l0, if_pos b1, if_pos b2, if_pos b1]; rfl
    · rw [one_wrap i (by omega), posI, ← List.append_assoc, ← e]
      refine ih (i + 1) out' (by omega) ?_
      rw [e, List.length_append, Nat.succ_mul]; omega
theorem stacked_ev (ss ts : List STile) (hs : ss.length ≤ 1000) (ht : ts.length ≤ 1000) : Ev (fun n => impl_stacked.f n ss ts) (posL ss ts) := by
  have h := stacked_l0 ss ts hs ht ss.length 0 [] (by omega) (by simp)
  rw [List.nil_append] at h
  exact Ev.congr (fun n => by rw [impl_stacked.f]; rfl) h
/-- the pairs at the sides of a stacked pair -/
def pairsAt (ss ts : List T4) (p : SPos) : List (Int × Int) := [((tk ss p.f0.toNat).get 0, (tk ts p.f1.toNat).get 0), ((tk ss p.f0.toNat).get 2, (tk ts p.f1.toNat).get 2)]
theorem posK_met (s : STile) (i : Nat) (ss ts : List STile) (hi : i < ss.length) (hs : s = ss[i]) : ∀ d k, k + d = ts.length →
    (posK s i ts d k).flatMap (pairsAt (ss.map toT) (ts.map toT)) = ((ts.map toT).drop k).flatMap fun t => if (toT s).get 3 = t.get 1 then [((toT s).get 0, t.get 0), ((toT s).get 2, t.get 2)] else [] := by
  intro d
  induction d with
  | zero => intro k hk; rw [List.drop_of_length_le (by simp; omega)]; simp [posK]
  | succ d ih =>
    intro k hk
    have hlt : k < ts.length := by omega
    have hd : (ts.map toT).drop k = toT ts[k] :: (ts.map toT).drop (k + 1) := by
      rw [List.drop_eq_getElem_cons (by simp; omega), List.getElem_map]
    rw [hd, posK, List.flatMap_append, ih (k + 1) (by omega), List.flatMap_cons, rdT_at ts k hlt]
    congr 1
    by_cases h : s.f3 = ts[k].f1
    · rw [if_pos h, if_pos (show (toT s).get 3 = (toT ts[k]).get 1 from h)]
      simp only [List.flatMap_cons, List.flatMap_nil, List.append_nil, pairsAt, Int.toNat_natCast]
      rw [tk_map ss i hi, tk_map ts k hlt, ← hs]
    · rw [if_neg h, if_neg (show ¬ (toT s).get 3 = (toT ts[k]).get 1 from h)]
      rfl
theorem posI_met (ss ts : List STile) : ∀ d i, i + d = ss.length →
    (posI ss ts d i).flatMap (pairsAt (ss.map toT) (ts.map toT)) = metPairs ((ss.map toT).drop i) (ts.map toT) := by
  intro d
  induction d with
  | zero => intro i hi; rw [List.drop_of_length_le (by simp; omega)]; simp [posI, metPairs]
  | succ d ih =>
    intro i hi
    have hlt : i < ss.length := by omega
    have hd : (ss.map toT).drop i = toT ss[i] :: (ss.map toT).drop (i + 1) := by
      rw [List.drop_eq_getElem_cons (by simp; omega), List.getElem_map]
    rw [hd, posI, List.flatMap_append, ih (i + 1) (by omega), rdT_at ss i hlt, posK_met ss[i] i ss ts hlt rfl ts.length 0 (by omega), List.drop_zero]
    simp [metPairs]
theorem posL_met (ss ts : List STile) : (posL ss ts).flatMap (pairsAt (ss.map toT) (ts.map toT)) = metPairs (ss.map toT) (ts.map toT) := by
  have := posI_met ss ts ss.length 0 (by omega)
  rw [List.drop_zero] at this
  exact this
/-- each once, in the order in which they come first -/
def nub1 (xs : List (Int × Int)) (p : Int × Int) : List (Int × Int) := if p ∈ xs then xs else xs ++ [p]
def nubP (l : List (Int × Int)) : List (Int × Int) := l.foldl nub1 []
theorem nub_spec : ∀ (l xs : List (Int × Int)), xs.Nodup → (l.foldl nub1 xs).Nodup ∧ (∀ p, p ∈ l.foldl nub1 xs ↔ p ∈ xs ∨ p ∈ l) ∧ (l.foldl nub1 xs).length ≤ xs.length + l.length := by
  intro l
  induction l with
  | nil => intro xs h; exact ⟨h, fun p => by simp, by simp⟩
  | cons q l ih =>
    intro xs h
    rw [List.foldl_cons]
    by_cases hq : q ∈ xs
    · have e : nub1 xs q = xs := if_pos hq
      rw [e]
      obtain ⟨h1, h2, h3⟩ := ih xs h
      refine ⟨h1, fun p => ?_, by simp; omega⟩
      rw [h2, List.mem_cons]
      constructor
      · rintro (h | h)
        · exact .inl h
        · exact .inr (.inr h)
      · rintro (h | rfl | h)
        · exact .inl h
        · exact .inl hq
        · exact .inr h
    · have e : nub1 xs q = xs ++ [q] := if_neg hq
      rw [e]
      have hn : (xs ++ [q]).Nodup := by
        rw [List.nodup_append]
        exact ⟨h, by simp, fun a ha b hb => by simp at hb; subst hb; exact fun e => hq (e ▸ ha)⟩
      obtain ⟨h1, h2, h3⟩ := ih _ hn
      refine ⟨h1, fun p => ?_, by simp at h3 ⊢; omega⟩
      rw [h2, List.mem_cons, List.mem_append, List.mem_singleton]
      constructor
      · rintro ((h | h) | h)
        · exact .inl h
        · exact .inr (.inl h)
        · exact .inr (.inr h)
      · rintro (h | h | h)
        · exact .inl (.inl h)
        · exact .inl (.inr h)
        · exact .inr h
theorem nubP_nodup (l : List (Int × Int)) : (nubP l).Nodup := (nub_spec l [] List.nodup_nil).1
theorem nubP_mem (l : List (Int × Int)) (p : Int × Int) : p ∈ nubP l ↔ p ∈ l := by
  have := (nub_spec l [] List.nodup_nil).2.1 p
  simpa [nubP] using this
theorem nubP_len (l : List (Int × Int)) : (nubP l).length ≤ l.length := by
  have := (nub_spec l [] List.nodup_nil).2.2
  simpa [nubP] using this
theorem nubP_snoc (l : List (Int × Int)) (p : Int × Int) : nubP (l ++ [p]) = if p ∈ nubP l then nubP l else nubP l ++ [p] := by
  have e : nubP (l ++ [p]) = nub1 (nubP l) p := by unfold nubP; rw [List.foldl_append]; rfl
  rw [e]
  by_cases h : p ∈ nubP l
  · rw [if_pos h]; exact if_pos h
  · rw [if_neg h]; exact if_neg h
/-- what PairsOfStack returns, as pairs -/
theorem pairOf_f (s t : T4) (j : Nat) (hj : j = 0 ∨ j = 2) : impl_pairOf.f (s.get 0) (s.get 1) (s.get 2) (s.get 3) (t.get 0) (t.get 1) (t.get 2) (t.get 3) (j : Int) = some (s.get j, t.get j) := by
  rcases hj with rfl | rfl <;> rfl
/-- a place of a list of places, in memory -/
theorem pos_of_C {w : World} {A : Option Addr} {l : List SPos} (h : Kd.C k100 w A l.length l) {q : Nat} (hq : q < l.length) :
    ∃ b o, A = some ⟨b, o, none⟩ ∧ b < w.heap.size ∧ w.cell? ⟨b, o + q * 2, none⟩ = some (.int .i64 l[q].f0) ∧ w.cell? ⟨b, o + q * 2 + 1, none⟩ = some (.int .i64 l[q].f1) := by
  obtain ⟨ad, e, hc⟩ := h.2.2 (by omega)
  have g : ∀ j (hj : j < l.length) i v, ([.int .i64 l[j].f0, .int .i64 l[j].f1] : List Value)[i]? = some v → w.cell? (ad.add (j * 2 + i)) = some v := by
    intro j hj i v hv
    obtain ⟨c, hcl, hK, hcell⟩ := hc j l[j] (List.getElem?_eq_getElem hj)
    rw [k100_open hK] at hcell
    exact hcell i v hv
  have h0 := g 0 (by omega) 0 _ rfl
  have hs : ad.spot = none := by
    have := spot_none h0
    simpa [Addr.add] using this
  obtain ⟨b, o, s⟩ := ad
  simp only at hs
  subst hs
  have hb : b < w.heap.size := by
    have := World.block_lt_of_cell? w _ h0
    simpa [Addr.add] using this
  refine ⟨b, o, e, hb, ?_, ?_⟩
  · have := g q hq 0 _ rfl; rwa [add_off] at this
  · have := g q hq 1 _ rfl; rwa [add_off, ← Nat.add_assoc] at this
end Go.Proofs.Ytnjmgmdpkogocaa

/-
  The laws' functions on rows of rows of numbers: what is marked and what is held.
-/
namespace Go.Proofs.Ytnjmgmdpkogocaa
open Go Go.RowKit Go.Proofs Go.Proofs.YtnjmgmdpkogocaaW.PrintWords Go.Proofs.Ytnjmgmdpkogocaa.Q
set_option linter.unusedVariables false
set_option linter.unusedSimpArgs false

/-- a row's own block alone -/
theorem OW.narrow {w : World} {lo hi : Nat} {E : TypeId} {size n : Nat} {v : Value} {cells : List Value} (h : OW w lo hi E size v n cells) :
    ∃ l u, OW w l u E size v n cells ∧ ∀ b, l ≤ b → b < u → v.ownBlock = some b := by
  obtain ⟨h1, h2⟩ := h.own
  rcases h2 with h2 | ⟨g, cap, cur, hv, hg, hh, r⟩
  · refine ⟨0, 0, ⟨⟨h1, .inl h2⟩, fun b hb => ?_, Nat.zero_le _⟩, fun b _ hb => absurd hb (Nat.not_lt_zero _)⟩
    rw [h2.1] at hb
    simp [Value.ownBlock] at hb
  · have hb : v.ownBlock = some g := by rw [hv]; rfl
    have hl := h.up g hb
    refine ⟨g, g + 1, ⟨⟨h1, .inr ⟨g, cap, cur, hv, Nat.le_refl _, hh, r⟩⟩, fun b hb2 => ?_, Nat.lt_of_lt_of_le hl h.top⟩, fun b h3 h4 => ?_⟩
    · have : g = b := Option.some.inj (hb.symm.trans hb2)
      omega
    · rw [hb, show b = g by omega]
/-- a row whose block is not among those that changed -/
theorem OW.apart {w w' : World} {lo hi lo' hi' : Nat} {E : TypeId} {size n : Nat} {v : Value} {cells : List Value} (h : OW w lo hi E size v n cells) (k : Only lo' hi' w w')
    (hd : ∀ b, lo' ≤ b → b < hi' → v.ownBlock ≠ some b) : OW w' lo hi E size v n cells := by
  refine ⟨?_, h.up, Nat.le_trans h.top k.size⟩
  obtain ⟨h1, h2⟩ := h.own
  refine ⟨h1, ?_⟩
  rcases h2 with h2 | ⟨g, cap, cur, hv, hg, hh, r⟩
  · exact .inl h2
  · refine .inr ⟨g, cap, cur, hv, hg, ?_, r⟩
    have hb : v.ownBlock = some g := by rw [hv]; rfl
    have hu := h.up g hb
    exact (k.block g (Nat.lt_of_lt_of_le hu h.top) (by
      by_cases h1 : lo' ≤ g
      · by_cases h2 : g < hi'
        · exact absurd hb (hd g h1 h2)
        · exact .inr (by omega)
      · exact .inl (by omega))).trans hh
def tot (m : Nat → Nat) : Nat → Nat
  | 0 => 0
  | n + 1 => tot m n + m n
theorem tot_le (m : Nat → Nat) {i n : Nat} (h : i ≤ n) : tot m i ≤ tot m n := by
  induction n with
  | zero => rw [Nat.le_zero.1 h]; exact Nat.le_refl _
  | succ n ih =>
    rcases Nat.lt_or_ge i (n + 1) with h1 | h1
    · exact Nat.le_trans (ih (by omega)) (Nat.le_add_right _ _)
    · rw [show i = n + 1 by omega]; exact Nat.le_refl _
/-- n rows of numbers, the i-th with header v i, m i long, cells cs i; the headers lie in block g; no two rows share a block, none lies in block g -/
structure RowsE (E : TypeId) (w : World) (lo hi g n : Nat) (v : Nat → Value) (m : Nat → Nat) (cs : Nat → List Value) : Prop where
  hdr : ∀ i, i < n → w.cell? ⟨g, i, none⟩ = some (v i)
  row : ∀ i, i < n → OW w lo hi E 1 (v i) (m i) (cs i)
  apart : ∀ i j, i < n → j < n → i ≠ j → ∀ b, (v i).ownBlock = some b → (v j).ownBlock ≠ some b
  out : ∀ i, i < n → (v i).ownBlock ≠ some g
abbrev RowsW := RowsE 2
theorem RowsE.below {E : TypeId} {w w' : World} {lo hi g n : Nat} {v : Nat → Value} {m : Nat → Nat} {cs : Nat → List Value} (h : RowsE E w lo hi g n v m cs) (k : Below w.heap.size w w') : RowsE E w' lo hi g n v m cs :=
  ⟨fun i hi => k.cell (World.block_lt_of_cell? w _ (h.hdr i hi)) |>.trans (h.hdr i hi), fun i hi => (h.row i hi).to k, h.apart, h.out⟩
/-- one row written anew -/
theorem RowsE.set {E : TypeId} {w w' : World} {lo hi g n : Nat} {v : Nat → Value} {m : Nat → Nat} {cs : Nat → List Value} (h : RowsE E w lo hi g n v m cs) {i : Nat} (hi' : i < n) {l u : Nat} (k : Only l u w w')
    (hk : ∀ b, l ≤ b → b < u → (v i).ownBlock = some b) {c : List Value} (hr : OW w' lo hi E 1 (v i) (m i) c) : RowsE E w' lo hi g n v m (fun j => if j = i then c else cs j) := by
  refine ⟨fun j hj => ?_, fun j hj => ?_, h.apart, h.out⟩
  · refine cell_only k ?_ (h.hdr j hj)
    by_cases h1 : l ≤ g
    · by_cases h2 : g < u
      · exact absurd (hk g h1 h2) (h.out i hi')
      · exact .inr (by omega)
    · exact .inl (by omega)
  · by_cases e : j = i
    · subst e; simpa using hr
    · simp only [if_neg e]
      exact (h.row j hj).apart k fun b h1 h2 => h.apart i j hi' hj (fun e2 => e e2.symm) b (hk b h1 h2)
theorem Only.into {lo hi l u : Nat} {w w' : World} (h : Only l u w w') (k : ∀ b, l ≤ b → b < u → lo ≤ b ∧ b < hi) : Only lo hi w w' :=
  ⟨h.os, h.tape, h.output, h.size, fun i hi' hd => h.block i hi' (by
    by_cases h1 : l ≤ i
    · by_cases h2 : i < u
      · have := k i h1 h2
        omega
      · exact .inr (by omega)
    · exact .inl (by omega))⟩
theorem OW.inside {w : World} {lo hi : Nat} {E : TypeId} {size n : Nat} {v : Value} {cells : List Value} (h : OW w lo hi E size v n cells) {b : Nat} (hb : v.ownBlock = some b) : lo ≤ b ∧ b < hi :=
  ⟨(h.own.lt b hb).1, h.up b hb⟩
theorem OW.into {w : World} {lo hi l u : Nat} {E : TypeId} {size n : Nat} {v : Value} {cells : List Value} (h : OW w l u E size v n cells) (k : ∀ b, v.ownBlock = some b → lo ≤ b ∧ b < hi) (ht : hi ≤ w.heap.size) : OW w lo hi E size v n cells := by
  refine ⟨?_, fun b hb => (k b hb).2, ht⟩
  obtain ⟨h1, h2⟩ := h.own
  refine ⟨h1, ?_⟩
  rcases h2 with h2 | ⟨g, cap, cur, hv, hg, r⟩
  · exact .inl h2
  · exact .inr ⟨g, cap, cur, hv, (k g (by rw [hv]; rfl)).1, r⟩
theorem RowsE.congr {E : TypeId} {w : World} {lo hi g n : Nat} {v : Nat → Value} {m : Nat → Nat} {cs cs' : Nat → List Value} (h : RowsE E w lo hi g n v m cs) (e : ∀ i, i < n → cs i = cs' i) : RowsE E w lo hi g n v m cs' :=
  ⟨h.hdr, fun i hi => by rw [← e i hi]; exact h.row i hi, h.apart, h.out⟩
/-- the cells behind d rows marked from k on -/
def mkRows (k : Int) (m : Nat → Nat) (cs : Nat → List Value) (d : Nat) : Nat → List Value := fun j => if j < d then icells (mkI (k + (tot m j : Int)) (m j * 1)) else cs j
set_option maxHeartbeats 1000000 in
theorem markInt64SS_any (lo hi g n c : Nat) {E : TypeId} (A : Option Addr) (v : Nat → Value) (m : Nat → Nat) (cs : Nat → List Value) (k : Int) (w : World) (hA : 0 < n → A = some ⟨g, 0, none⟩) (h : RowsE E w lo hi g n v m cs) (hk : 0 ≤ k) (hk2 : k + (tot m n : Int) ≤ 1000000000000) (hl : n ≤ 35184372088832) :
    Calls Try.prog 47 #[.slice A n c, .int .i64 k] w fun e w' => e = .returned (.int .i64 (k + (tot m n : Int))) ∧ RowsE E w' lo hi g n v m (mkRows k m cs n) ∧ Only lo hi w w' := by
  have HR := Lib.hid h; clear h
  go_enter Try.func47, Try.ntmps47
  go_wp2
  go_loopw [1, 5] (fun kk i wr => Only lo hi w wr ∧ ∃ d : Nat, d ≤ n ∧ i = .int .i64 d ∧ kk = .int .i64 (k + (tot m d : Int)) ∧ RowsE E wr lo hi g n v m (mkRows k m cs d)) (fun _ i _ => n - (intOf i).toNat)
  case atStart => exact ⟨Only.refl _ _ _, 0, Nat.zero_le _, rfl, by simp [tot], HR.out.congr fun j _ => by simp [mkRows]⟩
  case round =>
    obtain ⟨hB, d, hd, rfl, rfl, hrows⟩ := hrel
    have HB := Lib.hid hB; have HW := Lib.hid hrows; clear hB hrows
    by_cases hlt : d < n
    · have hA2 := hA (by omega)
      subst hA2
      obtain ⟨l, u, hO, hn⟩ := (HW.out.row d hlt).narrow
      have HO := Lib.hid hO; have HN := Lib.hid hn; clear hO hn
      have c0 := HW.out.hdr d hlt
      have ht := tot_le m (show d + 1 ≤ n from hlt)
      have HT := Lib.hid (show 0 ≤ k + (tot m d : Int) ∧ k + (tot m d : Int) ≤ 1000000000000 ∧ m d ≤ 35184372088832 by simp only [tot] at ht; omega)
      clear ht
      go_wp2_with (first | (go_at_call 43; refine (markInt64S_any l u (v d) (m d) _ _ _ HO.out HT.out.1 HT.out.2.1 HT.out.2.2).mono ?_; rintro e w2 ⟨rfl, hO2, hK2⟩; have HO2 := Lib.hid hO2; have HK2 := Lib.hid hK2; clear hO2 hK2))
      go_roundw
      case rel => exact ⟨HB.out.trans (HK2.out.into fun b h1 h2 => (HW.out.row d hlt).inside (HN.out b h1 h2)), d + 1, by omega, by go_num, by rw [show k + (tot m d : Int) + (m d : Int) = k + (tot m (d + 1) : Int) by simp only [tot]; omega], (HW.out.set hlt HK2.out HN.out (HO2.out.into (fun b hb => (HW.out.row d hlt).inside hb) (Nat.le_trans (HW.out.row d hlt).top HK2.out.size))).congr fun j _ => by
          unfold mkRows
          by_cases e : j = d
          · subst e; simp
          · by_cases e2 : j < d
            · simp [e, e2, show j < d + 1 by omega]
            · simp [e, e2, show ¬ j < d + 1 by omega]⟩
      case measure => simp [intOf]; omega
    · have hdn : d = n := by omega
      subst hdn
      go_wp2
      go_ret
      exact ⟨rfl, HW.out, HB.out⟩
set_option maxHeartbeats 1000000 in
theorem heldInt64SS_any (lo hi g n c : Nat) {E : TypeId} (A : Option Addr) (v : Nat → Value) (m : Nat → Nat) (cs : Nat → List Value) (k : Int) (w : World) (hA : 0 < n → A = some ⟨g, 0, none⟩) (h : RowsE E w lo hi g n v m (mkRows k m cs n)) (hk : 0 ≤ k) (hk2 : k + (tot m n : Int) ≤ 1000000000000) (hl : n ≤ 35184372088832) :
    Calls Try.prog 48 #[.slice A n c, .int .i64 k] w fun e w' => e = .returned (.int .i64 (k + (tot m n : Int))) ∧ Below w.heap.size w w' := by
  have HR := Lib.hid h; clear h
  go_enter Try.func48, Try.ntmps48
  go_wp2
  go_loopw [1, 5] (fun kk i wr => Below w.heap.size w wr ∧ ∃ d : Nat, d ≤ n ∧ i = .int .i64 d ∧ kk = .int .i64 (k + (tot m d : Int))) (fun _ i _ => n - (intOf i).toNat)
  case atStart => exact ⟨Below.refl _ _, 0, Nat.zero_le _, rfl, by simp [tot]⟩
  case round =>
    obtain ⟨hB, d, hd, rfl, rfl⟩ := hrel
    have HB := Lib.hid hB; clear hB
    by_cases hlt : d < n
    · have hA2 := hA (by omega)
      subst hA2
      have HW := Lib.hid (HR.out.below HB.out)
      have HO := Lib.hid (show OW wr lo hi E 1 (v d) (m d) (icells (mkI (k + (tot m d : Int)) (m d * 1))) by have := HW.out.row d hlt; unfold mkRows at this; rw [if_pos hlt] at this; exact this)
      have c0 := HW.out.hdr d hlt
      have ht := tot_le m (show d + 1 ≤ n from hlt)
      have HT := Lib.hid (show 0 ≤ k + (tot m d : Int) ∧ k + (tot m d : Int) ≤ 1000000000000 ∧ m d ≤ 35184372088832 by simp only [tot] at ht; omega)
      have n0 : ¬ k + (tot m d : Int) + (m d : Int) < 0 := by omega
      clear ht
      go_wp2_with (first | (go_at_call 88; refine (heldInt64S_any lo hi (v d) (m d) _ _ HO.out HT.out.1 HT.out.2.1 HT.out.2.2).mono ?_; rintro e w2 ⟨rfl, hK2⟩; have HK2 := Lib.hid hK2; clear hK2))
      go_roundw
      case rel => exact ⟨HB.out.trans (HK2.out.mono HB.out.size), d + 1, by omega, by go_num, by rw [show k + (tot m d : Int) + (m d : Int) = k + (tot m (d + 1) : Int) by simp only [tot]; omega]⟩
      case measure => simp [intOf]; omega
    · have hdn : d = n := by omega
      subst hdn
      go_wp2
      go_ret
      exact ⟨rfl, HB.out⟩
/-- the i-th row -/
def rowAt (xs : List (List Int)) (i : Nat) : List Int := xs.getD i []
def rowLen (xs : List (List Int)) (i : Nat) : Nat := (rowAt xs i).length
/-- v is a row of rows of the call's own (headers and rows in blocks from lo on and below hi); row i bears the cells cs i -/
structure OWE (E : TypeId) (w : World) (lo hi : Nat) (v : Value) (xs : List (List Int)) (cs : Nat → List Value) : Prop where
  ex : ∃ A c g hv, v = .slice A xs.length c ∧ (xs.length ≤ c ∧ c ≤ 9223372036854775807) ∧ (0 < xs.length → A = some ⟨g, 0, none⟩ ∧ lo ≤ g ∧ g < hi) ∧ RowsE E w lo hi g xs.length hv (rowLen xs) cs
  top : hi ≤ w.heap.size
abbrev OWS := OWE 2
theorem OWE.form0 {E : TypeId} {w : World} {lo hi : Nat} {v : Value} {xs : List (List Int)} {cs : Nat → List Value} (h : OWE E w lo hi v xs cs) : ∃ A c, v = .slice A xs.length c := by
  obtain ⟨A, c, g, hv, rfl, -⟩ := h.ex
  exact ⟨A, c, rfl⟩
theorem OWE.only {E : TypeId} {w w' : World} {lo hi lo' hi' : Nat} {v : Value} {xs : List (List Int)} {cs : Nat → List Value} (h : OWE E w lo hi v xs cs) (k : Only lo' hi' w w') (hd : hi ≤ lo' ∨ hi' ≤ lo) : OWE E w' lo hi v xs cs := by
  obtain ⟨A, c, g, hv, rfl, hc, hA, hr⟩ := h.ex
  exact ⟨⟨A, c, g, hv, rfl, hc, hA, ⟨fun i hi' => cell_only k (by have := hA (by omega); omega) (hr.hdr i hi'), fun i hi' => (hr.row i hi').only k hd, hr.apart, hr.out⟩⟩, Nat.le_trans h.top k.size⟩
theorem OWE.to {E : TypeId} {w w' : World} {lo hi : Nat} {v : Value} {xs : List (List Int)} {cs : Nat → List Value} (h : OWE E w lo hi v xs cs) (k : Below w.heap.size w w') : OWE E w' lo hi v xs cs :=
  h.only (only_of k w.heap.size w.heap.size) (.inl h.top)
theorem OWS.form0 {w : World} {lo hi : Nat} {v : Value} {xs : List (List Int)} {cs : Nat → List Value} (h : OWS w lo hi v xs cs) : ∃ A c, v = .slice A xs.length c := OWE.form0 h
/-- rows of numbers that can be read -/
def RR (w : World) (A : Option Addr) (xs : List (List Int)) : Prop :=
  ∀ k, k < xs.length → ∃ b o A' c', A = some ⟨b, o, none⟩ ∧ b < w.heap.size ∧ w.cell? ⟨b, o + k, none⟩ = some (.slice A' (rowLen xs k) c') ∧ RI w A' (rowAt xs k) ∧ rowLen xs k ≤ c' ∧ rowLen xs k ≤ 9223372036854775807
theorem RR.below {w w' : World} {A : Option Addr} {xs : List (List Int)} (h : RR w A xs) (hb : Below w.heap.size w w') : RR w' A xs := by
  intro k hk
  obtain ⟨b, o, A', c', e, hlt, hc, hr, h1, h2⟩ := h k hk
  exact ⟨b, o, A', c', e, Nat.lt_of_lt_of_le hlt hb.size, (hb.cell (World.block_lt_of_cell? w _ hc)).trans hc, hr.below hb, h1, h2⟩
theorem rowAt_get {xs : List (List Int)} {j : Nat} {p : List Int} (h : xs[j]? = some p) : rowAt xs j = p := by simp [rowAt, List.getD, h]
theorem rowAt_at {xs : List (List Int)} {j : Nat} (h : j < xs.length) : rowAt xs j = xs[j] := rowAt_get (List.getElem?_eq_getElem h)
theorem rowLen_at {xs : List (List Int)} {j : Nat} {p : List Int} (h : xs[j]? = some p) : rowLen xs j = p.length := by rw [rowLen, rowAt_get h]
theorem OW.len {w : World} {lo hi : Nat} {E : TypeId} {size n : Nat} {v : Value} {cells : List Value} (h : OW w lo hi E size v n cells) : n ≤ 9223372036854775807 := by
  obtain ⟨A, c, -, h⟩ := h.form
  rcases h with ⟨-, rfl, -⟩ | ⟨g, cur, -, -, -, -, h1, h2, -⟩ <;> omega
theorem rr_of {E : TypeId} {w : World} {lo hi : Nat} {A : Option Addr} {n c : Nat} {xs : List (List Int)} (h : OWE E w lo hi (.slice A n c) xs (fun i => icells (rowAt xs i))) (hn : n = xs.length) : RR w A xs := by
  obtain ⟨A', c', g, hv, e, -, hA, hr⟩ := h.ex
  injection e with e1 e2 e3
  subst e1
  intro k hk
  obtain ⟨A2, c2, e2, hri, hle⟩ := (hr.row k hk).readsI
  have hc := hr.hdr k hk
  rw [e2] at hc
  refine ⟨g, 0, A2, c2, (hA (by omega)).1, World.block_lt_of_cell? w _ hc, by rw [Nat.zero_add]; exact hc, hri, hle, (hr.row k hk).len⟩
theorem C_of_rr {w : World} {A : Option Addr} {xs : List (List Int)} (h : RR w A xs) (hl : xs.length ≤ 9223372036854775807) : Kd.C (Kd.slice 2 (Kd.int .i64)) w A xs.length xs := by
  refine ⟨rfl, hl, fun hn => ?_⟩
  obtain ⟨b, o, -, -, e, -⟩ := h 0 hn
  refine ⟨_, e, fun j p hj => ?_⟩
  have hjl := (List.getElem?_eq_some_iff.1 hj).1
  obtain ⟨b', o', A', c', e', -, hc, hr, h1, h2⟩ := h j hjl
  rw [e] at e'
  injection e' with e'; injection e' with e1 e2; subst e1 e2
  rw [rowLen_at hj] at hc h1 h2
  rw [rowAt_get hj] at hr
  refine ⟨[.slice A' p.length c'], rfl, ⟨A', c', rfl, h1, C_of_ri hr h2⟩, fun i u hu => ?_⟩
  have e1 : (Kd.slice 2 (Kd.int IntKind.i64)).sz = 1 := rfl
  match i, hu with
  | 0, hu => simp at hu; subst hu; rw [e1, Nat.mul_one, Nat.add_zero, add_off]; exact hc
  | i + 1, hu => simp at hu
theorem rr_of_C {w : World} {A : Option Addr} {xs : List (List Int)} (h : Kd.C (Kd.slice 2 (Kd.int .i64)) w A xs.length xs) : RR w A xs := by
  intro k hk
  obtain ⟨ad, e, hc⟩ := h.2.2 (by omega)
  have e1 : (Kd.slice 2 (Kd.int IntKind.i64)).sz = 1 := rfl
  obtain ⟨c, hcl, ⟨A', c', rfl, hl, hC⟩, hcell⟩ := hc k _ (List.getElem?_eq_getElem hk)
  have h0 := hcell 0 _ rfl
  rw [e1, Nat.mul_one, Nat.add_zero] at h0
  obtain ⟨c0, -, ⟨A0, c0', rfl, -, -⟩, hcell0⟩ := hc 0 _ (List.getElem?_eq_getElem (show 0 < xs.length by omega))
  have h00 := hcell0 0 _ rfl
  have hs : ad.spot = none := by
    have := spot_none h00
    simpa [Addr.add] using this
  obtain ⟨b, o, s⟩ := ad
  simp only at hs
  subst hs
  rw [add_off] at h0
  have hb := World.block_lt_of_cell? w _ h0
  have e2 := rowLen_at (List.getElem?_eq_getElem hk)
  refine ⟨b, o, A', c', e, hb, by rw [e2]; exact h0, by rw [rowAt_at hk]; exact ri_of_C hC, by rw [e2]; exact hl, by rw [e2]; exact hC.2.1⟩
/-- rows that a printed contract tells -/
theorem ows_of_S {w : World} {base : Nat} {v : Value} {xs : List (List Int)} {ok : Nat → Prop} (h : Kd.S (Kd.slice 2 (Kd.int .i64)) 48 w base ok v xs) : OWS w base w.heap.size v xs (fun i => icells (rowAt xs i)) := by
  obtain ⟨f, -, inner, ho, hr⟩ := h
  have hz : xs.zipIdx.length = xs.length := List.length_zipIdx
  rw [hz] at ho
  have e1 : (Kd.tag f (Kd.slice 2 (Kd.int IntKind.i64))).sz = 1 := rfl
  rw [e1] at ho hr
  have each : ∀ i, i < xs.length → ∃ v', inner[i]? = some v' ∧ Kd.R (Kd.int .i64) 2 w base (fun k => (ok k ∧ some k ≠ v.ownBlock) ∧ f k = i) v' (rowAt xs i) := by
    intro i hi
    have hj : xs[i]? = some (rowAt xs i) := by rw [rowAt_at hi]; exact List.getElem?_eq_getElem hi
    obtain ⟨v', hv', hR⟩ := hr.2 i _ (Kd.zip_at hj)
    refine ⟨v', ?_, hR⟩
    have hl : i < inner.length := by rw [hr.1, hz]; omega
    rw [Nat.mul_one, List.drop_eq_getElem_cons hl, List.take_succ_cons, List.take_zero] at hv'
    rw [List.getElem?_eq_getElem hl]
    exact congrArg some (List.cons.inj hv').1
  have hrows : ∀ g c, v = .slice (some ⟨g, 0, none⟩) xs.length c → RowsW w base w.heap.size g xs.length (fun i => inner.getD i default) (rowLen xs) (fun i => icells (rowAt xs i)) := by
    intro g c hv
    subst hv
    have hd : ∀ i v', inner[i]? = some v' → inner.getD i default = v' := fun i v' h => by rw [List.getD_eq_getElem?_getD, h]; rfl
    refine ⟨fun i hi => ?_, fun i hi => ?_, fun i j hi hj hne b hb hb2 => ?_, fun i hi hb => ?_⟩
    · obtain ⟨v', e, -⟩ := each i hi
      rw [hd i v' e]
      exact own_cell ho e
    · obtain ⟨v', e, hR⟩ := each i hi
      simp only [hd i v' e]
      exact ow_of_R hR
    · obtain ⟨v', e, hR⟩ := each i hi
      obtain ⟨v2, e2, hR2⟩ := each j hj
      rw [hd i v' e] at hb
      rw [hd j v2 e2] at hb2
      exact hne ((hR.1 b hb).2.symm.trans (hR2.1 b hb2).2)
    · obtain ⟨v', e, hR⟩ := each i hi
      rw [hd i v' e] at hb
      exact (hR.1 g hb).1.2 rfl
  rcases ho.2 with ⟨rfl, hn⟩ | ⟨g, cap, cur, rfl, hb, hg, hle, hm, hsz, -⟩
  · refine ⟨⟨none, 0, 0, fun _ => .slice none 0 0, by rw [hn], by omega, fun h => by omega, ⟨fun i hi => by omega, fun i hi => by omega, fun i j hi => by omega, fun i hi => by omega⟩⟩, Nat.le_refl _⟩
  · exact ⟨⟨_, cap, g, _, rfl, ⟨hle, by simpa [maxLen] using hm⟩, fun _ => ⟨rfl, hb, (Array.getElem?_eq_some_iff.1 hg).1⟩, hrows g cap rfl⟩, Nat.le_refl _⟩
/-- all numbers together -/
def rowsz0 (xs : List (List Int)) : Nat := tot (rowLen xs) xs.length
theorem rowsz0_row {xs : List (List Int)} {i : Nat} (h : i < xs.length) : rowLen xs i ≤ rowsz0 xs := by
  have := tot_le (rowLen xs) (show i + 1 ≤ xs.length from h)
  rw [tot] at this
  unfold rowsz0
  omega
theorem OWE.congr {E : TypeId} {w : World} {lo hi : Nat} {v : Value} {xs : List (List Int)} {cs cs' : Nat → List Value} (h : OWE E w lo hi v xs cs) (e : ∀ i, i < xs.length → cs i = cs' i) : OWE E w lo hi v xs cs' := by
  obtain ⟨A, c, g, hv, e1, hc, hA, hr⟩ := h.ex
  exact ⟨⟨A, c, g, hv, e1, hc, hA, hr.congr e⟩, h.top⟩
def mkS (k : Int) (xs : List (List Int)) (i : Nat) : List Value := icells (mkI (k + (tot (rowLen xs) i : Int)) (rowLen xs i * 1))
theorem markInt64SS_m (lo hi : Nat) {E : TypeId} (xs : List (List Int)) (m : Nat) (k : Int) (w : World) (hm : m = rowsz0 xs) {v : Value} {cs : Nat → List Value} (h : OWE E w lo hi v xs cs) (hk : 0 ≤ k) (hk2 : k + (m : Int) ≤ 1000000000000) (hl : xs.length ≤ 35184372088832) :
    Calls Try.prog 47 #[v, .int .i64 k] w fun e w' => e = .returned (.int .i64 (k + (m : Int))) ∧ OWE E w' lo hi v xs (mkS k xs) ∧ Only lo hi w w' := by
  subst hm
  obtain ⟨A, c, g, hv, rfl, hc, hA, hr⟩ := h.ex
  refine (markInt64SS_any lo hi g xs.length c A hv (rowLen xs) cs k w (fun h => (hA h).1) hr hk hk2 hl).mono ?_
  rintro e w' ⟨rfl, h2, h3⟩
  exact ⟨rfl, ⟨⟨A, c, g, hv, rfl, hc, hA, h2.congr fun i hi => by simp only [mkRows, if_pos hi]; rfl⟩, Nat.le_trans h.top h3.size⟩, h3⟩
theorem heldInt64SS_m (lo hi : Nat) {E : TypeId} (xs : List (List Int)) (m : Nat) (k : Int) (w : World) (hm : m = rowsz0 xs) {v : Value} (h : OWE E w lo hi v xs (mkS k xs)) (hk : 0 ≤ k) (hk2 : k + (m : Int) ≤ 1000000000000) (hl : xs.length ≤ 35184372088832) :
    Calls Try.prog 48 #[v, .int .i64 k] w fun e w' => e = .returned (.int .i64 (k + (m : Int))) ∧ Below w.heap.size w w' := by
  subst hm
  obtain ⟨A, c, g, hv, rfl, hc, hA, hr⟩ := h.ex
  exact heldInt64SS_any lo hi g xs.length c A hv (rowLen xs) (mkS k xs) k w (fun h => (hA h).1) (hr.congr fun i hi => by simp only [mkRows, if_pos hi]; rfl) hk hk2 hl
theorem rows_eq {ts us : List (List Int)} (hl : ts.length = us.length) (h : ∀ j, j < ts.length → rowAt ts j = rowAt us j) : ts = us := by
  apply List.ext_getElem hl
  intro j h1 h2
  have := h j h1
  rwa [rowAt_at h1, rowAt_at h2] at this
set_option maxHeartbeats 1000000 in
theorem eqInt64SS_any (A A' : Option Addr) (ts us : List (List Int)) (n m c c' : Nat) (w : World) (hn : n = ts.length) (hm : m = us.length) (hA : RR w A ts) (hA' : RR w A' us) (hl : ts.length ≤ 35184372088832 ∧ rowsz0 ts ≤ 35184372088832) (hl' : us.length ≤ 35184372088832 ∧ rowsz0 us ≤ 35184372088832) :
    Calls Try.prog 46 #[.slice A n c, .slice A' m c'] w fun e w' => e = .returned (.bool (decide (ts = us))) ∧ Below w.heap.size w w' := by
  have HA := Lib.hid hA; have HA' := Lib.hid hA'; clear hA hA'
  by_cases hlen : n = m
  · have HL := Lib.hid (show ts.length = us.length by omega); have HN := Lib.hid hn; have HM := Lib.hid hlen
    have h1 : ((n : Int) != m) = false := by simp [hlen]
    have hn0 : n ≤ 35184372088832 := by omega
    clear hlen hn hm
    go_enter Try.func46, Try.ntmps46
    go_wp2
    go_loopw [5] (fun i wr => Below w.heap.size w wr ∧ ∃ k : Nat, k ≤ n ∧ i = .int .i64 k ∧ ∀ j, j < k → rowAt ts j = rowAt us j) (fun i _ => n - (intOf i).toNat)
    case atStart => exact ⟨Below.refl _ _, 0, by omega, rfl, fun j h => absurd h (by omega)⟩
    case round =>
      obtain ⟨hB, k, hk, rfl, hall⟩ := hrel
      have hT := HA.out.below hB
      have hT' := HA'.out.below hB
      have HB := Lib.hid hB; have HALL := Lib.hid hall; clear hB hall
      by_cases hlt : k < n
      · have k1 : k < ts.length := by have := HN.out; omega
        have k2 : k < us.length := by have := HL.out; omega
        have r1 : rowLen ts k ≤ 35184372088832 := Nat.le_trans (rowsz0_row k1) hl.2
        have r2 : rowLen us k ≤ 35184372088832 := Nat.le_trans (rowsz0_row k2) hl'.2
        have HK := Lib.hid (And.intro k1 k2)
        obtain ⟨b, o, A1, c1, rfl, hb, h0, hr, -⟩ := hT k k1
        obtain ⟨b', o', A2, c2, rfl, hb', h0', hr', -⟩ := hT' k k2
        have HR := Lib.hid hr; have HR' := Lib.hid hr'
        have i1 : (k : Int) < n := by omega
        have i2 : (k : Int) < m := by have := HM.out; omega
        clear hT hT' hr hr' k1 k2
        by_cases he : rowAt ts k = rowAt us k
        · have HE := Lib.hid (show decide (rowAt ts k = rowAt us k) = true by simpa using he); clear he
          go_wp2
          refine wp_region_gro (by kernel_rfl) (by kernel_rfl) ?_
          repeat (first | go_big_quiet_step (((go_at_call 42; exact quiet_call (by have h := eqInt64S_any A1 A2 (rowAt ts k) (rowAt us k) (rowLen ts k) (rowLen us k) c1 c2 (gro wr ‹GP›) rfl rfl (HR.out.below (gro_below wr _)) (HR'.out.below (gro_below wr _)) r1 r2; rw [HE.out] at h; exact h)))) | quiet_step (((go_at_call 42; exact quiet_call (by have h := eqInt64S_any A1 A2 (rowAt ts k) (rowAt us k) (rowLen ts k) (rowLen us k) c1 c2 (gro wr ‹GP›) rfl rfl (HR.out.below (gro_below wr _)) (HR'.out.below (gro_below wr _)) r1 r2; rw [HE.out] at h; exact h)))))
          refine wpQuiet_nil ?_
          intro w1 hB1
          have HB1 := Lib.hid hB1; clear hB1
          go_wp2
          go_roundw
          case rel => exact ⟨HB.out.trans (HB1.out.mono HB.out.size), k + 1, by omega, by go_num, fun j hj => by
            by_cases e : j = k
            · subst e; exact of_decide_eq_true HE.out
            · exact HALL.out j (by omega)⟩
          case measure => simp [intOf]; omega
        · have HE := Lib.hid (show decide (rowAt ts k = rowAt us k) = false by simpa using he); clear he
          go_wp2
          refine wp_region_gro (by kernel_rfl) (by kernel_rfl) ?_
          repeat (first | go_big_quiet_step (((go_at_call 42; exact quiet_call (by have h := eqInt64S_any A1 A2 (rowAt ts k) (rowAt us k) (rowLen ts k) (rowLen us k) c1 c2 (gro wr ‹GP›) rfl rfl (HR.out.below (gro_below wr _)) (HR'.out.below (gro_below wr _)) r1 r2; rw [HE.out] at h; exact h)))) | quiet_step (((go_at_call 42; exact quiet_call (by have h := eqInt64S_any A1 A2 (rowAt ts k) (rowAt us k) (rowLen ts k) (rowLen us k) c1 c2 (gro wr ‹GP›) rfl rfl (HR.out.below (gro_below wr _)) (HR'.out.below (gro_below wr _)) r1 r2; rw [HE.out] at h; exact h)))))
          refine wpQuiet_nil ?_
          intro w1 hB1
          have HB1 := Lib.hid hB1; clear hB1
          go_wp2
          go_ret
          exact ⟨ret_bool (by have : ts ≠ us := fun e => of_decide_eq_false HE.out (by rw [e])
                              simp [this]), HB.out.trans (HB1.out.mono HB.out.size)⟩
      · go_wp2
        go_ret
        exact ⟨ret_bool (by have : ts = us := rows_eq HL.out fun j hj => HALL.out j (by have := HN.out; omega)
                            simp [this]), HB.out⟩
  · have h1 : ((n : Int) != m) = true := by simp; omega
    have HL := Lib.hid (show ts.length ≠ us.length by omega); clear hlen hn hm
    go_enter Try.func46, Try.ntmps46
    go_wp2
    go_ret
    exact ⟨ret_bool (by have : ts ≠ us := fun e => HL.out (by rw [e])
                        simp [this]), Below.refl _ _⟩
end Go.Proofs.Ytnjmgmdpkogocaa

/-
  Contracts of functions on tiles and sets, in the form of the printed ones.
-/
namespace Go.Proofs.Ytnjmgmdpkogocaa.Q
open Go Go.RowKit Go.Proofs Go.Proofs.YtnjmgmdpkogocaaW.PrintWords Go.Proofs.Ytnjmgmdpkogocaa
set_option linter.unusedVariables false
set_option linter.unusedSimpArgs false

def inLim (n : Nat) : Bool := decide (n ≤ 35184372088832)
def spec_l01Tile.f (a0 a1_0 a1_1 a1_2 a1_3 : Int) : Option Bool := some (tileB ⟨a1_0, a1_1, a1_2, a1_3⟩ (wrap64 (a0 - 1)))
theorem spec_l01Tile.calls (a0 a1_0 a1_1 a1_2 a1_3 : Int) (r : Bool) (w : World) (h : spec_l01Tile.f a0 a1_0 a1_1 a1_2 a1_3 = some r) :
    Calls Try.prog 50 #[.int .i64 a0, .agg #[.int .i64 a1_0, .int .i64 a1_1, .int .i64 a1_2, .int .i64 a1_3]] w fun e w' => e = .returned (.bool r) ∧ Below w.heap.size w w' := by
  obtain rfl := Option.some.inj h
  exact l01Tile_any a0 ⟨a1_0, a1_1, a1_2, a1_3⟩ w
def spec_l01Before.f (a0_0 a0_1 a0_2 a0_3 a1_0 a1_1 a1_2 a1_3 : Int) : Option Bool := some (ltT ⟨a0_0, a0_1, a0_2, a0_3⟩ ⟨a1_0, a1_1, a1_2, a1_3⟩)
theorem spec_l01Before.calls (a0_0 a0_1 a0_2 a0_3 a1_0 a1_1 a1_2 a1_3 : Int) (r : Bool) (w : World) (h : spec_l01Before.f a0_0 a0_1 a0_2 a0_3 a1_0 a1_1 a1_2 a1_3 = some r) :
    Calls Try.prog 94 #[.agg #[.int .i64 a0_0, .int .i64 a0_1, .int .i64 a0_2, .int .i64 a0_3], .agg #[.int .i64 a1_0, .int .i64 a1_1, .int .i64 a1_2, .int .i64 a1_3]] w fun e w' => e = .returned (.bool r) ∧ Below w.heap.size w w' := by
  obtain rfl := Option.some.inj h
  exact l01Before_any ⟨a0_0, a0_1, a0_2, a0_3⟩ ⟨a1_0, a1_1, a1_2, a1_3⟩ w
def spec_l01Is.f (a0_0 : Int) (l0_1 : List STile) : Option Bool := if inLim l0_1.length = true then some (isS a0_0 (l0_1.map toT)) else none
theorem spec_l01Is.calls (a0_0 : Int) (A0_1 : Option Addr) (c0_1 : Nat) (l0_1 : List STile) (r : Bool) (w : World) (hr0_1 : Kd.C k45 w A0_1 l0_1.length l0_1) (hc0_1 : l0_1.length ≤ c0_1) (h : spec_l01Is.f a0_0 l0_1 = some r) :
    Calls Try.prog 60 #[.agg #[.int .i64 a0_0, .slice A0_1 l0_1.length c0_1]] w fun e w' => e = .returned (.bool r) ∧ Below w.heap.size w w' := by
  unfold spec_l01Is.f at h
  split at h
  · rename_i hl
    obtain rfl := Option.some.inj h
    exact l01Is_any a0_0 A0_1 (l0_1.map toT) _ c0_1 w (by simp) (rt_of_C hr0_1) (by simpa [inLim] using hl)
  · cases h
def impl_isTile.f (a0_0 a0_1 a0_2 a0_3 a1 : Int) : Option Bool := some (tileB ⟨a0_0, a0_1, a0_2, a0_3⟩ (wrap64 (a1 - 1)))
theorem impl_isTile.calls (a0_0 a0_1 a0_2 a0_3 a1 : Int) (r : Bool) (w : World) (h : impl_isTile.f a0_0 a0_1 a0_2 a0_3 a1 = some r) :
    Calls Try.prog 56 #[.agg #[.int .i64 a0_0, .int .i64 a0_1, .int .i64 a0_2, .int .i64 a0_3], .int .i64 a1] w fun e w' => e = .returned (.bool r) ∧ Below w.heap.size w w' := by
  obtain rfl := Option.some.inj h
  exact isTile_any ⟨a0_0, a0_1, a0_2, a0_3⟩ a1 w
def impl_IsSet.f (a0_0 : Int) (l0_1 : List STile) : Option Bool := if inLim l0_1.length = true then some (isS a0_0 (l0_1.map toT)) else none
theorem impl_IsSet.calls (a0_0 : Int) (A0_1 : Option Addr) (c0_1 : Nat) (l0_1 : List STile) (r : Bool) (w : World) (hr0_1 : Kd.C k45 w A0_1 l0_1.length l0_1) (hc0_1 : l0_1.length ≤ c0_1) (h : impl_IsSet.f a0_0 l0_1 = some r) :
    Calls Try.prog 96 #[.agg #[.int .i64 a0_0, .slice A0_1 l0_1.length c0_1]] w fun e w' => e = .returned (.bool r) ∧ Below w.heap.size w w' := by
  unfold impl_IsSet.f at h
  split at h
  · rename_i hl
    obtain rfl := Option.some.inj h
    exact IsSet_any a0_0 A0_1 (l0_1.map toT) _ c0_1 w (by simp) (rt_of_C hr0_1) (by simpa [inLim] using hl)
  · cases h
end Go.Proofs.Ytnjmgmdpkogocaa.Q

/-
  Contract: spec.l04Sorted. (mksrt.py wrote it.)
-/
namespace Go.Proofs.Ytnjmgmdpkogocaa
open Go Go.RowKit Go.Proofs Go.Proofs.YtnjmgmdpkogocaaW.PrintWords Go.Proofs.YtnjmgmdpkogocaaW.PrintLast Go.Proofs.YtnjmgmdpkogocaaW.PrintMore
set_option linter.unusedVariables false
set_option linter.unusedSimpArgs false

def srt_T4 : Bool × List (List Nat × List Nat) := (true, [([], []), ([], []), ([0, 1], [0, 1]), ([2], [2]), ([], []), ([], []), ([4, 5], [4, 5]), ([6, 3], [6]), ([], []), ([3, 7, 0, 1, 2, 3], [3]), ([7, 9, 0, 1, 2, 3, 4, 5, 6, 7, 9], [7]), ([8, 10, 0, 1, 2, 3, 4, 5, 6, 7, 8, 9, 10], [8])])
def srt_B4 : List Nat := [0, 0, 3, 7, 0, 0, 48, 127, 0, 255, 767, 2047]
theorem srt_tab4 : rtab .any (opsOf Try.f101 4) = srt_T4 := by kernel_rfl
theorem srt_bits4 : waitsOk srt_T4.2 srt_B4 = true := by kernel_rfl
theorem RI.tail {w : World} {b o h : Nat} {xs : List Int} (hr : RI w (some ⟨b, o, none⟩) xs) : RI w (some ⟨b, o + h, none⟩) (xs.drop h) := by
  intro k hk
  rw [List.length_drop] at hk
  obtain ⟨b', o', e, hb, hc⟩ := hr (h + k) (by omega)
  injection e with e; injection e with e1 e2
  subst e1; subst e2
  refine ⟨b, o + h, rfl, hb, ?_⟩
  rw [show o + h + k = o + (h + k) by omega, hc]
  simp [ik, List.getD_eq_getElem?_getD, List.getElem?_drop]
theorem RI.head {w : World} {A : Option Addr} {h : Nat} {xs : List Int} (hr : RI w A xs) : RI w A (xs.take h) := by
  intro k hk
  rw [List.length_take] at hk
  obtain ⟨b', o', e, hb, hc⟩ := hr k (by omega)
  refine ⟨b', o', e, hb, ?_⟩
  rw [hc]
  simp [ik, List.getD_eq_getElem?_getD, List.getElem?_take, show k < h by omega]
/-- both halves sorted, and a fresh empty row -/
structure SrW (wd w' : World) (ys zs : List Int) (A1 : Option Addr) (c1 : Nat) (A2 : Option Addr) (c2 g : Nat) : Prop where
  be : Below wd.heap.size wd w'
  r1 : RI w' A1 ys
  r2 : RI w' A2 zs
  l1 : ys.length ≤ c1
  l2 : zs.length ≤ c2
  lo : wd.heap.size ≤ g
  bk : BK w' g #[] 2
theorem RI.keep9 {w w' : World} {A : Option Addr} {ys : List Int} {g : Nat} {E : TypeId} (h : RI w A ys) (hg : BK w g #[] E) (hb : ∀ k, k < w.heap.size → k ≠ g → w'.heap[k]? = w.heap[k]?) (hs : w.heap.size ≤ w'.heap.size) : RI w' A ys := by
  intro k hk
  obtain ⟨b, o, e, hlt, hc⟩ := h k hk
  have hne : b ≠ g := fun e2 => by
    subst e2
    have hg' : w.heap[b]? = some (.cells #[] E (0, 0)) := hg
    simp [World.cell?, hg'] at hc
  exact ⟨b, o, e, Nat.lt_of_lt_of_le hlt hs, (World.cell?_of_block (w := w) (a := ⟨b, o + k, none⟩) (hb b hlt hne)).trans hc⟩
theorem ik_at9 {ys : List Int} {i : Nat} (h : i < ys.length) : ik ys i = ys[i] := by simp [ik, List.getD_eq_getElem?_getD, List.getElem?_eq_getElem h]
theorem drop_ik9 {ys : List Int} {i : Nat} (h : i < ys.length) : ys.drop i = ik ys i :: ys.drop (i + 1) := by
  rw [List.drop_eq_getElem_cons h, ik_at9 h]
theorem merge2_nil (xs : List Int) : merge2 xs [] = xs := by cases xs <;> simp [merge2]
theorem m_lt {ys zs : List Int} {i k : Nat} (hi : i < ys.length) (hk : k < zs.length) (h : ik ys i < ik zs k) : merge2 (ys.drop i) (zs.drop k) = ik ys i :: merge2 (ys.drop (i + 1)) (zs.drop k) := by
  rw [drop_ik9 hi, drop_ik9 hk, merge2, if_pos h]
theorem m_gt {ys zs : List Int} {i k : Nat} (hi : i < ys.length) (hk : k < zs.length) (h : ik zs k < ik ys i) : merge2 (ys.drop i) (zs.drop k) = ik zs k :: merge2 (ys.drop i) (zs.drop (k + 1)) := by
  rw [drop_ik9 hi, drop_ik9 hk, merge2, if_neg (by omega), if_pos h]
theorem m_eq {ys zs : List Int} {i k : Nat} (hi : i < ys.length) (hk : k < zs.length) (h : ¬ ik ys i < ik zs k) (h2 : ¬ ik zs k < ik ys i) : merge2 (ys.drop i) (zs.drop k) = merge2 (ys.drop (i + 1)) (zs.drop k) := by
  rw [drop_ik9 hi, drop_ik9 hk, merge2, if_neg h, if_neg h2]
theorem m_l {ys zs : List Int} {i k : Nat} (hi : i < ys.length) (hk : zs.length ≤ k) : merge2 (ys.drop i) (zs.drop k) = ik ys i :: merge2 (ys.drop (i + 1)) (zs.drop k) := by
  rw [List.drop_of_length_le hk, merge2_nil, merge2_nil, drop_ik9 hi]
theorem m_r {ys zs : List Int} {i k : Nat} (hi : ys.length ≤ i) (hk : k < zs.length) : merge2 (ys.drop i) (zs.drop k) = ik zs k :: merge2 (ys.drop i) (zs.drop (k + 1)) := by
  rw [List.drop_of_length_le hi, drop_ik9 hk]; simp [merge2]
theorem m_end {ys zs : List Int} {i k : Nat} (hi : ys.length ≤ i) (hk : zs.length ≤ k) : merge2 (ys.drop i) (zs.drop k) = [] := by
  rw [List.drop_of_length_le hi, List.drop_of_length_le hk]; simp [merge2]
/-- what stands while the halves are merged -/
structure SrL (w wF wr : World) (g : Nat) (v : Value) (out : List Int) : Prop where
  sz : wF.heap.size ≤ wr.heap.size
  bl : ∀ k, k < wF.heap.size → k ≠ g → wr.heap[k]? = wF.heap[k]?
  own0 : ∀ k, v.ownBlock = some k → k = g ∨ wF.heap.size ≤ k
  be : Below w.heap.size w wr
  oi : OI wr w.heap.size 2 v out
theorem SrL.to {w wF wr W : World} {g : Nat} {v : Value} {out : List Int} (h : SrL w wF wr g v out) (hb : Below wr.heap.size wr W) : SrL w wF W g v out :=
  ⟨Nat.le_trans h.sz hb.size, fun k h1 h2 => (hb.block k (Nat.lt_of_lt_of_le h1 h.sz)).trans (h.bl k h1 h2), h.own0, below_to h.be hb, h.oi.to hb⟩
theorem SrL.app {w wF wr W : World} {g : Nat} {v v1 : Value} {out out1 : List Int} (h : SrL w wF wr g v out) (hO : OI W w.heap.size 2 v1 out1) (hG : wr.grownBy W v.ownBlock) (hat : v1.ownBlock = v.ownBlock ∨ ∃ b, v1.ownBlock = some b ∧ wr.heap.size ≤ b) : SrL w wF W g v1 out1 := by
  refine ⟨Nat.le_trans h.sz hG.size, fun k h1 h2 => (hG.block k (Nat.lt_of_lt_of_le h1 h.sz) (fun e => ?_)).trans (h.bl k h1 h2), fun k hk => ?_, grown_below h.be hG (fun b hb => (h.oi.lt b hb).1), hO⟩
  · rcases h.own0 k e.symm with e2 | e2
    · exact h2 e2
    · omega
  · rcases hat with e | ⟨b, e, hb⟩
    · exact h.own0 k (by rw [← e]; exact hk)
    · rw [e] at hk
      injection hk with hk
      right
      have := h.sz
      omega
set_option maxHeartbeats 8000000 in
set_option maxRecDepth 100000 in
theorem l04Sorted_any (N : Nat) : ∀ (A : Option Addr) (xs : List Int) (n c : Nat) (w : World) (hN : n ≤ N) (hn : n = xs.length) (hA : RI w A xs) (hnc : n ≤ c) (hl : n ≤ 1000000),
    Calls Try.prog 101 #[.slice A n c] w fun e w' => ∃ A' c', e = .returned (.slice A' (sortI xs).length c') ∧ RI w' A' (sortI xs) ∧ (sortI xs).length ≤ c' ∧ Below w.heap.size w w' ∧ (A' = A ∧ c' = c ∧ sortI xs = xs ∨ OI w' w.heap.size 2 (.slice A' (sortI xs).length c') (sortI xs)) := by
  induction N with
  | zero =>
    intro A xs n c w hN hn hA hnc hl
    have hs : sortI xs = xs := sortI_short (by omega)
    rw [hs]
    have HA := Lib.hid hA; have HNN := Lib.hid hn; clear hA hn hs
    obtain rfl : n = 0 := by omega
    go_enter Try.func101, Try.ntmps101
    go_wp2_with fail
    go_ret
    exact ⟨A, c, by rw [← HNN.out]; rfl, HA.out, by rw [← HNN.out]; exact hnc, Below.refl _ _, .inl (by simp)⟩
  | succ N ih =>
    intro A xs n c w hN hn hA hnc hl
    by_cases h2 : n < 2
    · have hs : sortI xs = xs := sortI_short (by omega)
      rw [hs]
      have HA := Lib.hid hA; have HNN := Lib.hid hn; clear hA hn hs
      have i2 : (n : Int) < 2 := by omega
      go_enter Try.func101, Try.ntmps101
      go_wp2_with fail
      go_ret
      exact ⟨A, c, by rw [← HNN.out]; rfl, HA.out, by rw [← HNN.out]; exact hnc, Below.refl _ _, .inl (by simp)⟩
    · have hs := sortI_step (l := xs) (by omega)
      have i2 : ¬ (n : Int) < 2 := by omega
      obtain ⟨b, o, hAo, -, -⟩ := hA 0 (by omega)
      subst hAo
      have HA := Lib.hid hA; have HNN := Lib.hid hn; have HS := Lib.hid hs; have HIH := Lib.hid ih
      obtain ⟨hf, hhf⟩ : ∃ h, h = n / 2 := ⟨_, rfl⟩
      have f1 : hf < n := by omega
      have f2 : 0 < hf := by omega
      have f3 : (n : Int) / 2 = (hf : Int) := by rw [hhf]; omega
      have f4 : (hf : Int) ≤ n := by omega
      have f5 : (hf : Int) ≤ c := by omega
      have f6 : ¬ c = hf := by omega
      have f7 : (n : Int) ≤ c := by omega
      have HHF := Lib.hid hhf
      clear hA hn hs ih hhf
      go_enter Try.func101, Try.ntmps101
      go_upto_region 4 with fail
      have hD := (Below.refl w.heap.size w).drew
      have hrd := HA.out.below hD
      refine start_ (n := 12) (S := fun w' => True) (ds := []) #[false, false, false, false, false, false, false, false, false, false, false, false] (by kernel_rfl) rfl rfl trivial (fun hHeld => ?_)
      refine with_tabW srt_tab4 srt_bits4 (fun HT_ HW_ => ?_)
      generalize w.drew = wd at hD hrd ⊢
      have HBD := Lib.hid hD; have HRD := Lib.hid hrd
      obtain ⟨ys, hys⟩ : ∃ y, y = sortI (xs.take hf) := ⟨_, rfl⟩
      obtain ⟨zs, hzs⟩ : ∃ y, y = sortI (xs.drop hf) := ⟨_, rfl⟩
      have HC1 := Lib.hid (show ∀ W, Below wd.heap.size wd W → Calls Try.prog 101 #[.slice (some ⟨b, o, none⟩) hf c] W fun e w' => ∃ A' c', e = .returned (.slice A' ys.length c') ∧ RI w' A' ys ∧ ys.length ≤ c' ∧ Below W.heap.size W w' from fun W hW => by
        rw [hys]; exact (HIH.out _ (xs.take hf) hf c W (by omega) (by rw [List.length_take, ← HNN.out]; omega) (RI.head (HRD.out.below hW)) (by omega) (by omega)).mono fun e w' ⟨A', c', h1, h2, h3, h4, _⟩ => ⟨A', c', h1, h2, h3, h4⟩)
      have HC2 := Lib.hid (show ∀ W, Below wd.heap.size wd W → Calls Try.prog 101 #[.slice (some ⟨b, o + hf, none⟩) (n - hf) (c - hf)] W fun e w' => ∃ A' c', e = .returned (.slice A' zs.length c') ∧ RI w' A' zs ∧ zs.length ≤ c' ∧ Below W.heap.size W w' from fun W hW => by
        rw [hzs]; exact (HIH.out _ (xs.drop hf) (n - hf) (c - hf) W (by omega) (by rw [List.length_drop, ← HNN.out]) (RI.tail (HRD.out.below hW)) (by omega) (by omega)).mono fun e w' ⟨A', c', h1, h2, h3, h4, _⟩ => ⟨A', c', h1, h2, h3, h4⟩)
      have HYS := Lib.hid hys; have HZS := Lib.hid hzs
      clear hD hrd hys hzs
      refine pure_ (i := 0) (N := some 16) (v := ?_) (a' := ?_) #[true, false, false, false, false, false, false, false, false, false, false, false] rfl rfl (any_of HT_.out (by kernel_rfl)) (fun _ _ _ h => h) (Or.inl ⟨by rfl, ?_⟩) ?_ ?_
      rotate_left
      · intro w'
        go_simp
        with_reducible rfl
      rotate_left
      · simp only [Act.put, List.setIfInBounds_toArray, List.set_cons_zero, List.set_cons_succ, i64_w, i32_w]
        rfl
      refine pure_ (i := 1) (N := some 17) (v := ?_) (a' := ?_) #[true, true, false, false, false, false, false, false, false, false, false, false] rfl rfl (any_of HT_.out (by kernel_rfl)) (fun _ _ _ h => h) (Or.inl ⟨by rfl, ?_⟩) ?_ ?_
      rotate_left
      · intro w'
        go_simp
        with_reducible rfl
      rotate_left
      · simp only [Act.put, List.setIfInBounds_toArray, List.set_cons_zero, List.set_cons_succ, i64_w, i32_w]
        rfl
      refine pure_ (i := 4) (N := some 20) (v := ?_) (a' := ?_) #[true, true, false, false, true, false, false, false, false, false, false, false] rfl rfl (any_of HT_.out (by kernel_rfl)) (fun _ _ _ h => h) (Or.inl ⟨by rfl, ?_⟩) ?_ ?_
      rotate_left
      · intro w'
        go_simp
        with_reducible rfl
      rotate_left
      · simp only [Act.put, List.setIfInBounds_toArray, List.set_cons_zero, List.set_cons_succ, i64_w, i32_w]
        rfl
      refine pure_ (i := 5) (N := some 21) (v := ?_) (a' := ?_) #[true, true, false, false, true, true, false, false, false, false, false, false] rfl rfl (any_of HT_.out (by kernel_rfl)) (fun _ _ _ h => h) (Or.inl ⟨by rfl, ?_⟩) ?_ ?_
      rotate_left
      · intro w'
        go_simp
        with_reducible rfl
      rotate_left
      · simp only [Act.put, List.setIfInBounds_toArray, List.set_cons_zero, List.set_cons_succ, i64_w, i32_w]
        rfl
      refine pure_ (i := 2) (N := some 18) (v := ?_) (a' := ?_) #[true, true, true, false, true, true, false, false, false, false, false, false] rfl rfl (any_of HT_.out (by kernel_rfl)) (fun _ _ _ h => h) (Or.inl ⟨by rfl, ?_⟩) ?_ ?_
      rotate_left
      · intro w'
        go_simp
        with_reducible rfl
      rotate_left
      · simp only [Act.put, List.setIfInBounds_toArray, List.set_cons_zero, List.set_cons_succ, i64_w, i32_w]
        rfl
      refine pure_ (i := 6) (N := some 22) (v := ?_) (a' := ?_) #[true, true, true, false, true, true, true, false, false, false, false, false] rfl rfl (any_of HT_.out (by kernel_rfl)) (fun _ _ _ h => h) (Or.inl ⟨by rfl, ?_⟩) ?_ ?_
      rotate_left
      · intro w'
        go_simp
        with_reducible rfl
      rotate_left
      · simp only [Act.put, List.setIfInBounds_toArray, List.set_cons_zero, List.set_cons_succ, i64_w, i32_w]
        rfl
      refine join_ (σ := Option Addr × Nat × Option Addr × Nat × Nat) 0 #[true, true, true, true, true, true, true, true, true, true, true, true] (fun s_ => [(19, .slice s_.1 ys.length s_.2.1), (23, .slice s_.2.2.1 zs.length s_.2.2.2.1), (24, .slice (some ⟨s_.2.2.2.2, 0, none⟩) 0 0), (4, .slice s_.1 ys.length s_.2.1), (5, .slice s_.2.2.1 zs.length s_.2.2.2.1), (6, .slice (some ⟨s_.2.2.2.2, 0, none⟩) 0 0)]) (fun s_ w' => SrW wd w' ys zs s_.1 s_.2.1 s_.2.2.1 s_.2.2.2.1 s_.2.2.2.2) ?_ ?_
      rotate_left
      · intro hCont
        refine two_ (i := 3) (j := 8) (Ni := some 19) (Nj := some 24) #[true, true, true, true, true, true, true, false, false, false, false, false] #[true, true, true, false, true, true, true, false, true, false, false, false] rfl rfl rfl rfl (two_of HT_.out (by kernel_rfl)) (by decide) (by decide) (fun K hK => ?_) (fun K hK => ?_)
        · skip
          refine goes_ Try.func101 (by kernel_rfl) rfl #[.slice (some ⟨b, o, none⟩) hf c] (by rfl) rfl rfl (by (try simp only [List.map_toArray, List.map_cons, List.map_nil]); first | done | rfl) ?_
          refine (HC1.out wd (Below.refl _ _)).mono ?_
          rintro e w3 ⟨A1, c1, rfl, hR1, hl1, hB1⟩
          refine ⟨_, rfl, ?_⟩
          refine hK.out _ _ trivial (fun hHeld => ?_)
          clear hK K
          refine norm_ (a' := ?_) ?_ ?_
          rotate_left
          · show Act.put _ (some 19) _ = _
            simp only [Act.put, List.setIfInBounds_toArray, List.set_cons_zero, List.set_cons_succ, i64_w, i32_w]
            rfl
          refine two_ (i := 7) (j := 8) (Ni := some 23) (Nj := some 24) #[true, true, true, true, true, true, true, true, false, false, false, false] #[true, true, true, true, true, true, true, false, true, false, false, false] rfl rfl rfl rfl (two_of HT_.out (by kernel_rfl)) (by decide) (by decide) (fun K hK => ?_) (fun K hK => ?_)
          · skip
            refine goes_ Try.func101 (by kernel_rfl) rfl #[.slice (some ⟨b, o + hf, none⟩) (n - hf) (c - hf)] (by rfl) rfl rfl (by (try simp only [List.map_toArray, List.map_cons, List.map_nil]); first | done | rfl) ?_
            refine (HC2.out w3 (hB1)).mono ?_
            rintro e w5 ⟨A2, c2, rfl, hR2, hl2, hB2⟩
            refine ⟨_, rfl, ?_⟩
            refine hK.out _ _ trivial (fun hHeld => ?_)
            clear hK K
            refine norm_ (a' := ?_) ?_ ?_
            rotate_left
            · show Act.put _ (some 23) _ = _
              simp only [Act.put, List.setIfInBounds_toArray, List.set_cons_zero, List.set_cons_succ, i64_w, i32_w]
              rfl
            refine pure_ (i := 9) (N := some 4) (v := ?_) (a' := ?_) #[true, true, true, true, true, true, true, true, false, true, false, false] rfl rfl (any_of HT_.out (by kernel_rfl)) (fun _ _ _ h => h) (Or.inl ⟨by rfl, ?_⟩) ?_ ?_
            rotate_left
            · intro w'
              go_simp
              with_reducible rfl
            rotate_left
            · simp only [Act.put, List.setIfInBounds_toArray, List.set_cons_zero, List.set_cons_succ, i64_w, i32_w]
              rfl
            refine pure_ (i := 10) (N := some 5) (v := ?_) (a' := ?_) #[true, true, true, true, true, true, true, true, false, true, true, false] rfl rfl (any_of HT_.out (by kernel_rfl)) (fun _ _ _ h => h) (Or.inl ⟨by rfl, ?_⟩) ?_ ?_
            rotate_left
            · intro w'
              go_simp
              with_reducible rfl
            rotate_left
            · simp only [Act.put, List.setIfInBounds_toArray, List.set_cons_zero, List.set_cons_succ, i64_w, i32_w]
              rfl
            refine one_ (i := 8) (N := some 24) #[true, true, true, true, true, true, true, true, true, true, true, false] rfl rfl (one_of HT_.out (by kernel_rfl)) (by decide) (fun K hK => ?_)
            refine value_ (w1 := ?_) (v := ?_) (by rfl) rfl ?_ ?_
            rotate_left 2
            · go_simp
              constructor
              · rfl
              · rfl
            refine hK.out _ _ trivial (fun hHeld => ?_)
            clear hK K
            refine norm_ (a' := ?_) ?_ ?_
            rotate_left
            · show Act.put _ (some 24) _ = _
              simp only [Act.put, List.setIfInBounds_toArray, List.set_cons_zero, List.set_cons_succ, i64_w, i32_w]
              rfl
            refine pure_ (i := 11) (N := some 6) (v := ?_) (a' := ?_) #[true, true, true, true, true, true, true, true, true, true, true, true] rfl rfl (any_of HT_.out (by kernel_rfl)) (fun _ _ _ h => h) (Or.inl ⟨by rfl, ?_⟩) ?_ ?_
            rotate_left
            · intro w'
              go_simp
              with_reducible rfl
            rotate_left
            · simp only [Act.put, List.setIfInBounds_toArray, List.set_cons_zero, List.set_cons_succ, i64_w, i32_w]
              rfl
            exact norm_ (by first | (simp only [putAll, Act.put, List.setIfInBounds_toArray, List.set_cons_zero, List.set_cons_succ]; done) | (simp only [putAll, Act.put, List.setIfInBounds_toArray, List.set_cons_zero, List.set_cons_succ]; rfl)) (hCont (A1, c1, A2, c2, w5.heap.size) _ ⟨below_alloc (below_to hB1 hB2) _, (hR1.below hB2).below (new_below w5 _), hR2.below (new_below w5 _), hl1, hl2, (below_to hB1 hB2).size, BK.new _ _ _⟩)
          · skip
            refine value_ (w1 := ?_) (v := ?_) (by rfl) rfl ?_ ?_
            rotate_left 2
            · go_simp
              constructor
              · rfl
              · rfl
            refine hK.out _ _ trivial (fun hHeld => ?_)
            clear hK K
            refine norm_ (a' := ?_) ?_ ?_
            rotate_left
            · show Act.put _ (some 24) _ = _
              simp only [Act.put, List.setIfInBounds_toArray, List.set_cons_zero, List.set_cons_succ, i64_w, i32_w]
              rfl
            refine one_ (i := 7) (N := some 23) #[true, true, true, true, true, true, true, true, true, false, false, false] rfl rfl (one_of HT_.out (by kernel_rfl)) (by decide) (fun K hK => ?_)
            refine goes_ Try.func101 (by kernel_rfl) rfl #[.slice (some ⟨b, o + hf, none⟩) (n - hf) (c - hf)] (by rfl) rfl rfl (by (try simp only [List.map_toArray, List.map_cons, List.map_nil]); first | done | rfl) ?_
            refine (HC2.out (w3.alloc (.cells #[] 2)) (below_to hB1 (new_below w3 _))).mono ?_
            rintro e w5 ⟨A2, c2, rfl, hR2, hl2, hB2⟩
            refine ⟨_, rfl, ?_⟩
            refine hK.out _ _ trivial (fun hHeld => ?_)
            clear hK K
            refine norm_ (a' := ?_) ?_ ?_
            rotate_left
            · show Act.put _ (some 23) _ = _
              simp only [Act.put, List.setIfInBounds_toArray, List.set_cons_zero, List.set_cons_succ, i64_w, i32_w]
              rfl
            refine pure_ (i := 9) (N := some 4) (v := ?_) (a' := ?_) #[true, true, true, true, true, true, true, true, true, true, false, false] rfl rfl (any_of HT_.out (by kernel_rfl)) (fun _ _ _ h => h) (Or.inl ⟨by rfl, ?_⟩) ?_ ?_
            rotate_left
            · intro w'
              go_simp
              with_reducible rfl
            rotate_left
            · simp only [Act.put, List.setIfInBounds_toArray, List.set_cons_zero, List.set_cons_succ, i64_w, i32_w]
              rfl
            refine pure_ (i := 10) (N := some 5) (v := ?_) (a' := ?_) #[true, true, true, true, true, true, true, true, true, true, true, false] rfl rfl (any_of HT_.out (by kernel_rfl)) (fun _ _ _ h => h) (Or.inl ⟨by rfl, ?_⟩) ?_ ?_
            rotate_left
            · intro w'
              go_simp
              with_reducible rfl
            rotate_left
            · simp only [Act.put, List.setIfInBounds_toArray, List.set_cons_zero, List.set_cons_succ, i64_w, i32_w]
              rfl
            refine pure_ (i := 11) (N := some 6) (v := ?_) (a' := ?_) #[true, true, true, true, true, true, true, true, true, true, true, true] rfl rfl (any_of HT_.out (by kernel_rfl)) (fun _ _ _ h => h) (Or.inl ⟨by rfl, ?_⟩) ?_ ?_
            rotate_left
            · intro w'
              go_simp
              with_reducible rfl
            rotate_left
            · simp only [Act.put, List.setIfInBounds_toArray, List.set_cons_zero, List.set_cons_succ, i64_w, i32_w]
              rfl
            exact norm_ (by first | (simp only [putAll, Act.put, List.setIfInBounds_toArray, List.set_cons_zero, List.set_cons_succ]; done) | (simp only [putAll, Act.put, List.setIfInBounds_toArray, List.set_cons_zero, List.set_cons_succ]; rfl)) (hCont (A1, c1, A2, c2, w3.heap.size) _ ⟨below_to (below_to hB1 (new_below w3 _)) hB2, (hR1.below (new_below w3 _)).below hB2, hR2, hl1, hl2, hB1.size, (BK.new w3 _ _).below hB2 (BK.new w3 _ _).lt⟩)
        · skip
          refine value_ (w1 := ?_) (v := ?_) (by rfl) rfl ?_ ?_
          rotate_left 2
          · go_simp
            constructor
            · rfl
            · rfl
          refine hK.out _ _ trivial (fun hHeld => ?_)
          clear hK K
          refine norm_ (a' := ?_) ?_ ?_
          rotate_left
          · show Act.put _ (some 24) _ = _
            simp only [Act.put, List.setIfInBounds_toArray, List.set_cons_zero, List.set_cons_succ, i64_w, i32_w]
            rfl
          refine one_ (i := 3) (N := some 19) #[true, true, true, true, true, true, true, false, true, false, false, false] rfl rfl (one_of HT_.out (by kernel_rfl)) (by decide) (fun K hK => ?_)
          refine goes_ Try.func101 (by kernel_rfl) rfl #[.slice (some ⟨b, o, none⟩) hf c] (by rfl) rfl rfl (by (try simp only [List.map_toArray, List.map_cons, List.map_nil]); first | done | rfl) ?_
          refine (HC1.out (wd.alloc (.cells #[] 2)) (new_below wd _)).mono ?_
          rintro e w3 ⟨A1, c1, rfl, hR1, hl1, hB1⟩
          refine ⟨_, rfl, ?_⟩
          refine hK.out _ _ trivial (fun hHeld => ?_)
          clear hK K
          refine norm_ (a' := ?_) ?_ ?_
          rotate_left
          · show Act.put _ (some 19) _ = _
            simp only [Act.put, List.setIfInBounds_toArray, List.set_cons_zero, List.set_cons_succ, i64_w, i32_w]
            rfl
          refine one_ (i := 7) (N := some 23) #[true, true, true, true, true, true, true, true, true, false, false, false] rfl rfl (one_of HT_.out (by kernel_rfl)) (by decide) (fun K hK => ?_)
          refine goes_ Try.func101 (by kernel_rfl) rfl #[.slice (some ⟨b, o + hf, none⟩) (n - hf) (c - hf)] (by rfl) rfl rfl (by (try simp only [List.map_toArray, List.map_cons, List.map_nil]); first | done | rfl) ?_
          refine (HC2.out w3 (below_to (new_below wd _) hB1)).mono ?_
          rintro e w5 ⟨A2, c2, rfl, hR2, hl2, hB2⟩
          refine ⟨_, rfl, ?_⟩
          refine hK.out _ _ trivial (fun hHeld => ?_)
          clear hK K
          refine norm_ (a' := ?_) ?_ ?_
          rotate_left
          · show Act.put _ (some 23) _ = _
            simp only [Act.put, List.setIfInBounds_toArray, List.set_cons_zero, List.set_cons_succ, i64_w, i32_w]
            rfl
          refine pure_ (i := 9) (N := some 4) (v := ?_) (a' := ?_) #[true, true, true, true, true, true, true, true, true, true, false, false] rfl rfl (any_of HT_.out (by kernel_rfl)) (fun _ _ _ h => h) (Or.inl ⟨by rfl, ?_⟩) ?_ ?_
          rotate_left
          · intro w'
            go_simp
            with_reducible rfl
          rotate_left
          · simp only [Act.put, List.setIfInBounds_toArray, List.set_cons_zero, List.set_cons_succ, i64_w, i32_w]
            rfl
          refine pure_ (i := 10) (N := some 5) (v := ?_) (a' := ?_) #[true, true, true, true, true, true, true, true, true, true, true, false] rfl rfl (any_of HT_.out (by kernel_rfl)) (fun _ _ _ h => h) (Or.inl ⟨by rfl, ?_⟩) ?_ ?_
          rotate_left
          · intro w'
            go_simp
            with_reducible rfl
          rotate_left
          · simp only [Act.put, List.setIfInBounds_toArray, List.set_cons_zero, List.set_cons_succ, i64_w, i32_w]
            rfl
          refine pure_ (i := 11) (N := some 6) (v := ?_) (a' := ?_) #[true, true, true, true, true, true, true, true, true, true, true, true] rfl rfl (any_of HT_.out (by kernel_rfl)) (fun _ _ _ h => h) (Or.inl ⟨by rfl, ?_⟩) ?_ ?_
          rotate_left
          · intro w'
            go_simp
            with_reducible rfl
          rotate_left
          · simp only [Act.put, List.setIfInBounds_toArray, List.set_cons_zero, List.set_cons_succ, i64_w, i32_w]
            rfl
          exact norm_ (by first | (simp only [putAll, Act.put, List.setIfInBounds_toArray, List.set_cons_zero, List.set_cons_succ]; done) | (simp only [putAll, Act.put, List.setIfInBounds_toArray, List.set_cons_zero, List.set_cons_succ]; rfl)) (hCont (A1, c1, A2, c2, wd.heap.size) _ ⟨below_to (below_to (new_below wd _) hB1) hB2, hR1.below hB2, hR2, hl1, hl2, Nat.le_refl _, ((BK.new wd _ _).below hB1 (BK.new wd _ _).lt).below hB2 (Nat.lt_of_lt_of_le (BK.new wd _ _).lt hB1.size)⟩)
      rintro ⟨A1, c1, A2, c2, g⟩ w6 hSW
      refine norm_ (a' := ?_) ?_ ?_
      rotate_left
      · simp only [putAll, Act.put, List.setIfInBounds_toArray, List.set_cons_zero, List.set_cons_succ]
        rfl
      refine done_ (done_of HT_.out (by kernel_rfl)) ?_
      have HSW := Lib.hid hSW
      clear hSW HT_ HW_
      have HRA := Lib.hid HSW.out.r1; have HRB := Lib.hid HSW.out.r2
      have hlF : SrL w w6 w6 g (.slice (some ⟨g, 0, none⟩) 0 0) [] := ⟨Nat.le_refl _, fun _ _ _ => rfl, fun k_ hk_ => .inl (Option.some.inj hk_).symm, below_to HBD.out HSW.out.be, OI.empty (base := w.heap.size) HSW.out.bk (Nat.le_trans HBD.out.size HSW.out.lo)⟩
      have HLF := Lib.hid hlF
      obtain ⟨n1, hn1⟩ : ∃ q, q = ys.length := ⟨_, rfl⟩
      obtain ⟨n2, hn2⟩ : ∃ q, q = zs.length := ⟨_, rfl⟩
      have l1m : ys.length ≤ 1000000 := by
        have h1 := sortI_len (xs.take hf); rw [List.length_take] at h1; rw [HYS.out]; omega
      have l2m : zs.length ≤ 1000000 := by
        have h1 := sortI_len (xs.drop hf); rw [List.length_drop, ← HNN.out] at h1; rw [HZS.out]; omega
      have k1 : n1 ≤ c1 := by rw [hn1]; exact HSW.out.l1
      have k2 : n2 ≤ c2 := by rw [hn2]; exact HSW.out.l2
      rw [← hn1, ← hn2]
      rw [← hn1] at l1m; rw [← hn2] at l2m
      have HN1 := Lib.hid hn1; have HN2 := Lib.hid hn2
      clear hlF hn1 hn2
      go_wp2_with fail
      go_loopw [6, 7, 8] (fun v6 v7 v8 wr => ∃ (i k : Nat) (out : List Int), i ≤ n1 ∧ k ≤ n2 ∧ out.length ≤ i + k ∧ v7 = .int .i64 i ∧ v8 = .int .i64 k ∧ SrL w w6 wr g v6 out ∧ merge2 ys zs = out ++ merge2 (ys.drop i) (zs.drop k)) (fun _ v7 v8 _ => (n1 - (intOf v7).toNat) + (n2 - (intOf v8).toNat))
      case atStart => exact ⟨0, 0, [], Nat.zero_le _, Nat.zero_le _, Nat.zero_le _, rfl, rfl, HLF.out, by simp⟩
      case round =>
        obtain ⟨i, k, out, hi, hk, hol, rfl, rfl, hL, hme⟩ := hrel
        have HL := Lib.hid hL; have HME := Lib.hid hme
        have hra := HRA.out.keep9 HSW.out.bk hL.bl hL.sz
        have hrb := HRB.out.keep9 HSW.out.bk hL.bl hL.sz
        clear hL hme
        by_cases hi1 : i < n1
        · have i1 : (i : Int) < n1 := by omega
          have i3 : ((i : Int) == n1) = false := by simp; omega
          have HI := Lib.hid (show i < ys.length by rw [← HN1.out]; exact hi1)
          obtain ⟨ab, ao, ea, hab, x0⟩ := hra i HI.out
          subst ea
          by_cases hk1 : k < n2
          · have j1 : (k : Int) < n2 := by omega
            have j3 : ((k : Int) == n2) = false := by simp; omega
            have HK := Lib.hid (show k < zs.length by rw [← HN2.out]; exact hk1)
            obtain ⟨bb, bo, eb, hbb, z0⟩ := hrb k HK.out
            subst eb
            clear hra hrb
            by_cases hlt : ik ys i < ik zs k
            · have HE := Lib.hid (m_lt HI.out HK.out hlt)
              go_upto_region 8 with fail
              refine wp_region_gro (by kernel_rfl) (by kernel_rfl) ?_
              repeat (first | go_big_quiet_step (fail) | quiet_step (fail))
              refine wpQuiet_nil ?_
              intro W7 hB7
              have x0 := cell_to hB7 x0; have hab := lt_to hB7 hab
              have HL7 := Lib.hid (HL.out.to hB7)
              clear hB7
              go_wp2_with (at_builtin; refine app_int2 w.heap.size rfl (.tmp 59) (.tmp 64) 48 2 rfl Try.underlying48 info2 _ out (ik ys i) rfl (by simp) rfl HL7.out.oi HL7.out.be.size (by omega) ?_; intro v9 w9 hO9 hG9 hat9; have HL9 := Lib.hid (HL7.out.app hO9 hG9 hat9); clear hO9 hG9 hat9)
              go_roundw
              case rel => exact ⟨i + 1, k, out ++ [ik ys i], by omega, hk, by simp; omega, by go_num, rfl, HL9.out, by rw [HME.out, HE.out]; simp⟩
              case measure => simp [intOf]; omega
            · by_cases hgt : ik zs k < ik ys i
              · have HE := Lib.hid (m_gt HI.out HK.out hgt)
                go_upto_region 8 with fail
                refine wp_region_gro (by kernel_rfl) (by kernel_rfl) ?_
                repeat (first | go_big_quiet_step (fail) | quiet_step (fail))
                refine wpQuiet_nil ?_
                intro W7 hB7
                have x0 := cell_to hB7 x0; have hab := lt_to hB7 hab
                have z0 := cell_to hB7 z0; have hbb := lt_to hB7 hbb
                have HL7 := Lib.hid (HL.out.to hB7)
                clear hB7
                go_upto_region 11 with fail
                refine wp_region_gro (by kernel_rfl) (by kernel_rfl) ?_
                repeat (first | go_big_quiet_step (fail) | quiet_step (fail))
                refine wpQuiet_nil ?_
                intro W8 hB8
                have z0 := cell_to hB8 z0; have hbb := lt_to hB8 hbb
                have HL8 := Lib.hid (HL7.out.to hB8)
                clear hB8
                go_wp2_with (at_builtin; refine app_int2 w.heap.size rfl (.tmp 84) (.tmp 89) 48 2 rfl Try.underlying48 info2 _ out (ik zs k) rfl (by simp) rfl HL8.out.oi HL8.out.be.size (by omega) ?_; intro v9 w9 hO9 hG9 hat9; have HL9 := Lib.hid (HL8.out.app hO9 hG9 hat9); clear hO9 hG9 hat9)
                go_roundw
                case rel => exact ⟨i, k + 1, out ++ [ik zs k], hi, by omega, by simp; omega, rfl, by go_num, HL9.out, by rw [HME.out, HE.out]; simp⟩
                case measure => simp [intOf]; omega
              · have HE := Lib.hid (m_eq HI.out HK.out hlt hgt)
                go_upto_region 8 with fail
                refine wp_region_gro (by kernel_rfl) (by kernel_rfl) ?_
                repeat (first | go_big_quiet_step (fail) | quiet_step (fail))
                refine wpQuiet_nil ?_
                intro W7 hB7
                have x0 := cell_to hB7 x0; have z0 := cell_to hB7 z0; have hab := lt_to hB7 hab; have hbb := lt_to hB7 hbb
                have HL7 := Lib.hid (HL.out.to hB7)
                clear hB7
                go_upto_region 11 with fail
                refine wp_region_gro (by kernel_rfl) (by kernel_rfl) ?_
                repeat (first | go_big_quiet_step (fail) | quiet_step (fail))
                refine wpQuiet_nil ?_
                intro W8 hB8
                have HL8 := Lib.hid (HL7.out.to hB8)
                clear hB8 x0 z0 hab hbb
                go_wp2_with fail
                go_roundw
                case rel => exact ⟨i + 1, k, out, by omega, hk, by omega, by go_num, rfl, HL8.out, by rw [HME.out, HE.out]⟩
                case measure => simp [intOf]; omega
          · have hkn : k = n2 := by omega
            have j1 : ¬ (k : Int) < n2 := by omega
            have j3 : ((k : Int) == n2) = true := by simp [hkn]
            have HE := Lib.hid (m_l (ys := ys) (zs := zs) (k := k) HI.out (by rw [← HN2.out, hkn]; exact Nat.le_refl _))
            clear hra hrb hkn
            go_upto_region 8 with fail
            refine wp_region_gro (by kernel_rfl) (by kernel_rfl) ?_
            repeat (first | go_big_quiet_step (fail) | quiet_step (fail))
            refine wpQuiet_nil ?_
            intro W7 hB7
            have x0 := cell_to hB7 x0; have hab := lt_to hB7 hab
            have HL7 := Lib.hid (HL.out.to hB7)
            clear hB7
            go_wp2_with (at_builtin; refine app_int2 w.heap.size rfl (.tmp 59) (.tmp 64) 48 2 rfl Try.underlying48 info2 _ out (ik ys i) rfl (by simp) rfl HL7.out.oi HL7.out.be.size (by omega) ?_; intro v9 w9 hO9 hG9 hat9; have HL9 := Lib.hid (HL7.out.app hO9 hG9 hat9); clear hO9 hG9 hat9)
            go_roundw
            case rel => exact ⟨i + 1, k, out ++ [ik ys i], by omega, hk, by simp; omega, by go_num, rfl, HL9.out, by rw [HME.out, HE.out]; simp⟩
            case measure => simp [intOf]; omega
        · have hin : i = n1 := by omega
          have i1 : ¬ (i : Int) < n1 := by omega
          have i3 : ((i : Int) == n1) = true := by simp [hin]
          by_cases hk1 : k < n2
          · have j1 : (k : Int) < n2 := by omega
            have j3 : ((k : Int) == n2) = false := by simp; omega
            have HK := Lib.hid (show k < zs.length by rw [← HN2.out]; exact hk1)
            obtain ⟨bb, bo, eb, hbb, z0⟩ := hrb k HK.out
            subst eb
            have HE := Lib.hid (m_r (ys := ys) (zs := zs) (i := i) (by rw [← HN1.out, hin]; exact Nat.le_refl _) HK.out)
            clear hra hrb hin
            go_upto_region 8 with fail
            refine wp_region_gro (by kernel_rfl) (by kernel_rfl) ?_
            repeat (first | go_big_quiet_step (fail) | quiet_step (fail))
            refine wpQuiet_nil ?_
            intro W7 hB7
            have z0 := cell_to hB7 z0; have hbb := lt_to hB7 hbb
            have HL7 := Lib.hid (HL.out.to hB7)
            clear hB7
            go_upto_region 11 with fail
            refine wp_region_gro (by kernel_rfl) (by kernel_rfl) ?_
            repeat (first | go_big_quiet_step (fail) | quiet_step (fail))
            refine wpQuiet_nil ?_
            intro W8 hB8
            have z0 := cell_to hB8 z0; have hbb := lt_to hB8 hbb
            have HL8 := Lib.hid (HL7.out.to hB8)
            clear hB8
            go_wp2_with (at_builtin; refine app_int2 w.heap.size rfl (.tmp 84) (.tmp 89) 48 2 rfl Try.underlying48 info2 _ out (ik zs k) rfl (by simp) rfl HL8.out.oi HL8.out.be.size (by omega) ?_; intro v9 w9 hO9 hG9 hat9; have HL9 := Lib.hid (HL8.out.app hO9 hG9 hat9); clear hO9 hG9 hat9)
            go_roundw
            case rel => exact ⟨i, k + 1, out ++ [ik zs k], hi, by omega, by simp; omega, rfl, by go_num, HL9.out, by rw [HME.out, HE.out]; simp⟩
            case measure => simp [intOf]; omega
          · have hkn : k = n2 := by omega
            have j1 : ¬ (k : Int) < n2 := by omega
            have hend := m_end (ys := ys) (zs := zs) (i := i) (k := k) (by rw [← HN1.out, hin]; exact Nat.le_refl _) (by rw [← HN2.out, hkn]; exact Nat.le_refl _)
            have he9 : sortI xs = out := by
              rw [HS.out, ← HNN.out, ← HHF.out, ← HYS.out, ← HZS.out, HME.out, hend, List.append_nil]
            have HE9 := Lib.hid he9
            obtain ⟨A9, c9, e9, hr9, hc9⟩ := HL.out.oi.reads
            subst e9
            have HR9 := Lib.hid hr9; have HC9 := Lib.hid hc9
            clear hra hrb hin hkn hend he9 hr9 hc9
            obtain ⟨no, hno⟩ : ∃ q, q = out.length := ⟨_, rfl⟩
            rw [← hno]
            have HNO := Lib.hid hno
            clear hno
            go_wp2_with fail
            go_ret
            rw [HE9.out]
            exact ⟨A9, c9, by rw [← HNO.out]; rfl, HR9.out, HC9.out, HL.out.be, .inr HL.out.oi⟩
end Go.Proofs.Ytnjmgmdpkogocaa

/-
  Contract: spec.l04Pairs. (mkprs.py wrote it; not whole yet.)
-/
namespace Go.Proofs.Ytnjmgmdpkogocaa
open Go Go.RowKit Go.Proofs Go.Proofs.YtnjmgmdpkogocaaW.PrintWords Go.Proofs.YtnjmgmdpkogocaaW.PrintLast Go.Proofs.YtnjmgmdpkogocaaW.PrintMore
set_option linter.unusedVariables false
set_option linter.unusedSimpArgs false

def prs_T9 : Bool × List (List Nat × List Nat) := (true, [([], []), ([], []), ([1], [1]), ([], []), ([2, 3], [2, 3]), ([4], [4]), ([5], [5]), ([6], [6]), ([], []), ([8], [8]), ([], []), ([9, 10], [9, 10]), ([11], [11]), ([12], [12]), ([7, 13], [7, 13]), ([], []), ([15], [15]), ([], []), ([16, 17], [16, 17]), ([18], [18]), ([19], [19]), ([20], [20]), ([], []), ([22], [22]), ([], []), ([23, 24], [23, 24]), ([25], [25]), ([26], [26]), ([21, 27], [21, 27]), ([14, 28], [14, 28]), ([0, 29], [0, 29]), ([30, 30, 0, 1, 2, 3, 4, 5, 6, 7, 8, 9, 10, 11, 12, 13, 14, 15, 16, 17, 18, 19, 20, 21, 22, 23, 24, 25, 26, 27, 28, 29, 30], [0, 30])])
def prs_B9 : List Nat := [0, 0, 2, 0, 14, 30, 62, 126, 0, 256, 0, 1792, 3840, 7936, 16382, 0, 32768, 0, 229376, 491520, 1015808, 2064384, 0, 4194304, 0, 29360128, 62914560, 130023424, 268402688, 536870910, 1073741823, 2147483647]
theorem prs_tab9 : rtab .any (opsOf Try.f86 9) = prs_T9 := by kernel_rfl
theorem prs_bits9 : waitsOk prs_T9.2 prs_B9 = true := by kernel_rfl
theorem R_of_OI9 {w : World} {base : Nat} {e : TypeId} {v : Value} {xs : List Int} (h : OI w base e v xs) : Kd.R (Kd.int .i64) e w base (fun _ => True) v xs := by
  refine ⟨fun _ _ => trivial, icells xs, h, by rw [icells_length]; exact (Nat.mul_one _).symm, fun j p hp => ?_⟩
  have hj := (List.getElem?_eq_some_iff.1 hp).1
  have e1 : (Kd.int IntKind.i64).sz = 1 := rfl
  have hc : (icells xs)[j]? = some (.int .i64 p) := by rw [icells, List.getElem?_map, hp]; rfl
  have hl : j < (icells xs).length := by rw [icells_length]; exact hj
  rw [e1, Nat.mul_one, List.drop_eq_getElem_cons hl, List.take_succ_cons, List.take_zero]
  rw [List.getElem?_eq_getElem hl] at hc
  have := Option.some.inj hc
  show [_] = [_]
  rw [this]
/-- the numbers of the pairs of s above the first k of ts -/
def codeK (s : T4) (ts : List T4) (k : Nat) : List Int := (ts.take k).flatMap fun t => if s.get 3 = t.get 1 then [enc (s.get 0, t.get 0), enc (s.get 2, t.get 2)] else []
def codeI (ss ts : List T4) (i : Nat) : List Int := (ss.take i).flatMap fun s => codeK s ts ts.length
theorem codeI_all (ss ts : List T4) : codeI ss ts ss.length = (metPairs ss ts).map enc := by
  unfold codeI codeK metPairs
  rw [List.take_length, List.take_length, List.map_flatMap]
  congr 1; funext s
  rw [List.map_flatMap]
  congr 1; funext t
  split <;> simp
theorem codeK_yes {s : T4} {ts : List T4} {k : Nat} (hk : k < ts.length) (h : s.get 3 = (tk ts k).get 1) : codeK s ts (k + 1) = codeK s ts k ++ [enc (s.get 0, (tk ts k).get 0), enc (s.get 2, (tk ts k).get 2)] := by
  unfold codeK
  rw [List.take_succ_eq_append_getElem hk, List.flatMap_append, tk_get hk]
  simp [h]
theorem codeK_no {s : T4} {ts : List T4} {k : Nat} (hk : k < ts.length) (h : ¬ s.get 3 = (tk ts k).get 1) : codeK s ts (k + 1) = codeK s ts k := by
  unfold codeK
  rw [List.take_succ_eq_append_getElem hk, List.flatMap_append, tk_get hk]
  simp [h]
theorem codeI_succ {ss ts : List T4} {i : Nat} (hi : i < ss.length) : codeI ss ts (i + 1) = codeI ss ts i ++ codeK (tk ss i) ts ts.length := by
  unfold codeI
  rw [List.take_succ_eq_append_getElem hi, List.flatMap_append, tk_get hi]
  simp
theorem codeK_len (s : T4) (ts : List T4) : ∀ k, (codeK s ts k).length ≤ 2 * k := by
  intro k
  induction k with
  | zero => simp [codeK]
  | succ k ih =>
    by_cases hk : k < ts.length
    · by_cases h : s.get 3 = (tk ts k).get 1
      · rw [codeK_yes hk h]; simp; omega
      · rw [codeK_no hk h]; omega
    · have e : ts.take (k + 1) = ts.take k := by rw [List.take_of_length_le (by omega), List.take_of_length_le (by omega)]
      unfold codeK at ih ⊢
      rw [e]; omega
theorem codeI_len (ss ts : List T4) : ∀ i, (codeI ss ts i).length ≤ 2 * ts.length * i := by
  intro i
  induction i with
  | zero => simp [codeI]
  | succ i ih =>
    by_cases hi : i < ss.length
    · rw [codeI_succ hi, List.length_append, Nat.mul_succ]
      have := codeK_len (tk ss i) ts ts.length
      omega
    · have e : ss.take (i + 1) = ss.take i := by rw [List.take_of_length_le (by omega), List.take_of_length_le (by omega)]
      unfold codeI at ih ⊢
      rw [e, Nat.mul_succ]; omega
theorem own_lower {w : World} {base base' : Nat} {E : TypeId} {v : Value} {xs : List Int} (h : OI w base E v xs) (hb : base' ≤ base) : OI w base' E v xs := by
  obtain ⟨h1, h2⟩ := h
  refine ⟨h1, ?_⟩
  rcases h2 with h2 | ⟨g, cap, cur, hv, hg, r⟩
  · exact .inl h2
  · exact .inr ⟨g, cap, cur, hv, Nat.le_trans hb hg, r⟩

section
variable {P : Program} {ops : Array Oper} {o : Oper} {a : Act} {Q : Exit → Act → World → Prop} {Kc : Act → World → Prop}
/-- append of two numbers, at a step of a region -/
theorem app_two_step {w0 W : World} (base : Nat) (hw : Region.wanted o (yielded ops a.tmps) = true) (s x : Operand) (t : TypeId) (y1 y2 : Int)
    (ho : o.op = .call { callee := .builtin .append, args := #[s, x], argTypes := #[t, t] }) (ht : P.underlying t = some (.slice 2))
    (hinfo : (P.info? 2).map (fun i => (i.zero, i.size, i.bytes)) = some (some (.int .i64 0), 1, 8))
    (v : Value) (xs : List Int) (hs : a.eval s = v) (hx : a.eval x = .slice (some ⟨W.heap.size, 0, none⟩) 2 2)
    (HO : OI W base 2 v xs) (HB : Below base w0 W) (hbase : base ≤ W.heap.size) (hl : xs.length ≤ 1000000)
    (h : ∀ v1 w1, OI w1 base 2 v1 (xs ++ [y1, y2]) → Below base w0 w1 → Kc (a.put o.dst v1) w1) :
    if Region.wanted o (yielded ops a.tmps) = true then Oper.wp P o a (W.alloc (.cells #[.int .i64 y1, .int .i64 y2] 2)) Kc Q else Kc (a.put o.dst undef) (W.alloc (.cells #[.int .i64 y1, .int .i64 y2] 2)) := by
  have hR : RI (W.alloc (.cells #[.int .i64 y1, .int .i64 y2] 2)) (some ⟨W.heap.size, 0, none⟩) [y1, y2] := by
    intro k hk
    refine ⟨_, 0, rfl, by simp, ?_⟩
    rw [Nat.zero_add]
    match k, hk with
    | 0, _ => exact (BK.new W _ _).cell rfl
    | 1, _ => exact (BK.new W _ _).cell rfl
  refine Kd.R_append_rows_step (Kd.int .i64) (w0 := w0) base hw s x t 2 (.int .i64 0) 8 ho ht hinfo rfl (by decide) (by decide) v xs [y1, y2] (some ⟨W.heap.size, 0, none⟩) 2 2 (fun _ => True) (fun _ => False) hs hx (R_of_OI9 (HO.to (new_below W _))) (C_of_ri hR (by simp)) (fun _ _ h => h) (fun _ h => h.elim) (fun _ _ => trivial) (HB.alloc hbase _) (Nat.le_trans hbase (by simp)) (by omega) ?_
  intro v1 w1 hO hB _ _
  exact h v1 w1 (ow_of_R hO).own hB
end

set_option maxHeartbeats 8000000 in
set_option maxRecDepth 100000 in
theorem l04Pairs_any (C1 : Int) (A1 : Option Addr) (ss : List T4) (n1 c1 : Nat) (C2 : Int) (A2 : Option Addr) (ts : List T4) (n2 c2 : Nat) (w : World) (hn1 : n1 = ss.length) (hA1 : RT w A1 ss) (hn2 : n2 = ts.length) (hA2 : RT w A2 ts) (h16 : n1 ≤ 16 ∧ n2 ≤ 16)
    (hs : ∀ t, t ∈ ss ∨ t ∈ ts → ∀ j, j < 4 → 0 ≤ t.get j ∧ t.get j < 16) :
    Calls Try.prog 86 #[.agg #[.int .i64 C1, .slice A1 n1 c1], .agg #[.int .i64 C2, .slice A2 n2 c2]] w fun e w' => ∃ v', e = .returned v' ∧ Kd.R (Kd.int .i64) 2 w' w.heap.size (fun _ => True) v' (sortI ((metPairs ss ts).map enc)) ∧ Below w.heap.size w w' := by
  have HA1 := Lib.hid hA1; have HA2 := Lib.hid hA2; have HN1 := Lib.hid hn1; have HN2 := Lib.hid hn2; have HSM := Lib.hid hs
  obtain ⟨s16, t16⟩ := h16
  clear hA1 hA2 hn1 hn2 hs
  go_enter Try.func86, Try.ntmps86
  go_wp2_with fail
  refine name3 ?_
  intro W1 b1 b2 b3 hz hb0
  have HI0 := Lib.hid (OI.empty (base := w.heap.size + 2) b3 (Nat.le_refl _)); have HB0 := Lib.hid hb0; have HX1 := Lib.hid b1; have HX2 := Lib.hid b2
  have HZ := Lib.hid (show w.heap.size + 2 ≤ W1.heap.size by omega)
  clear b1 b2 b3 hz hb0
  go_loopw [5, 6] (fun v5 v6 wr => ∃ i : Nat, i ≤ n1 ∧ v6 = .int .i64 i ∧ Below w.heap.size w wr ∧ Below (w.heap.size + 2) W1 wr ∧ OI wr (w.heap.size + 2) 2 v5 (codeI ss ts i)) (fun _ v6 _ => n1 - (intOf v6).toNat)
  case atStart => exact ⟨0, Nat.zero_le _, rfl, HB0.out, Below.refl _ _, by simpa [codeI] using HI0.out⟩
  case round =>
    rename World => wo
    obtain ⟨i, hi, rfl, hB, hB1, hO⟩ := hrel
    have X1 := HX1.out.below hB1 (by omega); have X2 := HX2.out.below hB1 (by omega)
    have a1 : wo.cell? ⟨w.heap.size, 1, none⟩ = some (.slice A1 n1 c1) := X1.cell rfl
    have l1 := X1.lt
    have HBO := Lib.hid hB; have HBO1 := Lib.hid hB1; have HOO := Lib.hid hO
    clear hB hB1 hO X1 X2
    by_cases hlt : i < n1
    · have i1 : (i : Int) < n1 := by omega
      have HI := Lib.hid (show i < ss.length by rw [← HN1.out]; exact hlt)
      go_wp2_with fail
      go_loopw [5, 7] (fun v5 v7 wr => ∃ k : Nat, k ≤ n2 ∧ v7 = .int .i64 k ∧ Below w.heap.size w wr ∧ Below (w.heap.size + 2) W1 wr ∧ OI wr (w.heap.size + 2) 2 v5 (codeI ss ts i ++ codeK (tk ss i) ts k)) (fun _ v7 _ => n2 - (intOf v7).toNat)
      case atStart => exact ⟨0, Nat.zero_le _, rfl, HBO.out, HBO1.out, by simpa [codeK] using HOO.out⟩
      case round =>
        rename World => wi
        obtain ⟨k, hk, rfl, hB, hB1, hO⟩ := hrel
        have X1 := HX1.out.below hB1 (by omega); have X2 := HX2.out.below hB1 (by omega)
        have a1 : wi.cell? ⟨w.heap.size, 1, none⟩ = some (.slice A1 n1 c1) := X1.cell rfl
        have a2 : wi.cell? ⟨w.heap.size + 1, 1, none⟩ = some (.slice A2 n2 c2) := X2.cell rfl
        have l1 := X1.lt; have l2 := X2.lt
        obtain ⟨sb, so, es, hsb, p0, p1, p2, p3⟩ := (HA1.out.below hB) i HI.out
        subst es
        by_cases hlk : k < n2
        · have k1 : (k : Int) < n2 := by omega
          have HK := Lib.hid (show k < ts.length by rw [← HN2.out]; exact hlk)
          obtain ⟨tb, tq, et, htb, q0, q1, q2, q3⟩ := (HA2.out.below hB) k HK.out
          subst et
          have HBI := Lib.hid hB; have HBI1 := Lib.hid hB1; have HOI := Lib.hid hO
          clear hB hB1 hO X1 X2
          by_cases he : (tk ss i).get 3 = (tk ts k).get 1
          · have he' : ((tk ss i).get 3 == (tk ts k).get 1) = true := by simp [he]
            have HE := Lib.hid he
            clear he
            go_upto_region 8 with fail
            refine wp_region_gro (by kernel_rfl) (by kernel_rfl) ?_
            repeat (first | go_big_quiet_step (fail) | quiet_step (fail))
            refine wpQuiet_nil ?_
            intro W6 hB6
            have a1 := cell_to hB6 a1; have a2 := cell_to hB6 a2; have p0 := cell_to hB6 p0; have p2 := cell_to hB6 p2; have q0 := cell_to hB6 q0; have q2 := cell_to hB6 q2
            have l1 := lt_to hB6 l1; have l2 := lt_to hB6 l2; have hsb := lt_to hB6 hsb; have htb := lt_to hB6 htb
            have HB6 := Lib.hid hB6
            clear hB6
            go_upto_region 9 with fail
            · skip
              have hD := (Below.refl W6.heap.size W6).drew
              have hE6 := below_to HB6.out hD
              have HOD' := HOI.out.to hE6
              have hBD' : Below (w.heap.size + 2) W1 W6.drew := HBI1.out.trans (hE6.mono (by have := HZ.out; have := HBI1.out.size; omega))
              have a1d := cell_to hD a1; have a2d := cell_to hD a2; have p0d := cell_to hD p0; have p2d := cell_to hD p2; have q0d := cell_to hD q0; have q2d := cell_to hD q2
              have hlen : (codeI ss ts i ++ codeK (tk ss i) ts k).length ≤ 1000000 := by
                have h1 := codeI_len ss ts i; have h2 := codeK_len (tk ss i) ts k
                rw [← HN2.out] at h1
                have h3 : 2 * n2 * i ≤ 32 * 16 := Nat.mul_le_mul (by omega) (by omega)
                rw [List.length_append]; omega
              refine start_ (n := 32) (S := fun w' => w'.cell? ⟨w.heap.size, 1, none⟩ = some (.slice (some ⟨sb, so, none⟩) n1 c1) ∧ w'.cell? ⟨w.heap.size + 1, 1, none⟩ = some (.slice (some ⟨tb, tq, none⟩) n2 c2) ∧ w'.cell? ⟨sb, so + i * 4, none⟩ = some (.int .i64 ((tk ss i).get 0)) ∧ w'.cell? ⟨sb, so + i * 4 + 2, none⟩ = some (.int .i64 ((tk ss i).get 2)) ∧ w'.cell? ⟨tb, tq + k * 4, none⟩ = some (.int .i64 ((tk ts k).get 0)) ∧ w'.cell? ⟨tb, tq + k * 4 + 2, none⟩ = some (.int .i64 ((tk ts k).get 2))) (ds := [29, 30]) #[false, false, false, false, false, false, false, false, false, false, false, false, false, false, false, false, false, false, false, false, false, false, false, false, false, false, false, false, false, false, false, false] (by kernel_rfl) rfl rfl ⟨a1d, a2d, p0d, p2d, q0d, q2d⟩ (fun hHeld => ?_)
              refine with_tabW prs_tab9 prs_bits9 (fun HT_ HW_ => ?_)
              generalize W6.drew = wd at HOD' hBD' a1d a2d p0d p2d q0d q2d hHeld ⊢
              have HOD := Lib.hid HOD'; have HBD2 := Lib.hid hBD'
              have hb2 : w.heap.size + 2 ≤ wd.heap.size := Nat.le_trans HZ.out HBD2.out.size
              clear hD hE6 HOD' hBD' a1d a2d p0d p2d q0d q2d
              refine pure_ (i := 0) (N := some 36) (v := ?_) (a' := ?_) #[true, false, false, false, false, false, false, false, false, false, false, false, false, false, false, false, false, false, false, false, false, false, false, false, false, false, false, false, false, false, false, false] rfl rfl (any_of HT_.out (by kernel_rfl)) (fun _ _ _ h => h) (Or.inl ⟨by rfl, ?_⟩) ?_ ?_
              rotate_left
              · intro w'
                go_simp
                with_reducible rfl
              rotate_left
              · simp only [Act.put, List.setIfInBounds_toArray, List.set_cons_zero, List.set_cons_succ, i64_w, i32_w]
                rfl
              refine pure_ (i := 1) (N := some 37) (v := ?_) (a' := ?_) #[true, true, false, false, false, false, false, false, false, false, false, false, false, false, false, false, false, false, false, false, false, false, false, false, false, false, false, false, false, false, false, false] rfl rfl (any_of HT_.out (by kernel_rfl)) (fun _ _ _ h => h) (Or.inl ⟨by rfl, ?_⟩) ?_ ?_
              rotate_left
              · intro w'
                go_simp
                with_reducible rfl
              rotate_left
              · simp only [Act.put, List.setIfInBounds_toArray, List.set_cons_zero, List.set_cons_succ, i64_w, i32_w]
                rfl
              refine pure_ (i := 3) (N := some 39) (v := ?_) (a' := ?_) #[true, true, false, true, false, false, false, false, false, false, false, false, false, false, false, false, false, false, false, false, false, false, false, false, false, false, false, false, false, false, false, false] rfl rfl (any_of HT_.out (by kernel_rfl)) (fun _ _ _ h => h) (Or.inl ⟨by rfl, ?_⟩) ?_ ?_
              rotate_left
              · intro w'
                go_simp
                with_reducible rfl
              rotate_left
              · simp only [Act.put, List.setIfInBounds_toArray, List.set_cons_zero, List.set_cons_succ, i64_w, i32_w]
                rfl
              refine pure_ (i := 8) (N := some 44) (v := ?_) (a' := ?_) #[true, true, false, true, false, false, false, false, true, false, false, false, false, false, false, false, false, false, false, false, false, false, false, false, false, false, false, false, false, false, false, false] rfl rfl (any_of HT_.out (by kernel_rfl)) (fun _ _ _ h => h) (Or.inl ⟨by rfl, ?_⟩) ?_ ?_
              rotate_left
              · intro w'
                go_simp
                with_reducible rfl
              rotate_left
              · simp only [Act.put, List.setIfInBounds_toArray, List.set_cons_zero, List.set_cons_succ, i64_w, i32_w]
                rfl
              refine pure_ (i := 10) (N := some 46) (v := ?_) (a' := ?_) #[true, true, false, true, false, false, false, false, true, false, true, false, false, false, false, false, false, false, false, false, false, false, false, false, false, false, false, false, false, false, false, false] rfl rfl (any_of HT_.out (by kernel_rfl)) (fun _ _ _ h => h) (Or.inl ⟨by rfl, ?_⟩) ?_ ?_
              rotate_left
              · intro w'
                go_simp
                with_reducible rfl
              rotate_left
              · simp only [Act.put, List.setIfInBounds_toArray, List.set_cons_zero, List.set_cons_succ, i64_w, i32_w]
                rfl
              refine pure_ (i := 15) (N := some 51) (v := ?_) (a' := ?_) #[true, true, false, true, false, false, false, false, true, false, true, false, false, false, false, true, false, false, false, false, false, false, false, false, false, false, false, false, false, false, false, false] rfl rfl (any_of HT_.out (by kernel_rfl)) (fun _ _ _ h => h) (Or.inl ⟨by rfl, ?_⟩) ?_ ?_
              rotate_left
              · intro w'
                go_simp
                with_reducible rfl
              rotate_left
              · simp only [Act.put, List.setIfInBounds_toArray, List.set_cons_zero, List.set_cons_succ, i64_w, i32_w]
                rfl
              refine pure_ (i := 17) (N := some 53) (v := ?_) (a' := ?_) #[true, true, false, true, false, false, false, false, true, false, true, false, false, false, false, true, false, true, false, false, false, false, false, false, false, false, false, false, false, false, false, false] rfl rfl (any_of HT_.out (by kernel_rfl)) (fun _ _ _ h => h) (Or.inl ⟨by rfl, ?_⟩) ?_ ?_
              rotate_left
              · intro w'
                go_simp
                with_reducible rfl
              rotate_left
              · simp only [Act.put, List.setIfInBounds_toArray, List.set_cons_zero, List.set_cons_succ, i64_w, i32_w]
                rfl
              refine pure_ (i := 22) (N := some 58) (v := ?_) (a' := ?_) #[true, true, false, true, false, false, false, false, true, false, true, false, false, false, false, true, false, true, false, false, false, false, true, false, false, false, false, false, false, false, false, false] rfl rfl (any_of HT_.out (by kernel_rfl)) (fun _ _ _ h => h) (Or.inl ⟨by rfl, ?_⟩) ?_ ?_
              rotate_left
              · intro w'
                go_simp
                with_reducible rfl
              rotate_left
              · simp only [Act.put, List.setIfInBounds_toArray, List.set_cons_zero, List.set_cons_succ, i64_w, i32_w]
                rfl
              refine pure_ (i := 24) (N := some 60) (v := ?_) (a' := ?_) #[true, true, false, true, false, false, false, false, true, false, true, false, false, false, false, true, false, true, false, false, false, false, true, false, true, false, false, false, false, false, false, false] rfl rfl (any_of HT_.out (by kernel_rfl)) (fun _ _ _ h => h) (Or.inl ⟨by rfl, ?_⟩) ?_ ?_
              rotate_left
              · intro w'
                go_simp
                with_reducible rfl
              rotate_left
              · simp only [Act.put, List.setIfInBounds_toArray, List.set_cons_zero, List.set_cons_succ, i64_w, i32_w]
                rfl
              refine take_ (i := 2) (N := some 38) (v := ?_) (a' := ?_) #[true, true, true, true, false, false, false, false, true, false, true, false, false, false, false, true, false, true, false, false, false, false, true, false, true, false, false, false, false, false, false, false] rfl rfl (take_ofW HT_.out HW_.out (by kernel_rfl)) (fun _ _ _ h => h) (Or.inl ⟨by rfl, ?_⟩) hHeld ?_ ?_
              rotate_left
              · rintro w' ⟨s0, s1, s2, s3, s4, s5⟩
                go_simp
                with_reducible rfl
              rotate_left
              · simp only [Act.put, List.setIfInBounds_toArray, List.set_cons_zero, List.set_cons_succ, i64_w, i32_w]
                rfl
              refine pure_ (i := 4) (N := some 40) (v := ?_) (a' := ?_) #[true, true, true, true, true, false, false, false, true, false, true, false, false, false, false, true, false, true, false, false, false, false, true, false, true, false, false, false, false, false, false, false] rfl rfl (any_of HT_.out (by kernel_rfl)) (fun _ _ _ h => h) (Or.inl ⟨by rfl, ?_⟩) ?_ ?_
              rotate_left
              · intro w'
                go_simp
                with_reducible rfl
              rotate_left
              · simp only [Act.put, List.setIfInBounds_toArray, List.set_cons_zero, List.set_cons_succ, i64_w, i32_w]
                rfl
              refine pure_ (i := 5) (N := some 41) (v := ?_) (a' := ?_) #[true, true, true, true, true, true, false, false, true, false, true, false, false, false, false, true, false, true, false, false, false, false, true, false, true, false, false, false, false, false, false, false] rfl rfl (any_of HT_.out (by kernel_rfl)) (fun _ _ _ h => h) (Or.inl ⟨by rfl, ?_⟩) ?_ ?_
              rotate_left
              · intro w'
                go_simp
                with_reducible rfl
              rotate_left
              · simp only [Act.put, List.setIfInBounds_toArray, List.set_cons_zero, List.set_cons_succ, i64_w, i32_w]
                rfl
              refine take_ (i := 6) (N := some 42) (v := ?_) (a' := ?_) #[true, true, true, true, true, true, true, false, true, false, true, false, false, false, false, true, false, true, false, false, false, false, true, false, true, false, false, false, false, false, false, false] rfl rfl (take_ofW HT_.out HW_.out (by kernel_rfl)) (fun _ _ _ h => h) (Or.inl ⟨by rfl, ?_⟩) hHeld ?_ ?_
              rotate_left
              · rintro w' ⟨s0, s1, s2, s3, s4, s5⟩
                go_simp
                with_reducible rfl
              rotate_left
              · simp only [Act.put, List.setIfInBounds_toArray, List.set_cons_zero, List.set_cons_succ, i64_w, i32_w]
                rfl
              refine pure_ (i := 7) (N := some 43) (v := ?_) (a' := ?_) #[true, true, true, true, true, true, true, true, true, false, true, false, false, false, false, true, false, true, false, false, false, false, true, false, true, false, false, false, false, false, false, false] rfl rfl (any_of HT_.out (by kernel_rfl)) (fun _ _ _ h => h) (Or.inl ⟨by rfl, ?_⟩) ?_ ?_
              rotate_left
              · intro w'
                go_simp
                with_reducible rfl
              rotate_left
              · simp only [Act.put, List.setIfInBounds_toArray, List.set_cons_zero, List.set_cons_succ, i64_w, i32_w]
                rfl
              refine take_ (i := 9) (N := some 45) (v := ?_) (a' := ?_) #[true, true, true, true, true, true, true, true, true, true, true, false, false, false, false, true, false, true, false, false, false, false, true, false, true, false, false, false, false, false, false, false] rfl rfl (take_ofW HT_.out HW_.out (by kernel_rfl)) (fun _ _ _ h => h) (Or.inl ⟨by rfl, ?_⟩) hHeld ?_ ?_
              rotate_left
              · rintro w' ⟨s0, s1, s2, s3, s4, s5⟩
                go_simp
                with_reducible rfl
              rotate_left
              · simp only [Act.put, List.setIfInBounds_toArray, List.set_cons_zero, List.set_cons_succ, i64_w, i32_w]
                rfl
              refine pure_ (i := 11) (N := some 47) (v := ?_) (a' := ?_) #[true, true, true, true, true, true, true, true, true, true, true, true, false, false, false, true, false, true, false, false, false, false, true, false, true, false, false, false, false, false, false, false] rfl rfl (any_of HT_.out (by kernel_rfl)) (fun _ _ _ h => h) (Or.inl ⟨by rfl, ?_⟩) ?_ ?_
              rotate_left
              · intro w'
                go_simp
                with_reducible rfl
              rotate_left
              · simp only [Act.put, List.setIfInBounds_toArray, List.set_cons_zero, List.set_cons_succ, i64_w, i32_w]
                rfl
              refine pure_ (i := 12) (N := some 48) (v := ?_) (a' := ?_) #[true, true, true, true, true, true, true, true, true, true, true, true, true, false, false, true, false, true, false, false, false, false, true, false, true, false, false, false, false, false, false, false] rfl rfl (any_of HT_.out (by kernel_rfl)) (fun _ _ _ h => h) (Or.inl ⟨by rfl, ?_⟩) ?_ ?_
              rotate_left
              · intro w'
                go_simp
                with_reducible rfl
              rotate_left
              · simp only [Act.put, List.setIfInBounds_toArray, List.set_cons_zero, List.set_cons_succ, i64_w, i32_w]
                rfl
              refine take_ (i := 13) (N := some 49) (v := ?_) (a' := ?_) #[true, true, true, true, true, true, true, true, true, true, true, true, true, true, false, true, false, true, false, false, false, false, true, false, true, false, false, false, false, false, false, false] rfl rfl (take_ofW HT_.out HW_.out (by kernel_rfl)) (fun _ _ _ h => h) (Or.inl ⟨by rfl, ?_⟩) hHeld ?_ ?_
              rotate_left
              · rintro w' ⟨s0, s1, s2, s3, s4, s5⟩
                go_simp
                with_reducible rfl
              rotate_left
              · simp only [Act.put, List.setIfInBounds_toArray, List.set_cons_zero, List.set_cons_succ, i64_w, i32_w]
                rfl
              refine pure_ (i := 14) (N := some 50) (v := ?_) (a' := ?_) #[true, true, true, true, true, true, true, true, true, true, true, true, true, true, true, true, false, true, false, false, false, false, true, false, true, false, false, false, false, false, false, false] rfl rfl (any_of HT_.out (by kernel_rfl)) (fun _ _ _ h => h) (Or.inl ⟨by rfl, ?_⟩) ?_ ?_
              rotate_left
              · intro w'
                go_simp
                with_reducible rfl
              rotate_left
              · simp only [Act.put, List.setIfInBounds_toArray, List.set_cons_zero, List.set_cons_succ, i64_w, i32_w]
                rfl
              refine take_ (i := 16) (N := some 52) (v := ?_) (a' := ?_) #[true, true, true, true, true, true, true, true, true, true, true, true, true, true, true, true, true, true, false, false, false, false, true, false, true, false, false, false, false, false, false, false] rfl rfl (take_ofW HT_.out HW_.out (by kernel_rfl)) (fun _ _ _ h => h) (Or.inl ⟨by rfl, ?_⟩) hHeld ?_ ?_
              rotate_left
              · rintro w' ⟨s0, s1, s2, s3, s4, s5⟩
                go_simp
                with_reducible rfl
              rotate_left
              · simp only [Act.put, List.setIfInBounds_toArray, List.set_cons_zero, List.set_cons_succ, i64_w, i32_w]
                rfl
              refine pure_ (i := 18) (N := some 54) (v := ?_) (a' := ?_) #[true, true, true, true, true, true, true, true, true, true, true, true, true, true, true, true, true, true, true, false, false, false, true, false, true, false, false, false, false, false, false, false] rfl rfl (any_of HT_.out (by kernel_rfl)) (fun _ _ _ h => h) (Or.inl ⟨by rfl, ?_⟩) ?_ ?_
              rotate_left
              · intro w'
                go_simp
                with_reducible rfl
              rotate_left
              · simp only [Act.put, List.setIfInBounds_toArray, List.set_cons_zero, List.set_cons_succ, i64_w, i32_w]
                rfl
              refine pure_ (i := 19) (N := some 55) (v := ?_) (a' := ?_) #[true, true, true, true, true, true, true, true, true, true, true, true, true, true, true, true, true, true, true, true, false, false, true, false, true, false, false, false, false, false, false, false] rfl rfl (any_of HT_.out (by kernel_rfl)) (fun _ _ _ h => h) (Or.inl ⟨by rfl, ?_⟩) ?_ ?_
              rotate_left
              · intro w'
                go_simp
                with_reducible rfl
              rotate_left
              · simp only [Act.put, List.setIfInBounds_toArray, List.set_cons_zero, List.set_cons_succ, i64_w, i32_w]
                rfl
              refine take_ (i := 20) (N := some 56) (v := ?_) (a' := ?_) #[true, true, true, true, true, true, true, true, true, true, true, true, true, true, true, true, true, true, true, true, true, false, true, false, true, false, false, false, false, false, false, false] rfl rfl (take_ofW HT_.out HW_.out (by kernel_rfl)) (fun _ _ _ h => h) (Or.inl ⟨by rfl, ?_⟩) hHeld ?_ ?_
              rotate_left
              · rintro w' ⟨s0, s1, s2, s3, s4, s5⟩
                go_simp
                with_reducible rfl
              rotate_left
              · simp only [Act.put, List.setIfInBounds_toArray, List.set_cons_zero, List.set_cons_succ, i64_w, i32_w]
                rfl
              refine pure_ (i := 21) (N := some 57) (v := ?_) (a' := ?_) #[true, true, true, true, true, true, true, true, true, true, true, true, true, true, true, true, true, true, true, true, true, true, true, false, true, false, false, false, false, false, false, false] rfl rfl (any_of HT_.out (by kernel_rfl)) (fun _ _ _ h => h) (Or.inl ⟨by rfl, ?_⟩) ?_ ?_
              rotate_left
              · intro w'
                go_simp
                with_reducible rfl
              rotate_left
              · simp only [Act.put, List.setIfInBounds_toArray, List.set_cons_zero, List.set_cons_succ, i64_w, i32_w]
                rfl
              refine take_ (i := 23) (N := some 59) (v := ?_) (a' := ?_) #[true, true, true, true, true, true, true, true, true, true, true, true, true, true, true, true, true, true, true, true, true, true, true, true, true, false, false, false, false, false, false, false] rfl rfl (take_ofW HT_.out HW_.out (by kernel_rfl)) (fun _ _ _ h => h) (Or.inl ⟨by rfl, ?_⟩) hHeld ?_ ?_
              rotate_left
              · rintro w' ⟨s0, s1, s2, s3, s4, s5⟩
                go_simp
                with_reducible rfl
              rotate_left
              · simp only [Act.put, List.setIfInBounds_toArray, List.set_cons_zero, List.set_cons_succ, i64_w, i32_w]
                rfl
              refine pure_ (i := 25) (N := some 61) (v := ?_) (a' := ?_) #[true, true, true, true, true, true, true, true, true, true, true, true, true, true, true, true, true, true, true, true, true, true, true, true, true, true, false, false, false, false, false, false] rfl rfl (any_of HT_.out (by kernel_rfl)) (fun _ _ _ h => h) (Or.inl ⟨by rfl, ?_⟩) ?_ ?_
              rotate_left
              · intro w'
                go_simp
                with_reducible rfl
              rotate_left
              · simp only [Act.put, List.setIfInBounds_toArray, List.set_cons_zero, List.set_cons_succ, i64_w, i32_w]
                rfl
              refine pure_ (i := 26) (N := some 62) (v := ?_) (a' := ?_) #[true, true, true, true, true, true, true, true, true, true, true, true, true, true, true, true, true, true, true, true, true, true, true, true, true, true, true, false, false, false, false, false] rfl rfl (any_of HT_.out (by kernel_rfl)) (fun _ _ _ h => h) (Or.inl ⟨by rfl, ?_⟩) ?_ ?_
              rotate_left
              · intro w'
                go_simp
                with_reducible rfl
              rotate_left
              · simp only [Act.put, List.setIfInBounds_toArray, List.set_cons_zero, List.set_cons_succ, i64_w, i32_w]
                rfl
              refine take_ (i := 27) (N := some 63) (v := ?_) (a' := ?_) #[true, true, true, true, true, true, true, true, true, true, true, true, true, true, true, true, true, true, true, true, true, true, true, true, true, true, true, true, false, false, false, false] rfl rfl (take_ofW HT_.out HW_.out (by kernel_rfl)) (fun _ _ _ h => h) (Or.inl ⟨by rfl, ?_⟩) hHeld ?_ ?_
              rotate_left
              · rintro w' ⟨s0, s1, s2, s3, s4, s5⟩
                go_simp
                with_reducible rfl
              rotate_left
              · simp only [Act.put, List.setIfInBounds_toArray, List.set_cons_zero, List.set_cons_succ, i64_w, i32_w]
                rfl
              refine pure_ (i := 28) (N := some 64) (v := ?_) (a' := ?_) #[true, true, true, true, true, true, true, true, true, true, true, true, true, true, true, true, true, true, true, true, true, true, true, true, true, true, true, true, true, false, false, false] rfl rfl (any_of HT_.out (by kernel_rfl)) (fun _ _ _ h => h) (Or.inl ⟨by rfl, ?_⟩) ?_ ?_
              rotate_left
              · intro w'
                go_simp
                with_reducible rfl
              rotate_left
              · simp only [Act.put, List.setIfInBounds_toArray, List.set_cons_zero, List.set_cons_succ, i64_w, i32_w]
                rfl
              refine last_ (i := 29) (N := some 65) #[true, true, true, true, true, true, true, true, true, true, true, true, true, true, true, true, true, true, true, true, true, true, true, true, true, true, true, true, true, true, false, false] rfl rfl (one_of HT_.out (by kernel_rfl)) (by decide) (fun K hK => ?_)
              refine value_ (w1 := ?_) (v := ?_) (by rfl) rfl ?_ ?_
              rotate_left 2
              · go_simp
                constructor
                · rfl
                · rfl
              refine hK.out _ _ ?_
              clear hK K
              refine norm_ (a' := ?_) ?_ ?_
              rotate_left
              · show Act.put _ (some 65) _ = _
                simp only [Act.put, List.setIfInBounds_toArray, List.set_cons_zero, List.set_cons_succ, i64_w, i32_w]
                rfl
              refine last_ (i := 30) (N := some 66) #[true, true, true, true, true, true, true, true, true, true, true, true, true, true, true, true, true, true, true, true, true, true, true, true, true, true, true, true, true, true, true, false] rfl rfl (one_of HT_.out (by kernel_rfl)) (by decide) (fun K hK => ?_)
              refine app_two_step (w0 := W1) (w.heap.size + 2) (by rfl) (.tmp 36) (.tmp 65) 48 _ _ rfl Try.underlying48 info2 _ (codeI ss ts i ++ codeK (tk ss i) ts k) rfl rfl HOD.out HBD2.out hb2 hlen ?_
              intro v9 w9 hO9 hB9
              refine hK.out _ _ ?_
              clear hK K
              refine norm_ (a' := ?_) ?_ ?_
              rotate_left
              · show Act.put _ (some 66) _ = _
                simp only [Act.put, List.setIfInBounds_toArray, List.set_cons_zero, List.set_cons_succ, i64_w, i32_w]
                rfl
              refine pure_ (i := 31) (N := some 5) (v := ?_) (a' := ?_) #[true, true, true, true, true, true, true, true, true, true, true, true, true, true, true, true, true, true, true, true, true, true, true, true, true, true, true, true, true, true, true, true] rfl rfl (any_of HT_.out (by kernel_rfl)) (fun _ _ _ h => h) (Or.inl ⟨by rfl, ?_⟩) ?_ ?_
              rotate_left
              · intro w'
                go_simp
                with_reducible rfl
              rotate_left
              · simp only [Act.put, List.setIfInBounds_toArray, List.set_cons_zero, List.set_cons_succ, i64_w, i32_w]
                rfl
              refine done_ (done_of HT_.out (by kernel_rfl)) ?_
              have w9e : ∀ x y : Int, (0 ≤ x ∧ x < 16) → (0 ≤ y ∧ y < 16) → wrap64 (wrap64 (16 * x) + y) = enc (x, y) := by
                intro x y hx hy
                rw [IntWalk.wrap64_in (16 * x) (by omega), IntWalk.wrap64_in _ (by omega)]
                rfl
              have m1 : tk ss i ∈ ss := by rw [← tk_get HI.out]; exact List.getElem_mem HI.out
              have m2 : tk ts k ∈ ts := by rw [← tk_get HK.out]; exact List.getElem_mem HK.out
              rw [w9e _ _ (HSM.out _ (.inl m1) 0 (by omega)) (HSM.out _ (.inr m2) 0 (by omega)), w9e _ _ (HSM.out _ (.inl m1) 2 (by omega)) (HSM.out _ (.inr m2) 2 (by omega)), List.append_assoc, ← codeK_yes HK.out HE.out] at hO9
              have HO9 := Lib.hid hO9; have HB9 := Lib.hid hB9
              have HB10 := Lib.hid (show Below w.heap.size w w9 from HB0.out.trans (hB9.mono (by omega)))
              clear hO9 hB9 w9e hHeld
              go_wp2_with fail
              go_roundw
              case rel => exact ⟨k + 1, hlk, by go_num, HB10.out, HB9.out, HO9.out⟩
              case measure => simp [intOf]; omega
          · have he' : ((tk ss i).get 3 == (tk ts k).get 1) = false := by simpa using he
            have HE := Lib.hid he
            clear he
            go_upto_region 8 with fail
            refine wp_region_gro (by kernel_rfl) (by kernel_rfl) ?_
            repeat (first | go_big_quiet_step (fail) | quiet_step (fail))
            refine wpQuiet_nil ?_
            intro W6 hB6
            have HO6 := Lib.hid (HOI.out.to hB6); have HB6 := Lib.hid (below_to HBI.out hB6)
            have HB7 := Lib.hid (show Below (w.heap.size + 2) W1 W6 from HBI1.out.trans (hB6.mono (by have := HZ.out; have := HBI1.out.size; omega)))
            clear hB6 a1 a2 p0 p1 p2 p3 q0 q1 q2 q3 hsb htb l1 l2
            go_wp2_with fail
            go_roundw
            case rel => exact ⟨k + 1, hlk, by go_num, HB6.out, HB7.out, by rw [codeK_no HK.out HE.out]; exact HO6.out⟩
            case measure => simp [intOf]; omega
        · have hkn : k = n2 := by omega
          have k1 : ¬ (k : Int) < n2 := by omega
          have HBI := Lib.hid hB; have HBI1 := Lib.hid hB1; have HOI := Lib.hid hO
          clear hB hB1 hO X1 X2
          go_wp2_with fail
          go_roundw
          case rel => exact ⟨i + 1, hlt, by go_num, HBI.out, HBI1.out, by rw [codeI_succ HI.out, ← HN2.out, ← hkn]; exact HOI.out⟩
          case measure => simp [intOf]; omega
    · have hin : i = n1 := by omega
      have i1 : ¬ (i : Int) < n1 := by omega
      obtain ⟨A9, c9, e9, hr9, hc9⟩ := HOO.out.reads
      subst e9
      have ho9 := HOO.out
      have he : codeI ss ts i = (metPairs ss ts).map enc := by rw [hin, HN1.out, codeI_all]
      have hl9 := codeI_len ss ts i
      rw [he] at hr9 hc9 hl9 ho9 ⊢
      obtain ⟨cs, hcs⟩ : ∃ q, q = (metPairs ss ts).map enc := ⟨_, rfl⟩
      rw [← hcs] at hr9 hc9 hl9 ho9 ⊢
      obtain ⟨nc, hnc⟩ : ∃ q, q = cs.length := ⟨_, rfl⟩
      rw [← hnc] at hc9 hl9 ho9 ⊢
      have hl8 : nc ≤ 1000000 := by
        rw [← HN2.out] at hl9
        have h3 : 2 * n2 * i ≤ 32 * 16 := Nat.mul_le_mul (by omega) (by omega)
        omega
      have HR9 := Lib.hid hr9; have HNC := Lib.hid hnc; have HCS := Lib.hid hcs; have HO9 := Lib.hid (show OI wo (w.heap.size + 2) 2 (.slice A9 nc c9) cs from ho9)
      clear hr9 hnc he hin hcs ho9
      go_wp2_with fail
      refine (l04Sorted_any nc A9 cs nc c9 wo (Nat.le_refl _) HNC.out HR9.out hc9 hl8).mono ?_
      rintro e w8 ⟨A8, c8, rfl, hr8, hc8, hb8, hq8⟩
      have ho8 : OI w8 w.heap.size 2 (.slice A8 (sortI cs).length c8) (sortI cs) := by
        rcases hq8 with ⟨e1, e2, e3⟩ | h9
        · subst e1; subst e2
          rw [e3, ← HNC.out]
          exact own_lower (HO9.out.to hb8) (by omega)
        · exact own_lower h9 HBO.out.size
      have HO8 := Lib.hid ho8; have HB8 := Lib.hid (below_to HBO.out hb8)
      obtain ⟨ns, hns⟩ : ∃ q, q = (sortI cs).length := ⟨_, rfl⟩
      rw [← hns]
      have HNS := Lib.hid hns
      clear hr8 hc8 hb8 hq8 ho8 hns
      go_wp2_with fail
      go_ret
      rw [← HCS.out]
      exact ⟨_, by rw [HNS.out]; rfl, R_of_OI9 HO8.out, HB8.out⟩
end Go.Proofs.Ytnjmgmdpkogocaa

/-
  Contract: l04Pairs, in the form of the printed ones.
-/
namespace Go.Proofs.Ytnjmgmdpkogocaa.Q
open Go Go.RowKit Go.Proofs Go.Proofs.YtnjmgmdpkogocaaW.PrintWords Go.Proofs.YtnjmgmdpkogocaaW.PrintMore Go.Proofs.Ytnjmgmdpkogocaa
set_option linter.unusedVariables false
set_option linter.unusedSimpArgs false
def low16 (t : STile) : Bool := decide (0 ≤ t.f0 ∧ t.f0 < 16) && decide (0 ≤ t.f1 ∧ t.f1 < 16) && decide (0 ≤ t.f2 ∧ t.f2 < 16) && decide (0 ≤ t.f3 ∧ t.f3 < 16)
def spec_l04Pairs.ok (l0 l1 : List STile) : Bool := decide (l0.length ≤ 16) && decide (l1.length ≤ 16) && l0.all low16 && l1.all low16
def spec_l04Pairs.f (a0_0 : Int) (l0_1 : List STile) (a1_0 : Int) (l1_1 : List STile) : Option (List Int) :=
  if spec_l04Pairs.ok l0_1 l1_1 = true then some (sortI ((metPairs (l0_1.map toT) (l1_1.map toT)).map enc)) else none
theorem low16_get {t : STile} (h : low16 t = true) : ∀ j, j < 4 → 0 ≤ (toT t).get j ∧ (toT t).get j < 16 := by
  simp only [low16, Bool.and_eq_true, decide_eq_true_eq] at h
  obtain ⟨⟨⟨h0, h1⟩, h2⟩, h3⟩ := h
  intro j hj
  match j, hj with
  | 0, _ => exact h0
  | 1, _ => exact h1
  | 2, _ => exact h2
  | 3, _ => exact h3
theorem spec_l04Pairs.calls (a0_0 : Int) (A0_1 : Option Addr) (c0_1 : Nat) (l0_1 : List STile) (a1_0 : Int) (A1_1 : Option Addr) (c1_1 : Nat) (l1_1 : List STile) (r : List Int) (w : World) (hr0_1 : Kd.C k45 w A0_1 l0_1.length l0_1) (hc0_1 : l0_1.length ≤ c0_1) (hr1_1 : Kd.C k45 w A1_1 l1_1.length l1_1) (hc1_1 : l1_1.length ≤ c1_1) (h : spec_l04Pairs.f a0_0 l0_1 a1_0 l1_1 = some r) :
    Calls Try.prog 86 #[.agg #[.int .i64 a0_0, .slice A0_1 l0_1.length c0_1], .agg #[.int .i64 a1_0, .slice A1_1 l1_1.length c1_1]] w fun e w' => ∃ v0_ : Value, e = .returned (v0_) ∧ Kd.R (Kd.int .i64) 2 w' w.heap.size (fun _ => True) v0_ r ∧ Below w.heap.size w w' := by
  unfold spec_l04Pairs.f at h
  split at h
  · rename_i hl
    simp only [spec_l04Pairs.ok, Bool.and_eq_true, decide_eq_true_eq, List.all_eq_true] at hl
    obtain ⟨⟨⟨h1, h2⟩, h3⟩, h4⟩ := hl
    obtain rfl := Option.some.inj h
    exact l04Pairs_any a0_0 A0_1 (l0_1.map toT) l0_1.length c0_1 a1_0 A1_1 (l1_1.map toT) l1_1.length c1_1 w (by simp) (rt_of_C hr0_1) (by simp) (rt_of_C hr1_1) ⟨h1, h2⟩ (fun t ht => by
      rcases ht with ht | ht
      · obtain ⟨u, hu, rfl⟩ := List.mem_map.1 ht; exact low16_get (h3 u hu)
      · obtain ⟨u, hu, rfl⟩ := List.mem_map.1 ht; exact low16_get (h4 u hu))
  · cases h
end Go.Proofs.Ytnjmgmdpkogocaa.Q

-- Printed by a program of this session (the kit's print, turned: printpatch.py) out of Lean's print of the translation. Lean checks it.
namespace Go.Proofs.Ytnjmgmdpkogocaa.Q
open Go.RowKit Go.Proofs.YtnjmgmdpkogocaaW.PrintWords Go.Proofs.YtnjmgmdpkogocaaW.PrintLast Go.Proofs.YtnjmgmdpkogocaaW.PrintMore
attribute [local go_sem] max2_int min2_int max_two min_two max_three min_three max_four min_four   -- for this text's walks alone
set_option linter.unusedVariables false
set_option linter.unusedSimpArgs false

/-! ### spec_PairsOfStack: function 44 -/
mutual
def spec_PairsOfStack.j0 : Nat → Bool → Int → List (S45) → Int → List (S45) → Option ((List (List Int)) × Int)
 | 0, _, _, _, _, _ => none
 | k + 1, x16, x1330000, x1330001, x1331000, x1331001 => if x16 = true then (some (([] : List (List Int)), 1)) else ((spec_l04Pairs.f x1330000 x1330001 x1331000 x1331001).bind fun t1333 => (spec_PairsOfStack.l0 k t1333 (([] : List (List Int))) 0))
def spec_PairsOfStack.l0 : Nat → List Int → List (List Int) → Int → Option ((List (List Int)) × Int)
 | 0, _, _, _ => none
 | k + 1, x6, x7, x8 => if x8 < (x6.length : Int) then (if 0 ≤ x8 then (if x7.length < 5864062014805 then (spec_PairsOfStack.l0 k x6 (x7 ++ [(([wrap64 (Int.tdiv (rd x6 x8) 16), Int.tmod (rd x6 x8) 16] : List Int))]) (wrap64 (x8 + 1))) else (none)) else (none)) else (some (x7, 0))
end
def spec_PairsOfStack.f (k : Nat) (a0_0 : Int) (l0_1 : List (S45)) (a1_0 : Int) (l1_1 : List (S45)) : Option ((List (List Int)) × Int) := (spec_l01Is.f a0_0 l0_1).bind fun t1331 => (if t1331 = true then ((spec_l01Is.f a1_0 l1_1).bind fun t1332 => (spec_PairsOfStack.j0 k (!t1332) a0_0 l0_1 a1_0 l1_1)) else (spec_PairsOfStack.j0 k true a0_0 l0_1 a1_0 l1_1))
theorem spec_PairsOfStack.mono_l : ∀ k, (∀ y0 y1 y2 y3 y4, LeO (spec_PairsOfStack.j0 k y0 y1 y2 y3 y4) (spec_PairsOfStack.j0 (k + 1) y0 y1 y2 y3 y4)) ∧ (∀ y0 y1 y2, LeO (spec_PairsOfStack.l0 k y0 y1 y2) (spec_PairsOfStack.l0 (k + 1) y0 y1 y2))
 | 0 => ⟨fun _ _ _ _ _ r h => by simp [spec_PairsOfStack.j0] at h, fun _ _ _ r h => by simp [spec_PairsOfStack.l0] at h⟩
 | k + 1 => by
  obtain ⟨ih0, ih1⟩ := spec_PairsOfStack.mono_l k
  refine ⟨?_, ?_⟩
  ·intro y0 y1 y2 y3 y4
   unfold spec_PairsOfStack.j0
   repeat' first
   | (with_reducible exact ih0 _ _ _ _ _)
   | (with_reducible exact ih1 _ _ _)
   | (with_reducible exact LeO.refl _)
   | (with_reducible exact LeO.none _)
   | (with_reducible refine LeO.ite ?_ ?_)
   | (with_reducible refine LeO.bind ?_ (fun _ => ?_))
   | exact ih0 _ _ _ _ _
   | exact ih1 _ _ _
   | exact LeO.none _
   | refine LeO.ite ?_ ?_
   | refine LeO.bind ?_ (fun _ => ?_)
  ·intro y0 y1 y2
   unfold spec_PairsOfStack.l0
   repeat' first
   | (with_reducible exact ih0 _ _ _ _ _)
   | (with_reducible exact ih1 _ _ _)
   | (with_reducible exact LeO.refl _)
   | (with_reducible exact LeO.none _)
   | (with_reducible refine LeO.ite ?_ ?_)
   | (with_reducible refine LeO.bind ?_ (fun _ => ?_))
   | exact ih0 _ _ _ _ _
   | exact ih1 _ _ _
   | exact LeO.none _
   | refine LeO.ite ?_ ?_
   | refine LeO.bind ?_ (fun _ => ?_)
theorem spec_PairsOfStack.mono : ∀ a0 a1 a2 a3 k, LeO (spec_PairsOfStack.f k a0 a1 a2 a3) (spec_PairsOfStack.f (k + 1) a0 a1 a2 a3) := by
 intro a0 a1 a2 a3 k
 obtain ⟨ih0, ih1⟩ := spec_PairsOfStack.mono_l k
 unfold spec_PairsOfStack.f
 repeat' first
   | (with_reducible exact ih0 _ _ _ _ _)
   | (with_reducible exact ih1 _ _ _)
   | (with_reducible exact LeO.refl _)
   | (with_reducible exact LeO.none _)
   | (with_reducible refine LeO.ite ?_ ?_)
   | (with_reducible refine LeO.bind ?_ (fun _ => ?_))
   | exact ih0 _ _ _ _ _
   | exact ih1 _ _ _
   | exact LeO.none _
   | refine LeO.ite ?_ ?_
   | refine LeO.bind ?_ (fun _ => ?_)
def spec_PairsOfStack.T7 : Bool × List (List Nat × List Nat) := (true, [([], []), ([], []), ([], []), ([1, 2], [1, 2]), ([3], [3]), ([4], [4]), ([], []), ([], []), ([6, 7], [6, 7]), ([8], [8]), ([9], [9]), ([5, 10], [5, 10]), ([11], [11]), ([0, 12], [0, 12]), ([13, 13, 0, 1, 2, 3, 4, 5, 6, 7, 8, 9, 10, 11, 12, 13], [0, 13])])
def spec_PairsOfStack.B7 : List Nat := [0, 0, 0, 6, 14, 30, 0, 0, 192, 448, 960, 2046, 4094, 8191, 16383]
theorem spec_PairsOfStack.tab7 : rtab .any (opsOf Try.f44 7) = spec_PairsOfStack.T7 := by kernel_rfl
theorem spec_PairsOfStack.bits7 : waitsOk spec_PairsOfStack.T7.2 spec_PairsOfStack.B7 = true := by kernel_rfl
set_option maxHeartbeats 8000000 in
set_option maxRecDepth 100000 in
theorem spec_PairsOfStack.calls (k : Nat) (a0_0 : Int) (A0_1 : Option Addr) (c0_1 : Nat) (l0_1 : List (S45)) (a1_0 : Int) (A1_1 : Option Addr) (c1_1 : Nat) (l1_1 : List (S45)) (r1 : List (List Int)) (r2 : Int) (w : World) (hr0_1 : Kd.C k45 w A0_1 l0_1.length l0_1) (hc0_1 : l0_1.length ≤ c0_1) (hr1_1 : Kd.C k45 w A1_1 l1_1.length l1_1) (hc1_1 : l1_1.length ≤ c1_1) (h : spec_PairsOfStack.f k a0_0 l0_1 a1_0 l1_1 = some (r1, r2)) :
  Calls Try.prog 44 #[.agg #[.int .i64 a0_0, .slice A0_1 l0_1.length c0_1], .agg #[.int .i64 a1_0, .slice A1_1 l1_1.length c1_1]] w fun e w' => ∃ v0_ : Value, e = .returned (.tuple #[v0_, .int .i64 r2]) ∧ Kd.S (Kd.slice 2 (Kd.int .i64)) 48 w' w.heap.size (fun _ => True) v0_ r1 ∧ Below w.heap.size w w' := by
 have hu26 := Try.underlying26
 have HR0_1 := Aside0.mk hr0_1
 have HC0_1 := Aside0.mk hc0_1
 clear hr0_1 hc0_1
 have HR1_1 := Aside0.mk hr1_1
 have HC1_1 := Aside0.mk hc1_1
 clear hr1_1 hc1_1
 have HB := Aside0.mk (Below.refl w.heap.size w)
 have H : ((spec_l01Is.f a0_0 l0_1).bind fun t1331 => (if t1331 = true then ((spec_l01Is.f a1_0 l1_1).bind fun t1332 => (spec_PairsOfStack.j0 k (!t1332) a0_0 l0_1 a1_0 l1_1)) else (spec_PairsOfStack.j0 k true a0_0 l0_1 a1_0 l1_1))) = some (r1, r2) := h
 clear h
 have HC3 := Aside0.mk H
 clear H
 go_enter Try.func44, Try.ntmps44
 go_upto_region 1 with (first | ((with_reducible refine gate_dst (N := 2) rfl ?_); refine box_event ?hg (N := 2) ?hd (cs := #[.int .i64 a0_0, .slice A0_1 l0_1.length c0_1]) (t := 26) ?hr ?_; (case hd => rfl); (case hg => rfl); (case hr => first | (go_simp; done) | (go_simp; rfl)); intro gb1329 hg w4 hbox hb; have n0_ := Aside0.mk (below_step (by repeat (first | (with_reducible first | exact HB.out | apply below_alloc | apply pw_below_drewN | apply below_drew1) | exact HB.out)) hb); have n1_ := Aside0.mk (hbox); have n2_ := Aside0.mk ((by rw [hg]; exact (below_size (by repeat (first | (with_reducible first | exact HB.out | apply below_alloc | apply pw_below_drewN | apply below_drew1) | exact HB.out))) : w.heap.size ≤ gb1329)); have n3_ := Aside0.mk ((by rw [hg]; exact (below_size (by repeat (first | (with_reducible first | exact HB.out | apply below_alloc | apply pw_below_drewN | apply below_drew1) | exact HB.out))) : w.heap.size ≤ gb1329)); clear HB; have HB := n0_; have BK1329 := n1_; have GW1329 := n2_; have GE1329 := n3_; clear n0_ n1_ n2_ n3_; clear hb hbox hg) | ((with_reducible refine gate_dst (N := 3) rfl ?_); refine box_event ?hg (N := 3) ?hd (cs := #[.int .i64 a1_0, .slice A1_1 l1_1.length c1_1]) (t := 26) ?hr ?_; (case hd => rfl); (case hg => rfl); (case hr => first | (go_simp; done) | (go_simp; rfl)); intro gb1330 hg w5 hbox hb; have n0_ := Aside0.mk (blk_below (g := gb1329) (o := .cells #[.int .i64 a0_0, .slice A0_1 l0_1.length c0_1] 26 (0, 0)) (by (with_reducible repeat (first | refine blk_drewN ?_ _ | refine blk_drew ?_ | refine blk_alloc ?_ _)); exact BK1329.out) hb); have n1_ := Aside0.mk (below_step (by repeat (first | (with_reducible first | exact HB.out | apply below_alloc | apply pw_below_drewN | apply below_drew1 | refine below_set ?_ GE1329.out) | exact HB.out)) hb); have n2_ := Aside0.mk (hbox); have n3_ := Aside0.mk ((by rw [hg]; exact (below_size (by repeat (first | (with_reducible first | exact HB.out | apply below_alloc | apply pw_below_drewN | apply below_drew1 | refine below_set ?_ GE1329.out) | exact HB.out))) : w.heap.size ≤ gb1330)); have n4_ := Aside0.mk ((by rw [hg]; exact (below_size (by repeat (first | (with_reducible first | exact HB.out | apply below_alloc | apply pw_below_drewN | apply below_drew1 | refine below_set ?_ GE1329.out) | exact HB.out))) : w.heap.size ≤ gb1330)); have n5_ := Aside0.mk ((by rw [hg]; exact Nat.ne_of_lt (blk_lt (g := gb1329) (o := .cells #[.int .i64 a0_0, .slice A0_1 l0_1.length c0_1] 26 (0, 0)) (by (with_reducible repeat (first | refine blk_drewN ?_ _ | refine blk_drew ?_ | refine blk_alloc ?_ _)); exact BK1329.out)) : gb1329 ≠ gb1330)); have n6_ := Aside0.mk ((by rw [hg]; exact Nat.ne_of_gt (blk_lt (g := gb1329) (o := .cells #[.int .i64 a0_0, .slice A0_1 l0_1.length c0_1] 26 (0, 0)) (by (with_reducible repeat (first | refine blk_drewN ?_ _ | refine blk_drew ?_ | refine blk_alloc ?_ _)); exact BK1329.out)) : gb1330 ≠ gb1329)); clear BK1329; clear HB; have BK1329 := n0_; have HB := n1_; have BK1330 := n2_; have GW1330 := n3_; have GE1330 := n4_; have NB1329_1330 := n5_; have NB1330_1329 := n6_; clear n0_ n1_ n2_ n3_ n4_ n5_ n6_; clear hb hbox hg))
 (try simp only [Act.put, List.setIfInBounds_toArray, List.set_cons_zero, List.set_cons_succ])
 go_cut [16] (fun v16 wc => ∃ (kq : Nat) (x16_2 : Bool), v16 = .bool x16_2 ∧ Aside0 (spec_PairsOfStack.j0 kq x16_2 a0_0 l0_1 a1_0 l1_1 = some (r1, r2)) ∧ Aside0 (kq ≤ k) ∧ Aside0 (wc.heap[gb1329]? = some (.cells #[.int .i64 a0_0, (.slice A0_1 l0_1.length c0_1)] 26 (0, 0))) ∧ Aside0 (wc.heap[gb1330]? = some (.cells #[.int .i64 a1_0, (.slice A1_1 l1_1.length c1_1)] 26 (0, 0))) ∧ Aside0 (Below w.heap.size w wc))
 case first =>
  have H := HC3.out
  clear HC3
  replace H := Option.bind_eq_some_iff.mp H
  obtain ⟨t1331, A60, H⟩ := H
  replace H : (if t1331 = true then ((spec_l01Is.f a1_0 l1_1).bind fun t1332 => (spec_PairsOfStack.j0 k (!t1332) a0_0 l0_1 a1_0 l1_1)) else (spec_PairsOfStack.j0 k true a0_0 l0_1 a1_0 l1_1)) = some (r1, r2) := H
  have A6 := Aside0.mk A60
  clear A60
  by_cases c7 : t1331 = true
  ·subst c7
   have H1 : ((spec_l01Is.f a1_0 l1_1).bind fun t1332 => (spec_PairsOfStack.j0 k (!t1332) a0_0 l0_1 a1_0 l1_1)) = some (r1, r2) := by rw [if_pos rfl] at H; exact H
   clear H
   have H := H1
   clear H1
   replace H := Option.bind_eq_some_iff.mp H
   obtain ⟨t1332, A80, H⟩ := H
   replace H : (spec_PairsOfStack.j0 k (!t1332) a0_0 l0_1 a1_0 l1_1) = some (r1, r2) := H
   have A8 := Aside0.mk A80
   clear A80
   have H' := Aside0.mk H
   clear H
   have hnb9 := NB1329_1330.out
   have hnc9 := NB1330_1329.out
   have hcz10_0 : w5.cell? ⟨gb1329, 0, none⟩ = some (.int .i64 a0_0) := (blk_cell BK1329.out 0).trans rfl
   have hcz10_1 : w5.cell? ⟨gb1329, 1, none⟩ = some (.slice A0_1 l0_1.length c0_1) := (blk_cell BK1329.out 1).trans rfl
   have hfz10_0 := blk_frozen BK1329.out 0
   have hfz10_1 := blk_frozen BK1329.out 1
   go_wp2_with (first | ((with_reducible refine gate_callee (f := 60) rfl ?_); refine goesL_ (some 10) rfl rfl Try.func60 (by kernel_rfl) rfl #[.agg #[.int .i64 a0_0, .slice A0_1 l0_1.length c0_1]] rfl (by (try simp only [List.map_toArray, List.map_cons, List.map_nil]); first | done | rfl | (simp only [List.length_drop, List.length_take]; rfl)) ?_; (with_reducible refine (spec_l01Is.calls a0_0 _ _ l0_1 true _ ?side1 ?side2 A6.out).mono ?_); (case side1 => repeat (first | exact (Kd.C_below HR0_1.out HB.out) | (with_reducible refine Kd.C_alloc ?_ _) | (with_reducible refine Kd.C_drewN ?_ _) | (with_reducible refine Kd.C_drew ?_))); (case side2 => exact HC0_1.out); rintro e w11 ⟨rfl, hb⟩; refine ⟨_, rfl, ?_⟩; have n0_ := Aside0.mk (blk_below (g := gb1329) (o := .cells #[.int .i64 a0_0, .slice A0_1 l0_1.length c0_1] 26 (0, 0)) (by (with_reducible repeat (first | refine blk_drewN ?_ _ | refine blk_drew ?_ | refine blk_alloc ?_ _)); exact BK1329.out) hb); have n1_ := Aside0.mk (blk_below (g := gb1330) (o := .cells #[.int .i64 a1_0, .slice A1_1 l1_1.length c1_1] 26 (0, 0)) (by (with_reducible repeat (first | refine blk_drewN ?_ _ | refine blk_drew ?_ | refine blk_alloc ?_ _)); exact BK1330.out) hb); have n2_ := Aside0.mk (below_step (by repeat (first | (with_reducible first | exact HB.out | apply below_alloc | apply pw_below_drewN | apply below_drew1 | refine below_set ?_ GE1329.out | refine below_set ?_ GE1330.out) | exact HB.out)) hb); clear BK1329; clear BK1330; clear HB; have BK1329 := n0_; have BK1330 := n1_; have HB := n2_; clear n0_ n1_ n2_; (try clear hb); (try clear hb2); (try clear hk); (try clear hi); have hcz12_0 : w11.cell? ⟨gb1330, 0, none⟩ = some (.int .i64 a1_0) := (blk_cell BK1330.out 0).trans rfl; have hcz12_1 : w11.cell? ⟨gb1330, 1, none⟩ = some (.slice A1_1 l1_1.length c1_1) := (blk_cell BK1330.out 1).trans rfl; have hfz12_0 := blk_frozen BK1330.out 0; have hfz12_1 := blk_frozen BK1330.out 1) | (go_at_call 60; (with_reducible refine (spec_l01Is.calls a1_0 _ _ l1_1 t1332 _ ?side1 ?side2 A8.out).mono ?_); (case side1 => repeat (first | exact (Kd.C_below HR1_1.out HB.out) | (with_reducible refine Kd.C_alloc ?_ _) | (with_reducible refine Kd.C_drewN ?_ _) | (with_reducible refine Kd.C_drew ?_))); (case side2 => exact HC1_1.out); rintro e w13 ⟨rfl, hb⟩; have n0_ := Aside0.mk (blk_below (g := gb1329) (o := .cells #[.int .i64 a0_0, .slice A0_1 l0_1.length c0_1] 26 (0, 0)) (by (with_reducible repeat (first | refine blk_drewN ?_ _ | refine blk_drew ?_ | refine blk_alloc ?_ _)); exact BK1329.out) hb); have n1_ := Aside0.mk (blk_below (g := gb1330) (o := .cells #[.int .i64 a1_0, .slice A1_1 l1_1.length c1_1] 26 (0, 0)) (by (with_reducible repeat (first | refine blk_drewN ?_ _ | refine blk_drew ?_ | refine blk_alloc ?_ _)); exact BK1330.out) hb); have n2_ := Aside0.mk (below_step (by repeat (first | (with_reducible first | exact HB.out | apply below_alloc | apply pw_below_drewN | apply below_drew1 | refine below_set ?_ GE1329.out | refine below_set ?_ GE1330.out) | exact HB.out)) hb); clear BK1329; clear BK1330; clear HB; have BK1329 := n0_; have BK1330 := n1_; have HB := n2_; clear n0_ n1_ n2_; (try clear hb); (try clear hb2); (try clear hk); (try clear hi)))
   go_meet
   case rel => exact ⟨_, (!t1332), (by first | rfl | (simp; done) | (simp [*]; done) | (simp; decide +kernel)), H', ⟨by first | omega | exact Nat.le_refl _⟩, ⟨by (with_reducible repeat (first | refine blk_drewN ?_ _ | refine blk_drew ?_ | refine blk_alloc ?_ _)); exact BK1329.out⟩, ⟨by (with_reducible repeat (first | refine blk_drewN ?_ _ | refine blk_drew ?_ | refine blk_alloc ?_ _)); exact BK1330.out⟩, ⟨by repeat (first | (with_reducible first | exact HB.out | apply below_alloc | apply pw_below_drewN | apply below_drew1 | refine below_set ?_ GE1329.out | refine below_set ?_ GE1330.out) | exact HB.out)⟩⟩
  ·replace c7 := Bool.eq_false_iff.mpr c7
   subst c7
   have H1 : (spec_PairsOfStack.j0 k true a0_0 l0_1 a1_0 l1_1) = some (r1, r2) := by rw [if_neg (show ¬ (false = true) by decide)] at H; exact H
   clear H
   have H := H1
   clear H1
   have H' := Aside0.mk H
   clear H
   have hnb14 := NB1329_1330.out
   have hnc14 := NB1330_1329.out
   have hcz15_0 : w5.cell? ⟨gb1329, 0, none⟩ = some (.int .i64 a0_0) := (blk_cell BK1329.out 0).trans rfl
   have hcz15_1 : w5.cell? ⟨gb1329, 1, none⟩ = some (.slice A0_1 l0_1.length c0_1) := (blk_cell BK1329.out 1).trans rfl
   have hfz15_0 := blk_frozen BK1329.out 0
   have hfz15_1 := blk_frozen BK1329.out 1
   go_wp2_with (first | ((with_reducible refine gate_callee (f := 60) rfl ?_); refine goesL_ (some 10) rfl rfl Try.func60 (by kernel_rfl) rfl #[.agg #[.int .i64 a0_0, .slice A0_1 l0_1.length c0_1]] rfl (by (try simp only [List.map_toArray, List.map_cons, List.map_nil]); first | done | rfl | (simp only [List.length_drop, List.length_take]; rfl)) ?_; (with_reducible refine (spec_l01Is.calls a0_0 _ _ l0_1 false _ ?side1 ?side2 A6.out).mono ?_); (case side1 => repeat (first | exact (Kd.C_below HR0_1.out HB.out) | (with_reducible refine Kd.C_alloc ?_ _) | (with_reducible refine Kd.C_drewN ?_ _) | (with_reducible refine Kd.C_drew ?_))); (case side2 => exact HC0_1.out); rintro e w16 ⟨rfl, hb⟩; refine ⟨_, rfl, ?_⟩; have n0_ := Aside0.mk (blk_below (g := gb1329) (o := .cells #[.int .i64 a0_0, .slice A0_1 l0_1.length c0_1] 26 (0, 0)) (by (with_reducible repeat (first | refine blk_drewN ?_ _ | refine blk_drew ?_ | refine blk_alloc ?_ _)); exact BK1329.out) hb); have n1_ := Aside0.mk (blk_below (g := gb1330) (o := .cells #[.int .i64 a1_0, .slice A1_1 l1_1.length c1_1] 26 (0, 0)) (by (with_reducible repeat (first | refine blk_drewN ?_ _ | refine blk_drew ?_ | refine blk_alloc ?_ _)); exact BK1330.out) hb); have n2_ := Aside0.mk (below_step (by repeat (first | (with_reducible first | exact HB.out | apply below_alloc | apply pw_below_drewN | apply below_drew1 | refine below_set ?_ GE1329.out | refine below_set ?_ GE1330.out) | exact HB.out)) hb); clear BK1329; clear BK1330; clear HB; have BK1329 := n0_; have BK1330 := n1_; have HB := n2_; clear n0_ n1_ n2_; (try clear hb); (try clear hb2); (try clear hk); (try clear hi)))
   go_meet
   case rel => exact ⟨_, (true), (by first | rfl | (simp; done) | (simp [*]; done) | (simp; decide +kernel)), H', ⟨by first | omega | exact Nat.le_refl _⟩, ⟨by (with_reducible repeat (first | refine blk_drewN ?_ _ | refine blk_drew ?_ | refine blk_alloc ?_ _)); exact BK1329.out⟩, ⟨by (with_reducible repeat (first | refine blk_drewN ?_ _ | refine blk_drew ?_ | refine blk_alloc ?_ _)); exact BK1330.out⟩, ⟨by repeat (first | (with_reducible first | exact HB.out | apply below_alloc | apply pw_below_drewN | apply below_drew1 | refine below_set ?_ GE1329.out | refine below_set ?_ GE1330.out) | exact HB.out)⟩⟩
 case rest =>
  clear HC3
  try clear c1
  try clear p2
  try clear c4
  try clear c6
  try clear c7
  try clear c9
  try clear c14
  try clear hcz10_0
  try clear hcz10_1
  try clear hcz12_0
  try clear hcz12_1
  try clear hcz15_0
  try clear hcz15_1
  try clear hfz10_0
  try clear hfz10_1
  try clear hfz12_0
  try clear hfz12_1
  try clear hfz15_0
  try clear hfz15_1
  obtain ⟨kq, x16_2, rfl, HA, HJ2, BK1329, BK1330, HB⟩ := hcut
  cases kq with
  | zero => exact absurd HA.out (by simp [spec_PairsOfStack.j0])
  | succ kj2 =>
   have H := HA.out
   clear HA
   simp only [spec_PairsOfStack.j0] at H
   by_cases c17 : x16_2 = true
   ·subst c17
    have H1 : (some (([] : List (List Int)), 1)) = some (r1, r2) := by rw [if_pos rfl] at H; exact H
    clear H
    have H := H1
    clear H1
    simp only [Option.some.injEq, Prod.mk.injEq] at H
    obtain ⟨rfl, rfl⟩ := H
    go_wp2
    go_ret2
    exact ⟨_, by first | rfl | (simp [errW_none, errW_some] <;> rfl) | (simp [*, errW_none, errW_some] <;> rfl), by first | exact Kd.S_nil _ _ _ _ _ | exact Kd.N_nil _ _ _ _ _ | exact Kd.V_nil _ _ _ _ _ | exact Kd.Q_nil _ _ _ _ _ | exact Kd.R_nil _ _ _ _ _, by repeat (first | (with_reducible first | exact HB.out | apply below_alloc | apply pw_below_drewN | apply below_drew1 | refine below_set ?_ GE1329.out | refine below_set ?_ GE1330.out) | exact HB.out)⟩
   ·replace c17 := Bool.eq_false_iff.mpr c17
    subst c17
    have H1 : ((spec_l04Pairs.f a0_0 l0_1 a1_0 l1_1).bind fun t1333 => (spec_PairsOfStack.l0 kj2 t1333 (([] : List (List Int))) 0)) = some (r1, r2) := by rw [if_neg (show ¬ (false = true) by decide)] at H; exact H
    clear H
    have H := H1
    clear H1
    replace H := Option.bind_eq_some_iff.mp H
    obtain ⟨t1333, A180, H⟩ := H
    replace H : (spec_PairsOfStack.l0 kj2 t1333 (([] : List (List Int))) 0) = some (r1, r2) := H
    have A18 := Aside0.mk A180
    clear A180
    obtain ⟨y1336, hy1336⟩ : ∃ y_ : List (List Int), y_ = (([] : List (List Int))) := ⟨_, rfl⟩
    replace H : (spec_PairsOfStack.l0 kj2 t1333 y1336 0) = some (r1, r2) := by first | (rw [hy1336]; with_reducible exact H) | (have H2_ := (Option.bind_some _ _).symm.trans H; rw [hy1336]; with_reducible exact H2_) | (have H2_ := (Option.bind_some _ _).symm.trans H; with_reducible exact H2_) | with_reducible exact H | (rw [hy1336]; exact H) | exact H
    have Ny1336 := Aside0.mk hy1336
    clear hy1336
    have H' := Aside0.mk H
    clear H
    have hnb19 := NB1329_1330.out
    have hnc19 := NB1330_1329.out
    have hcz20_0 : wc.cell? ⟨gb1329, 0, none⟩ = some (.int .i64 a0_0) := (blk_cell BK1329.out 0).trans rfl
    have hcz20_1 : wc.cell? ⟨gb1329, 1, none⟩ = some (.slice A0_1 l0_1.length c0_1) := (blk_cell BK1329.out 1).trans rfl
    have hfz20_0 := blk_frozen BK1329.out 0
    have hfz20_1 := blk_frozen BK1329.out 1
    have hcz21_0 : wc.cell? ⟨gb1330, 0, none⟩ = some (.int .i64 a1_0) := (blk_cell BK1330.out 0).trans rfl
    have hcz21_1 : wc.cell? ⟨gb1330, 1, none⟩ = some (.slice A1_1 l1_1.length c1_1) := (blk_cell BK1330.out 1).trans rfl
    have hfz21_0 := blk_frozen BK1330.out 0
    have hfz21_1 := blk_frozen BK1330.out 1
    go_wp2_with (first | ((with_reducible refine gate_callee (f := 86) rfl ?_); refine goesL_ (some 19) rfl rfl Try.func86 (by kernel_rfl) rfl #[.agg #[.int .i64 a0_0, .slice A0_1 l0_1.length c0_1], .agg #[.int .i64 a1_0, .slice A1_1 l1_1.length c1_1]] rfl (by (try simp only [List.map_toArray, List.map_cons, List.map_nil]); first | done | rfl | (simp only [List.length_drop, List.length_take]; rfl)) ?_; (with_reducible refine (spec_l04Pairs.calls a0_0 _ _ l0_1 a1_0 _ _ l1_1 t1333 _ ?side1 ?side2 ?side3 ?side4 A18.out).mono ?_); (case side1 => repeat (first | exact (Kd.C_below HR0_1.out HB.out) | (with_reducible refine Kd.C_alloc ?_ _) | (with_reducible refine Kd.C_drewN ?_ _) | (with_reducible refine Kd.C_drew ?_))); (case side2 => exact HC0_1.out); (case side3 => repeat (first | exact (Kd.C_below HR1_1.out HB.out) | (with_reducible refine Kd.C_alloc ?_ _) | (with_reducible refine Kd.C_drewN ?_ _) | (with_reducible refine Kd.C_drew ?_))); (case side4 => exact HC1_1.out); rintro e w22 ⟨v1334, rfl, ho0, hb⟩; refine ⟨_, rfl, ?_⟩; have n0_ := Aside0.mk (Kd.R_lower ho0 (below_size (by repeat (first | (with_reducible first | exact HB.out | apply below_alloc | apply pw_below_drewN | apply below_drew1 | refine below_set ?_ GE1329.out | refine below_set ?_ GE1330.out) | exact HB.out)))); have n1_ := Aside0.mk (blk_below (g := gb1329) (o := .cells #[.int .i64 a0_0, .slice A0_1 l0_1.length c0_1] 26 (0, 0)) (by (with_reducible repeat (first | refine blk_drewN ?_ _ | refine blk_drew ?_ | refine blk_alloc ?_ _)); exact BK1329.out) hb); have n2_ := Aside0.mk (blk_below (g := gb1330) (o := .cells #[.int .i64 a1_0, .slice A1_1 l1_1.length c1_1] 26 (0, 0)) (by (with_reducible repeat (first | refine blk_drewN ?_ _ | refine blk_drew ?_ | refine blk_alloc ?_ _)); exact BK1330.out) hb); have n3_ := Aside0.mk (below_step (by repeat (first | (with_reducible first | exact HB.out | apply below_alloc | apply pw_below_drewN | apply below_drew1 | refine below_set ?_ GE1329.out | refine below_set ?_ GE1330.out) | exact HB.out)) hb); clear BK1329; clear BK1330; clear HB; have HO1335 := n0_; have BK1329 := n1_; have BK1330 := n2_; have HB := n3_; clear n0_ n1_ n2_ n3_; (try clear hb); (try clear hb2); (try clear hk); (try clear hi); (try clear ho0)) | ((with_reducible refine gate_dst (N := 20) rfl ?_); refine Kd.S_lit (Kd.slice 2 (Kd.int .i64)) _ 48 ?hg (N := 20) ?hd (xs := ([] : List (List Int))) (inner := []) (ok := fun _ => True) (okp := fun _ => True) ?hr ?hp (fun _ hk => hk) trivial (Below.refl _ _) (Nat.le_refl _) (by simp) ?_; (case hd => rfl); (case hg => rfl); (case hr => first | (go_simp; done) | (go_simp; rfl)); (case hp => exact (Reps.none _ _)); intro v1337 w23 ho24 hb hg_ hnew_; clear hg_ hnew_; (first | rw [← Ny1336.out] at ho24 | (simp only [Int.reduceToNat] at ho24; rw [← Ny1336.out] at ho24)); have n0_ := Aside0.mk (Kd.R_below (by (with_reducible repeat (first | apply Kd.R_alloc | apply Kd.R_drewN | apply Kd.R_drew)); exact HO1335.out) hb); have n1_ := Aside0.mk (Kd.S_lower (Kd.S_new' ho24 (Kd.R_lt (by (with_reducible repeat (first | apply Kd.R_alloc | apply Kd.R_drewN | apply Kd.R_drew)); exact HO1335.out))) (below_size (by repeat (first | (with_reducible first | exact HB.out | apply below_alloc | apply pw_below_drewN | apply below_drew1 | refine below_set ?_ GE1329.out | refine below_set ?_ GE1330.out) | exact HB.out)))); have n2_ := Aside0.mk (blk_below (g := gb1329) (o := .cells #[.int .i64 a0_0, .slice A0_1 l0_1.length c0_1] 26 (0, 0)) (by (with_reducible repeat (first | refine blk_drewN ?_ _ | refine blk_drew ?_ | refine blk_alloc ?_ _)); exact BK1329.out) hb); have n3_ := Aside0.mk (blk_below (g := gb1330) (o := .cells #[.int .i64 a1_0, .slice A1_1 l1_1.length c1_1] 26 (0, 0)) (by (with_reducible repeat (first | refine blk_drewN ?_ _ | refine blk_drew ?_ | refine blk_alloc ?_ _)); exact BK1330.out) hb); have n4_ := Aside0.mk (below_step (by repeat (first | (with_reducible first | exact HB.out | apply below_alloc | apply pw_below_drewN | apply below_drew1 | refine below_set ?_ GE1329.out | refine below_set ?_ GE1330.out) | exact HB.out)) hb); clear HO1335; clear BK1329; clear BK1330; clear HB; have HO1335 := n0_; have HO1338 := n1_; have BK1329 := n2_; have BK1330 := n3_; have HB := n4_; clear n0_ n1_ n2_ n3_ n4_; clear hb ho24))
    go_loopg [7, 8] kj2 (fun kq v7 v8 w' => ∃ (x7_2 : List (List Int)) (x8_2 : Int), v8 = .int .i64 x8_2 ∧ Aside0 (spec_PairsOfStack.l0 kq t1333 x7_2 x8_2 = some (r1, r2)) ∧ Aside0 (kq ≤ kj2) ∧ Aside0 (Kd.R (Kd.int .i64) 2 w' w.heap.size (fun _ => True) v1334 t1333) ∧ Aside0 (Kd.S (Kd.slice 2 (Kd.int .i64)) 48 w' w.heap.size (fun k_ => some k_ ≠ (v1334 : Value).ownBlock) v7 x7_2) ∧ Aside0 (w'.heap[gb1329]? = some (.cells #[.int .i64 a0_0, (.slice A0_1 l0_1.length c0_1)] 26 (0, 0))) ∧ Aside0 (w'.heap[gb1330]? = some (.cells #[.int .i64 a1_0, (.slice A1_1 l1_1.length c1_1)] 26 (0, 0))) ∧ Aside0 (Below w.heap.size w w'))
    case atStart => exact ⟨(y1336), (0), (by first | rfl | (simp; done) | (simp [*]; done) | (simp; decide +kernel)), H', ⟨Nat.le_refl _⟩, ⟨by (with_reducible repeat (first | apply Kd.R_alloc | apply Kd.R_drewN | apply Kd.R_drew)); exact HO1335.out⟩, ⟨by (with_reducible repeat (first | apply Kd.S_alloc | apply Kd.S_drewN | apply Kd.S_drew)); exact Kd.S_mono HO1338.out (fun _ hk => hk.2)⟩, ⟨by (with_reducible repeat (first | refine blk_drewN ?_ _ | refine blk_drew ?_ | refine blk_alloc ?_ _)); exact BK1329.out⟩, ⟨by (with_reducible repeat (first | refine blk_drewN ?_ _ | refine blk_drew ?_ | refine blk_alloc ?_ _)); exact BK1330.out⟩, ⟨by repeat (first | (with_reducible first | exact HB.out | apply below_alloc | apply pw_below_drewN | apply below_drew1 | refine below_set ?_ GE1329.out | refine below_set ?_ GE1330.out) | exact HB.out)⟩⟩
    case round =>
     clear H'
     try clear c1
     try clear p2
     try clear c4
     try clear c6
     try clear c7
     try clear c8
     try clear c9
     try clear c14
     try clear c17
     try clear c19
     try clear hcz10_0
     try clear hcz10_1
     try clear hcz12_0
     try clear hcz12_1
     try clear hcz15_0
     try clear hcz15_1
     try clear hcz20_0
     try clear hcz20_1
     try clear hcz21_0
     try clear hcz21_1
     try clear hfz10_0
     try clear hfz10_1
     try clear hfz12_0
     try clear hfz12_1
     try clear hfz15_0
     try clear hfz15_1
     try clear hfz20_0
     try clear hfz20_1
     try clear hfz21_0
     try clear hfz21_1
     try clear p2
     obtain ⟨x7_2, x8_2, rfl, HA, HK2, HO_6, HO_7, BK1329, BK1330, HB⟩ := hrel
     cases gk with
     | zero => exact absurd HA.out (by simp [spec_PairsOfStack.l0])
     | succ k2 =>
      have H := HA.out
      clear HA
      simp only [spec_PairsOfStack.l0] at H
      by_cases c25 : x8_2 < (t1333.length : Int)
      ·rw [if_pos c25] at H
       have c25b0 : decide (x8_2 < (t1333.length : Int)) = true := decide_eq_true c25
       clear c25
       by_cases c26 : 0 ≤ x8_2
       ·rw [if_pos c26] at H
        have c26b0 : decide (0 ≤ x8_2) = true := decide_eq_true c26
        clear c26
        obtain ⟨y1341, hy1341⟩ : ∃ y_ : List Int, y_ = (([wrap64 (Int.tdiv (rd t1333 x8_2) 16), Int.tmod (rd t1333 x8_2) 16] : List Int)) := ⟨_, rfl⟩
        replace H : (if x7_2.length < 5864062014805 then (spec_PairsOfStack.l0 k2 t1333 (x7_2 ++ [y1341]) (wrap64 (x8_2 + 1))) else (none)) = some (r1, r2) := by first | (rw [hy1341]; with_reducible exact H) | (have H2_ := (Option.bind_some _ _).symm.trans H; rw [hy1341]; with_reducible exact H2_) | (have H2_ := (Option.bind_some _ _).symm.trans H; with_reducible exact H2_) | with_reducible exact H | (rw [hy1341]; exact H) | exact H
        have Ny1341 := Aside0.mk hy1341
        clear hy1341
        by_cases c27 : x7_2.length < 5864062014805
        ·rw [if_pos c27] at H
         have LMc27 := Aside0.mk c27
         clear c27
         obtain ⟨y1344, hy1344⟩ : ∃ y_ : List (List Int), y_ = (x7_2 ++ [y1341]) := ⟨_, rfl⟩
         replace H : (spec_PairsOfStack.l0 k2 t1333 y1344 (wrap64 (x8_2 + 1))) = some (r1, r2) := by first | (rw [hy1344]; with_reducible exact H) | (have H2_ := (Option.bind_some _ _).symm.trans H; rw [hy1344]; with_reducible exact H2_) | (have H2_ := (Option.bind_some _ _).symm.trans H; with_reducible exact H2_) | with_reducible exact H | (rw [hy1344]; exact H) | exact H
         have Ny1344 := Aside0.mk hy1344
         clear hy1344
         have H' := Aside0.mk H
         clear H
         obtain ⟨Ao28, co28, eo28⟩ := Kd.R_slice HO_6.out
         subst eo28
         try go_wp2
         have n0_ := Aside0.mk (Kd.R_drew HO_6.out)
         have n1_ := Aside0.mk (Kd.S_drew HO_7.out)
         have n2_ := Aside0.mk (blk_drew BK1329.out)
         have n3_ := Aside0.mk (blk_drew BK1330.out)
         have n4_ := Aside0.mk (below_drew1 HB.out)
         clear HO_6
         clear HO_7
         clear BK1329
         clear BK1330
         clear HB
         have HO_6 := n0_
         have HO_7 := n1_
         have BK1329 := n2_
         have BK1330 := n3_
         have HB := n4_
         clear n0_ n1_ n2_ n3_ n4_
         have p1339 : 0 ≤ (x8_2 : Int) := of_decide_eq_true (by first | (with_reducible assumption) | assumption)
         have q1339 : x8_2 < (t1333.length : Int) := of_decide_eq_true (by first | (with_reducible assumption) | assumption)
         obtain ⟨ad1339, e1339, hx1339_0⟩ := Kd.at_int (Kd.R_reads' HO_6.out).2.2 x8_2 p1339 q1339
         cases e1339
         replace p1339 := eq_true p1339
         replace q1339 := eq_true q1339
         have p1340 : 0 ≤ (x8_2 : Int) := of_decide_eq_true (by first | (with_reducible assumption) | assumption)
         have q1340 : x8_2 < (t1333.length : Int) := of_decide_eq_true (by first | (with_reducible assumption) | assumption)
         obtain ⟨ad1340, e1340, hx1340_0⟩ := Kd.at_int (Kd.R_reads' HO_6.out).2.2 x8_2 p1340 q1340
         obtain rfl : ad1339 = ad1340 := (by injection e1340)
         replace p1340 := eq_true p1340
         replace q1340 := eq_true q1340
         refine start_ (n := 15) (S := fun w' => w'.cell? (ad1339.add (x8_2).toNat) = some (.int .i64 (rd t1333 x8_2)) ∧ w'.cell? (ad1339.add (x8_2).toNat) = some (.int .i64 (rd t1333 x8_2))) (ds := [12, 13]) #[false, false, false, false, false, false, false, false, false, false, false, false, false, false, false] (by kernel_rfl) rfl rfl ⟨hx1339_0, hx1340_0⟩ (fun hHeld => ?_); refine with_tabW spec_PairsOfStack.tab7 spec_PairsOfStack.bits7 (fun HT_ HW_ => ?_)
         generalize wr.drew = w29 at HO_6 HO_7 BK1329 BK1330 HB hx1339_0 hx1340_0 hHeld ⊢
         refine pure_ (i := 0) (N := some 27) (v := ?_) (a' := ?_) #[true, false, false, false, false, false, false, false, false, false, false, false, false, false, false] rfl rfl (any_of HT_.out (by kernel_rfl)) (fun _ _ _ h => h) (Or.inl ⟨by rfl, ?_⟩) ?_ ?_
         rotate_left
         ·intro w'
          go_simp
          with_reducible rfl
         rotate_left
         ·simp only [Act.put, List.setIfInBounds_toArray, List.set_cons_zero, List.set_cons_succ, i64_w, i32_w]
          rfl
         refine pure_ (i := 1) (N := some 28) (v := ?_) (a' := ?_) #[true, true, false, false, false, false, false, false, false, false, false, false, false, false, false] rfl rfl (any_of HT_.out (by kernel_rfl)) (fun _ _ _ h => h) (Or.inl ⟨by rfl, ?_⟩) ?_ ?_
         rotate_left
         ·intro w'
          go_simp
          with_reducible rfl
         rotate_left
         ·simp only [Act.put, List.setIfInBounds_toArray, List.set_cons_zero, List.set_cons_succ, i64_w, i32_w]
          rfl
         refine pure_ (i := 2) (N := some 29) (v := ?_) (a' := ?_) #[true, true, true, false, false, false, false, false, false, false, false, false, false, false, false] rfl rfl (any_of HT_.out (by kernel_rfl)) (fun _ _ _ h => h) (Or.inl ⟨by rfl, ?_⟩) ?_ ?_
         rotate_left
         ·intro w'
          go_simp
          with_reducible rfl
         rotate_left
         ·simp only [Act.put, List.setIfInBounds_toArray, List.set_cons_zero, List.set_cons_succ, i64_w, i32_w]
          rfl
         refine pure_ (i := 3) (N := some 30) (v := ?_) (a' := ?_) #[true, true, true, true, false, false, false, false, false, false, false, false, false, false, false] rfl rfl (any_of HT_.out (by kernel_rfl)) (fun _ _ _ h => h) (Or.inl ⟨by rfl, ?_⟩) ?_ ?_
         rotate_left
         ·intro w'
          go_simp
          with_reducible rfl
         rotate_left
         ·simp only [Act.put, List.setIfInBounds_toArray, List.set_cons_zero, List.set_cons_succ, i64_w, i32_w]
          rfl
         refine pure_ (i := 6) (N := some 33) (v := ?_) (a' := ?_) #[true, true, true, true, false, false, true, false, false, false, false, false, false, false, false] rfl rfl (any_of HT_.out (by kernel_rfl)) (fun _ _ _ h => h) (Or.inl ⟨by rfl, ?_⟩) ?_ ?_
         rotate_left
         ·intro w'
          go_simp
          with_reducible rfl
         rotate_left
         ·simp only [Act.put, List.setIfInBounds_toArray, List.set_cons_zero, List.set_cons_succ, i64_w, i32_w]
          rfl
         refine pure_ (i := 7) (N := some 34) (v := ?_) (a' := ?_) #[true, true, true, true, false, false, true, true, false, false, false, false, false, false, false] rfl rfl (any_of HT_.out (by kernel_rfl)) (fun _ _ _ h => h) (Or.inl ⟨by rfl, ?_⟩) ?_ ?_
         rotate_left
         ·intro w'
          go_simp
          with_reducible rfl
         rotate_left
         ·simp only [Act.put, List.setIfInBounds_toArray, List.set_cons_zero, List.set_cons_succ, i64_w, i32_w]
          rfl
         refine pure_ (i := 8) (N := some 35) (v := ?_) (a' := ?_) #[true, true, true, true, false, false, true, true, true, false, false, false, false, false, false] rfl rfl (any_of HT_.out (by kernel_rfl)) (fun _ _ _ h => h) (Or.inl ⟨by rfl, ?_⟩) ?_ ?_
         rotate_left
         ·intro w'
          go_simp
          with_reducible rfl
         rotate_left
         ·simp only [Act.put, List.setIfInBounds_toArray, List.set_cons_zero, List.set_cons_succ, i64_w, i32_w]
          rfl
         refine take_ (i := 4) (N := some 31) (v := ?_) (a' := ?_) #[true, true, true, true, true, false, true, true, true, false, false, false, false, false, false] rfl rfl (take_ofW HT_.out HW_.out (by kernel_rfl)) (fun _ _ _ h => h) (Or.inl ⟨by rfl, ?_⟩) hHeld ?_ ?_
         rotate_left
         ·rintro w' ⟨s0, s1⟩
          go_simp
          with_reducible rfl
         rotate_left
         ·simp only [Act.put, List.setIfInBounds_toArray, List.set_cons_zero, List.set_cons_succ, i64_w, i32_w]
          rfl
         refine pure_ (i := 5) (N := some 32) (v := ?_) (a' := ?_) #[true, true, true, true, true, true, true, true, true, false, false, false, false, false, false] rfl rfl (any_of HT_.out (by kernel_rfl)) (fun _ _ _ h => h) (Or.inl ⟨by rfl, ?_⟩) ?_ ?_
         rotate_left
         ·intro w'
          go_simp
          with_reducible rfl
         rotate_left
         ·simp only [Act.put, List.setIfInBounds_toArray, List.set_cons_zero, List.set_cons_succ, i64_w, i32_w]
          rfl
         refine take_ (i := 9) (N := some 36) (v := ?_) (a' := ?_) #[true, true, true, true, true, true, true, true, true, true, false, false, false, false, false] rfl rfl (take_ofW HT_.out HW_.out (by kernel_rfl)) (fun _ _ _ h => h) (Or.inl ⟨by rfl, ?_⟩) hHeld ?_ ?_
         rotate_left
         ·rintro w' ⟨s0, s1⟩
          go_simp
          with_reducible rfl
         rotate_left
         ·simp only [Act.put, List.setIfInBounds_toArray, List.set_cons_zero, List.set_cons_succ, i64_w, i32_w]
          rfl
         refine pure_ (i := 10) (N := some 37) (v := ?_) (a' := ?_) #[true, true, true, true, true, true, true, true, true, true, true, false, false, false, false] rfl rfl (any_of HT_.out (by kernel_rfl)) (fun _ _ _ h => h) (Or.inl ⟨by rfl, ?_⟩) ?_ ?_
         rotate_left
         ·intro w'
          go_simp
          with_reducible rfl
         rotate_left
         ·simp only [Act.put, List.setIfInBounds_toArray, List.set_cons_zero, List.set_cons_succ, i64_w, i32_w]
          rfl
         refine one_ (i := 11) (N := some 38) #[true, true, true, true, true, true, true, true, true, true, true, true, false, false, false] rfl rfl (one_of HT_.out (by kernel_rfl)) (by decide) (fun K hK => ?_)
         refine Kd.R_lit_step (Kd.int .i64) _ 2 ?hg (N := 38) ?hd (xs := ([wrap64 (Int.tdiv (rd t1333 x8_2) 16), Int.tmod (rd t1333 x8_2) 16] : List Int)) (inner := [.int .i64 (wrap64 (Int.tdiv (rd t1333 x8_2) 16)), .int .i64 (Int.tmod (rd t1333 x8_2) 16)]) (ok := fun _ => True) (okp := fun _ => True) ?hr ?hp (fun _ hk => hk) trivial (Below.refl _ _) (Nat.le_refl _) (by simp) ?_; (case hd => rfl); (case hg => rfl); (case hr => first | (go_simp; done) | (go_simp; rfl)); (case hp => exact (Reps.one (show Kd.M (Kd.int .i64) _ _ _ (wrap64 (Int.tdiv (rd t1333 x8_2) 16)) [.int .i64 (wrap64 (Int.tdiv (rd t1333 x8_2) 16))] from rfl) (Reps.one (show Kd.M (Kd.int .i64) _ _ _ (Int.tmod (rd t1333 x8_2) 16) [.int .i64 (Int.tmod (rd t1333 x8_2) 16)] from rfl) (Reps.none _ _))))
         intro v1342 w30 ho31 hb hg_ hnew_
         have HS0_ := (hb.cell (World.block_lt_of_cell? _ _ (hHeld.1))).trans (hHeld.1)
         have HS1_ := (hb.cell (World.block_lt_of_cell? _ _ (hHeld.2))).trans (hHeld.2)
         clear hg_ hnew_
         (first | rw [← Ny1341.out] at ho31 | (simp only [Int.reduceToNat] at ho31; rw [← Ny1341.out] at ho31))
         have n0_ := Aside0.mk (Kd.R_elder' (by (with_reducible repeat (first | apply Kd.R_alloc | apply Kd.R_drewN | apply Kd.R_drew)); exact HO_6.out) (Kd.R_base ho31) hb)
         have n1_ := Aside0.mk (Kd.S_elder' (by (with_reducible repeat (first | apply Kd.S_alloc | apply Kd.S_drewN | apply Kd.S_drew)); exact HO_7.out) (Kd.R_base ho31) hb)
         have n2_ := Aside0.mk (Kd.R_lower (Kd.R_new' ho31 (Kd.R_lt (by (with_reducible repeat (first | apply Kd.R_alloc | apply Kd.R_drewN | apply Kd.R_drew)); exact HO_6.out))) (below_size (by repeat (first | (with_reducible first | exact HB.out | apply below_alloc | apply pw_below_drewN | apply below_drew1 | refine below_set ?_ GE1329.out | refine below_set ?_ GE1330.out) | exact HB.out))))
         have n3_ := Aside0.mk (blk_below (g := gb1329) (o := .cells #[.int .i64 a0_0, .slice A0_1 l0_1.length c0_1] 26 (0, 0)) (by (with_reducible repeat (first | refine blk_drewN ?_ _ | refine blk_drew ?_ | refine blk_alloc ?_ _)); exact BK1329.out) hb)
         have n4_ := Aside0.mk (blk_below (g := gb1330) (o := .cells #[.int .i64 a1_0, .slice A1_1 l1_1.length c1_1] 26 (0, 0)) (by (with_reducible repeat (first | refine blk_drewN ?_ _ | refine blk_drew ?_ | refine blk_alloc ?_ _)); exact BK1330.out) hb)
         have n5_ := Aside0.mk (below_step (by repeat (first | (with_reducible first | exact HB.out | apply below_alloc | apply pw_below_drewN | apply below_drew1 | refine below_set ?_ GE1329.out | refine below_set ?_ GE1330.out) | exact HB.out)) hb)
         clear HO_6
         clear HO_7
         clear BK1329
         clear BK1330
         clear HB
         have HO_6 := n0_
         have HO_7 := n1_
         have HO1343 := n2_
         have BK1329 := n3_
         have BK1330 := n4_
         have HB := n5_
         clear n0_ n1_ n2_ n3_ n4_ n5_
         clear hb ho31
         obtain ⟨Ao33, co33, eo33⟩ := Kd.R_slice HO1343.out
         (first | subst eo33 | (injection eo33 with f1_ f2_ f3_; have f4_ := f1_.symm; have f5_ := f3_.symm; clear f1_ f2_ f3_; subst f4_; subst f5_))
         refine hK.out _ _ ⟨HS0_, HS1_⟩ (fun hHeld => ?_)
         clear hK K
         refine norm_ (a' := ?_) ?_ ?_
         rotate_left
         ·show Act.put _ (some 38) _ = _
          simp only [Act.put, List.setIfInBounds_toArray, List.set_cons_zero, List.set_cons_succ, i64_w, i32_w]
          rfl
         refine last_ (i := 12) (N := some 39) #[true, true, true, true, true, true, true, true, true, true, true, true, true, false, false] rfl rfl (one_of HT_.out (by kernel_rfl)) (by decide) (fun K hK => ?_)
         refine value_ (w1 := ?_) (v := ?_) (by rfl) rfl ?_ ?_
         rotate_left 2
         ·go_simp
          constructor
          ·rfl
          ·rfl
         refine hK.out _ _ ?_
         clear hK K
         refine norm_ (a' := ?_) ?_ ?_
         rotate_left
         ·show Act.put _ (some 39) _ = _
          simp only [Act.put, List.setIfInBounds_toArray, List.set_cons_zero, List.set_cons_succ, i64_w, i32_w]
          rfl
         refine last_ (i := 13) (N := some 40) #[true, true, true, true, true, true, true, true, true, true, true, true, true, true, false] rfl rfl (one_of HT_.out (by kernel_rfl)) (by decide) (fun K hK => ?_)
         refine Kd.S_append_step (Kd.slice 2 (Kd.int .i64)) (w0 := w) w.heap.size (by rfl) (.tmp 27) (.tmp 39) 54 48 (.slice none 0 0) 24 rfl Try.underlying54 info48 rfl (by decide) (by omega) u7 x7_2 y1341 [.slice Ao33 y1341.length co33] (fun k_ => some k_ ≠ (.slice (some ad1339) t1333.length co28 : Value).ownBlock) (fun k_ => some k_ = (.slice Ao33 y1341.length co33 : Value).ownBlock) rfl rfl ?aP (fun k_ hk_ => ((Kd.R_mono (ok' := fun k_ => ((fun k_ => some k_ ≠ (.slice (some ad1339) t1333.length co28 : Value).ownBlock)) k_ ∧ some k_ ≠ (u7 : Value).ownBlock) (Kd.R_apart' (HO1343.out) (Kd.S_typed HO_7.out) (by decide)) (fun k_ hk => ⟨hk.1.2, hk.2⟩))).1 k_ hk_.symm) ?aF ?aO ?aB ?aS ?aL ?_
         (case aP => exact Kd.M_row (Kd.R_mono (Kd.R_tight rfl (Kd.R_mono (ok' := fun k_ => ((fun k_ => some k_ ≠ (.slice (some ad1339) t1333.length co28 : Value).ownBlock)) k_ ∧ some k_ ≠ (u7 : Value).ownBlock) (Kd.R_apart' (HO1343.out) (Kd.S_typed HO_7.out) (by decide)) (fun k_ hk => ⟨hk.1.2, hk.2⟩))) (fun _ h_ => h_)))
         (case aB => exact (by repeat (first | (with_reducible first | exact HB.out | apply below_alloc | apply pw_below_drewN | apply below_drew1 | refine below_set ?_ GE1329.out | refine below_set ?_ GE1330.out) | exact HB.out)))
         (case aF => exact (fun k_ hk => Kd.fresh' (Kd.R_lt (by (with_reducible repeat (first | apply Kd.R_alloc | apply Kd.R_drewN | apply Kd.R_drew)); exact HO_6.out)) k_ hk))
         (case aO => exact (by (with_reducible repeat (first | apply Kd.S_alloc | apply Kd.S_drewN | apply Kd.S_drew)); exact Kd.S_mono HO_7.out (fun k_ hk => ⟨hk.1, fun e_ => hk.2 e_⟩)))
         (case aS => exact (below_size (by repeat (first | (with_reducible first | exact HB.out | apply below_alloc | apply pw_below_drewN | apply below_drew1 | refine below_set ?_ GE1329.out | refine below_set ?_ GE1330.out) | exact HB.out))))
         (case aL => have := LMc27.out; omega)
         intro v1345 w32 ho hb hg hat
         rw [← Ny1344.out] at ho
         have n0_ := Aside0.mk (Kd.R_over' (by (with_reducible repeat (first | apply Kd.R_alloc | apply Kd.R_drewN | apply Kd.R_drew)); exact HO_6.out) (Kd.S_typed (by (with_reducible repeat (first | apply Kd.S_alloc | apply Kd.S_drewN | apply Kd.S_drew)); exact HO_7.out)) (by decide) hg)
         have n1_ := Aside0.mk (blk_grown (g := gb1329) (o := .cells #[.int .i64 a0_0, .slice A0_1 l0_1.length c0_1] 26 (0, 0)) (by (with_reducible repeat (first | refine blk_drewN ?_ _ | refine blk_drew ?_ | refine blk_alloc ?_ _)); exact BK1329.out) hg (Kd.S_ne HO_7.out BK1329.out (by decide)))
         have n2_ := Aside0.mk (blk_grown (g := gb1330) (o := .cells #[.int .i64 a1_0, .slice A1_1 l1_1.length c1_1] 26 (0, 0)) (by (with_reducible repeat (first | refine blk_drewN ?_ _ | refine blk_drew ?_ | refine blk_alloc ?_ _)); exact BK1330.out) hg (Kd.S_ne HO_7.out BK1330.out (by decide)))
         have n3_ := Aside0.mk (hb)
         have n4_ := Aside0.mk (ho)
         clear HO_6
         clear BK1329
         clear BK1330
         clear HB
         clear HO_7
         clear HO1343
         have HO_6 := n0_
         have BK1329 := n1_
         have BK1330 := n2_
         have HB := n3_
         have HO1346 := n4_
         clear n0_ n1_ n2_ n3_ n4_
         clear ho hb hg hat
         refine hK.out _ _ ?_
         clear hK K
         refine norm_ (a' := ?_) ?_ ?_
         rotate_left
         ·show Act.put _ (some 40) _ = _
          simp only [Act.put, List.setIfInBounds_toArray, List.set_cons_zero, List.set_cons_succ, i64_w, i32_w]
          rfl
         refine pure_ (i := 14) (N := some 7) (v := ?_) (a' := ?_) #[true, true, true, true, true, true, true, true, true, true, true, true, true, true, true] rfl rfl (any_of HT_.out (by kernel_rfl)) (fun _ _ _ h => h) (Or.inl ⟨by rfl, ?_⟩) ?_ ?_
         rotate_left
         ·intro w'
          go_simp
          with_reducible rfl
         rotate_left
         ·simp only [Act.put, List.setIfInBounds_toArray, List.set_cons_zero, List.set_cons_succ, i64_w, i32_w]
          rfl
         refine done_ (done_of HT_.out (by kernel_rfl)) ?_
         try go_wp2
         go_roundg k2
         case measure => have := HJ2.out; have := HK2.out; omega
         case rel => exact ⟨(y1344), (wrap64 (x8_2 + 1)), (by first | rfl | (simp; done) | (simp [*]; done) | (simp; decide +kernel)), H', ⟨by have := HJ2.out; have := HK2.out; omega⟩, ⟨by (with_reducible repeat (first | apply Kd.R_alloc | apply Kd.R_drewN | apply Kd.R_drew)); exact Kd.R_mono HO_6.out (fun _ hk => trivial)⟩, ⟨by (with_reducible repeat (first | apply Kd.S_alloc | apply Kd.S_drewN | apply Kd.S_drew)); exact HO1346.out⟩, ⟨by (with_reducible repeat (first | refine blk_drewN ?_ _ | refine blk_drew ?_ | refine blk_alloc ?_ _)); exact BK1329.out⟩, ⟨by (with_reducible repeat (first | refine blk_drewN ?_ _ | refine blk_drew ?_ | refine blk_alloc ?_ _)); exact BK1330.out⟩, ⟨by repeat (first | (with_reducible first | exact HB.out | apply below_alloc | apply pw_below_drewN | apply below_drew1 | refine below_set ?_ GE1329.out | refine below_set ?_ GE1330.out) | exact HB.out)⟩⟩
        ·rw [if_neg c27] at H
         exact absurd H (by simp)
       ·rw [if_neg c26] at H
        exact absurd H (by simp)
      ·rw [if_neg c25] at H
       have c25b0 : decide (x8_2 < (t1333.length : Int)) = false := decide_eq_false c25
       clear c25
       simp only [Option.some.injEq, Prod.mk.injEq] at H
       obtain ⟨rfl, rfl⟩ := H
       obtain ⟨Ao34, co34, eo34⟩ := Kd.R_slice HO_6.out
       subst eo34
       go_wp2
       go_ret2
       exact ⟨_, by first | rfl | (simp [errW_none, errW_some] <;> rfl) | (simp [*, errW_none, errW_some] <;> rfl), by (with_reducible repeat (first | apply Kd.S_alloc | apply Kd.S_drewN | apply Kd.S_drew)); exact Kd.S_mono HO_7.out (fun _ hk => trivial), by repeat (first | (with_reducible first | exact HB.out | apply below_alloc | apply pw_below_drewN | apply below_drew1 | refine below_set ?_ GE1329.out | refine below_set ?_ GE1330.out) | exact HB.out)⟩

end Go.Proofs.Ytnjmgmdpkogocaa.Q

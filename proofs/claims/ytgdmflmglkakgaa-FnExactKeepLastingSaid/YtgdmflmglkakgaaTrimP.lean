/-
  Contract: TrimSet of the reference. (mktrims.py wrote it.)
-/
import Derived.Test.YtgdmflmglkakgaaPTrim
import Derived.Test.YtgdmflmglkakgaaExtS
import Derived.Test.YtgdmflmglkakgaaDelT
import Derived.Deep.CutBlock
import Derived.Deep.RegionHeld3
namespace Go.Proofs.Ytgdmflmglkakgaa
open Go Go.RowKit Go.Proofs Go.Proofs.YtgdmflmglkakgaaW.PrintWords Go.Proofs.Ytgdmflmglkakgaa.Q
set_option linter.unusedVariables false
set_option linter.unusedSimpArgs false

theorem asc_of_ok {C : Int} {ts : List T4} (h : OkS C ts) : Asc ts := by
  have key : ∀ d i, i + d + 1 < ts.length → ltT (tk ts i) (tk ts (i + d + 1)) = true := by
    intro d
    induction d with
    | zero => intro i hi; exact (h (i + 1) (by omega)).2 (by omega)
    | succ d ih =>
      intro i hi
      have h1 := ih i (by omega)
      have h2 := (h (i + (d + 1) + 1) (by omega)).2 (by omega)
      rw [show i + (d + 1) + 1 - 1 = i + d + 1 by omega] at h2
      exact ltT_trans h1 h2
  unfold Asc
  rw [List.pairwise_iff_getElem]
  intro i j hi hj hij
  have h1 := key (j - i - 1) i (by omega)
  rw [show i + (j - i - 1) + 1 = j by omega] at h1
  rw [tk_get hi, tk_get hj]; exact h1
theorem sort_sub {C : Int} {ts T : List T4} (h : OkS C ts) (hs : T.Sublist ts) : sortK T T.length = T :=
  (sortT_eq (List.Pairwise.sublist hs (asc_of_ok h)) (fun _ => Iff.rfl)).symm
def bitT (T : List T4) (t : T4) (k s j : Nat) : Bool := metT (T.take (if j < s then k + 1 else k)) t j
def rowT (T : List T4) (t : T4) (k s : Nat) : Array Value := #[.bool (bitT T t k s 0), .bool (bitT T t k s 1), .bool (bitT T t k s 2), .bool (bitT T t k s 3)]
theorem met_take {T : List T4} {t : T4} {k s : Nat} (hk : k < T.length) : metT (T.take (k + 1)) t s = (metT (T.take k) t s || decide ((tk T k).get ((s + 2) % 4) = t.get s)) := by
  unfold metT
  rw [List.take_succ_eq_append_getElem hk, List.any_append, tk_get hk]
  simp
theorem rowT_zero (T : List T4) (t : T4) : rowT T t 0 0 = #[.bool false, .bool false, .bool false, .bool false] := by simp [rowT, bitT, metT]
theorem rowT_four (T : List T4) (t : T4) (k : Nat) : rowT T t k 4 = rowT T t (k + 1) 0 := by simp [rowT, bitT]
theorem rowT_end (T : List T4) (t : T4) : rowT T t T.length 0 = #[.bool (metT T t 0), .bool (metT T t 1), .bool (metT T t 2), .bool (metT T t 3)] := by simp [rowT, bitT]
theorem rowT_yes0 {T : List T4} {t : T4} {k : Nat} (hk : k < T.length) (h : (tk T k).get 2 = t.get 0) : (rowT T t k 0).setIfInBounds 0 (.bool true) = rowT T t k (0 + 1) := by
  have h1 := met_take (t := t) (s := 0) hk
  rw [show (0 + 2) % 4 = 2 from rfl, decide_eq_true h, Bool.or_true] at h1
  simp [rowT, bitT, h1]
theorem rowT_no0 {T : List T4} {t : T4} {k : Nat} (hk : k < T.length) (h : ¬ (tk T k).get 2 = t.get 0) : rowT T t k 0 = rowT T t k (0 + 1) := by
  have h1 := met_take (t := t) (s := 0) hk
  rw [show (0 + 2) % 4 = 2 from rfl, decide_eq_false h, Bool.or_false] at h1
  simp [rowT, bitT, h1]
theorem rowT_yes1 {T : List T4} {t : T4} {k : Nat} (hk : k < T.length) (h : (tk T k).get 3 = t.get 1) : (rowT T t k 1).setIfInBounds 1 (.bool true) = rowT T t k (1 + 1) := by
  have h1 := met_take (t := t) (s := 1) hk
  rw [show (1 + 2) % 4 = 3 from rfl, decide_eq_true h, Bool.or_true] at h1
  simp [rowT, bitT, h1]
theorem rowT_no1 {T : List T4} {t : T4} {k : Nat} (hk : k < T.length) (h : ¬ (tk T k).get 3 = t.get 1) : rowT T t k 1 = rowT T t k (1 + 1) := by
  have h1 := met_take (t := t) (s := 1) hk
  rw [show (1 + 2) % 4 = 3 from rfl, decide_eq_false h, Bool.or_false] at h1
  simp [rowT, bitT, h1]
theorem rowT_yes2 {T : List T4} {t : T4} {k : Nat} (hk : k < T.length) (h : (tk T k).get 0 = t.get 2) : (rowT T t k 2).setIfInBounds 2 (.bool true) = rowT T t k (2 + 1) := by
  have h1 := met_take (t := t) (s := 2) hk
  rw [show (2 + 2) % 4 = 0 from rfl, decide_eq_true h, Bool.or_true] at h1
  simp [rowT, bitT, h1]
theorem rowT_no2 {T : List T4} {t : T4} {k : Nat} (hk : k < T.length) (h : ¬ (tk T k).get 0 = t.get 2) : rowT T t k 2 = rowT T t k (2 + 1) := by
  have h1 := met_take (t := t) (s := 2) hk
  rw [show (2 + 2) % 4 = 0 from rfl, decide_eq_false h, Bool.or_false] at h1
  simp [rowT, bitT, h1]
theorem rowT_yes3 {T : List T4} {t : T4} {k : Nat} (hk : k < T.length) (h : (tk T k).get 1 = t.get 3) : (rowT T t k 3).setIfInBounds 3 (.bool true) = rowT T t k (3 + 1) := by
  have h1 := met_take (t := t) (s := 3) hk
  rw [show (3 + 2) % 4 = 1 from rfl, decide_eq_true h, Bool.or_true] at h1
  simp [rowT, bitT, h1]
theorem rowT_no3 {T : List T4} {t : T4} {k : Nat} (hk : k < T.length) (h : ¬ (tk T k).get 1 = t.get 3) : rowT T t k 3 = rowT T t k (3 + 1) := by
  have h1 := met_take (t := t) (s := 3) hk
  rw [show (3 + 2) % 4 = 1 from rfl, decide_eq_false h, Bool.or_false] at h1
  simp [rowT, bitT, h1]
theorem nameB4 {P : Program} {c : Code} {Q : Exit → Act → World → Prop} {a : Act} {w : World} {C1 : Array Value} {E1 : TypeId}
    (h : ∀ W, BK W w.heap.size C1 E1 → Below w.heap.size w W → c.wp P Q a W) : c.wp P Q a (w.alloc (.cells C1 E1)) := h _ (BK.new _ _ _) (below_alloc (Below.refl _ _) _)
theorem filter_take {T : List T4} {p : T4 → Bool} {i : Nat} (hi : i < T.length) : (T.take (i + 1)).filter p = if p (tk T i) = true then (T.take i).filter p ++ [tk T i] else (T.take i).filter p := by
  rw [List.take_succ_eq_append_getElem hi, List.filter_append, tk_get hi]
  by_cases h : p (tk T i) = true
  · rw [if_pos h]; simp [h]
  · rw [if_neg h]; simp [h]
theorem trimS_done {m : Nat} {T : List T4} (hm : T.length ≤ m) (h : (T.filter (goodT T)).length = T.length) : trimS m T = T.filter (goodT T) := by
  cases m with
  | zero =>
    have e : T = [] := List.eq_nil_of_length_eq_zero (by omega)
    subst e; rfl
  | succ m => unfold trimS; rw [if_pos h]
theorem trimS_more {m : Nat} {T : List T4} (h : ¬ (T.filter (goodT T)).length = T.length) : trimS (m + 1) T = trimS m (T.filter (goodT T)) := by
  conv => lhs; unfold trimS
  rw [if_neg h]
def lenOf (v : Value) : Nat := match v with | .slice _ n _ => n | _ => 0
theorem rt_old {w w' : World} {A : Option Addr} {T : List T4} (h : RT w A T) (hb : Below w.heap.size w w') : RT w' A T := h.below hb
end Go.Proofs.Ytgdmflmglkakgaa

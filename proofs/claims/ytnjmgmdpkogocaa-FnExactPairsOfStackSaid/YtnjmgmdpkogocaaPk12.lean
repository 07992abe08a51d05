/-
  Parts of the proof, in their order: MapP.
-/
import Derived.Test.YtnjmgmdpkogocaaPk9
import Derived.Test.YtnjmgmdpkogocaaPk5
import Derived.Maps.Own
import Derived.Maps.Views
import Derived.DeepKeys4
import Derived.WideKeyPair
import Derived.Deep.RegionHeld3
/-
  Words: a set of pairs of numbers kept in a map[[2]int64]bool of the call's own.
-/
namespace Go.Proofs.Ytnjmgmdpkogocaa
open Go Go.RowKit Go.Proofs
set_option linter.unusedVariables false
set_option linter.unusedSimpArgs false

set_option maxRecDepth 100000
theorem laidOutX : laidOutB Try.prog = true := by kernel_rfl
theorem widePr : (match Try.prog.underlying 86 with | some (.array _ _) | some (.struct _) => true | _ => false) = true := by rw [Try.underlying86]
theorem keyPr : Maps.Keyed Try.prog 86 := Maps.Keyed.of_law (deep_law_laid laidOutX (m := 2) (by omega) (of_decide_eq_true (by kernel_rfl)) (by kernel_rfl) widePr)
theorem arrPr : WideMaps.ArrKey Try.prog 86 2 2 := ⟨Try.underlying86, by kernel_rfl, by kernel_rfl, by kernel_rfl⟩
theorem typesPr : ∃ m, Try.prog.types.size = m + 1 := Nat.exists_eq_succ_of_ne_zero (of_decide_eq_true (by kernel_rfl))
/-- what a pair reads as, as a key -/
def litP (x : Int × Int) : Lit := .string (keyBytes [.int .i64 x.1, .int .i64 x.2])
def valP (x : Int × Int) : Value := .agg #[.int .i64 x.1, .int .i64 x.2]
def wfP (x : Int × Int) : Prop := (Lit.int .i64 x.1).wf = true ∧ (Lit.int .i64 x.2).wf = true
theorem key_of {x : Int × Int} (h : wfP x) : keyOf Try.prog 86 (valP x) = some (litP x) := WideMaps.keyOf_pair arrPr Try.underlying2 typesPr h.1 h.2
theorem litP_inj {x y : Int × Int} (hx : wfP x) (hy : wfP y) (h : litP x = litP y) : x = y := by
  have := keyPr.inj (key_of hx) (by rw [h]; exact key_of hy)
  simp only [valP, Value.agg.injEq, Array.mk.injEq, List.cons.injEq, Value.int.injEq, true_and, and_true] at this
  exact Prod.ext this.1 this.2
/-- block b holds the set p of pairs, in at most n entries -/
def SetP (w : World) (b n : Nat) (p : Int × Int → Bool) : Prop := ∃ D : DataW Unit, w.ownsMap Try.prog 86 (plainElem Try.prog 4) b n D ∧ Maps.IsMap D ∧ ∀ x, wfP x → D.atKey (litP x) (.lit (.bool false)) = .lit (.bool (p x))
theorem SetP.made {w : World} {b : Nat} (h : w.heap[b]? = some (.map #[] 0)) : SetP w b 0 (fun _ => false) := by
  obtain ⟨es, clock, hb, F, hs, hD⟩ := World.ownsMap_made (H := Unit) w Try.prog 86 (plainElem Try.prog 4)
  have e : (w.alloc (.map #[] 0)).heap[w.heap.size]? = some (.map #[] 0) := (MapKept.heap_alloc w _).1
  rw [e] at hb
  injection hb with hb
  injection hb with h1 h2
  subst h1; subst h2
  exact ⟨.map [], ⟨#[], 0, h, F, hs, hD⟩, Maps.isMap_empty, fun x _ => rfl⟩
theorem SetP.same {w w' : World} {b n : Nat} {p : Int × Int → Bool} (h : SetP w b n p) (hb : w'.heap[b]? = w.heap[b]?) : SetP w' b n p := by
  obtain ⟨D, ⟨es, clock, h1, F, hs, hD⟩, h2, h3⟩ := h
  exact ⟨D, ⟨es, clock, hb.trans h1, F, hs, hD⟩, h2, h3⟩
theorem SetP.lt {w : World} {b n : Nat} {p : Int × Int → Bool} (h : SetP w b n p) : b < w.heap.size := by
  obtain ⟨D, h1, -⟩ := h
  exact h1.lt
theorem SetP.congr {w : World} {b n : Nat} {p q : Int × Int → Bool} (h : SetP w b n p) (e : ∀ x, p x = q x) : SetP w b n q := by
  obtain ⟨D, h1, h2, h3⟩ := h
  exact ⟨D, h1, h2, fun x hx => by rw [h3 x hx, e]⟩
theorem SetP.not_cells {w : World} {b n : Nat} {p : Int × Int → Bool} (h : SetP w b n p) : ∀ C E, ¬ BK w b C E := by
  obtain ⟨D, ⟨es, clock, h1, -⟩, -⟩ := h
  intro C E hb
  have h2 : w.heap[b]? = some (.cells C E (0, 0)) := hb
  rw [h1] at h2; cases h2
theorem SetP.look {w : World} {b n : Nat} {p : Int × Int → Bool} (h : SetP w b n p) (x : Int × Int) (hx : wfP x) : (Instr.lookup 97 (.map (some b)) (valP x) false).run Try.prog w = .ok (.bool (p x)) w := by
  obtain ⟨D, h1, h2, h3⟩ := h
  have hz : (zeroValue 4).run Try.prog w = .ok (.bool false) w := by simp [zeroValue]; rfl
  obtain ⟨v, ps, hrun, hv⟩ := h1.lookup keyPr Try.underlying97 hz (plainElem_bool Try.underlying4 false) (key_of hx)
  rw [h3 x hx] at hv
  have : v = .bool (p x) := by
    unfold plainElem at hv
    rw [Try.underlying4] at hv
    cases v <;> simp at hv
    rw [hv.1]
  rw [hrun, this]
theorem SetP.put {w : World} {b n : Nat} {p : Int × Int → Bool} (h : SetP w b n p) (x : Int × Int) (hx : wfP x) (hn : n < 1000000) : ∃ w', (Instr.mapUpdate 97 (.map (some b)) (valP x) (.bool true)).run Try.prog w = .ok () w' ∧ SetP w' b (n + 1) (fun y => decide (y = x) || p y) ∧ w.grownBy w' (some b) := by
  obtain ⟨D, h1, h2, h3⟩ := h
  have hkey := key_of hx
  obtain ⟨w', hrun, h4, h5⟩ := h1.update keyPr Try.underlying97 (by simp only [maxLen]; omega) hkey (plainElem_bool Try.underlying4 true)
  refine ⟨w', hrun, ⟨_, h4, h2.put _ _, fun y hy => ?_⟩, h5⟩
  by_cases e : y = x
  · subst e
    rw [Maps.atKey_put_same h2 (keyPr.key hkey)]; simp
  · rw [Maps.atKey_put_other (fun e2 => e (litP_inj hy hx e2)), h3 y hy]; simp [e]
end Go.Proofs.Ytnjmgmdpkogocaa

/-
  Words: a set of numbers kept in a map[int64]bool of the call's own; a step that writes into it.
-/
import Derived.Test.YtgdmflmglkakgaaLaw1
import Derived.Test.YtgdmflmglkakgaaOwn3
import Derived.Maps.Own
import Derived.Maps.Views
import Derived.Deep.RegionHeld3
namespace Go.Proofs.Ytgdmflmglkakgaa
open Go Go.RowKit Go.Proofs
set_option linter.unusedVariables false
set_option linter.unusedSimpArgs false

theorem keyI : Maps.Keyed Try.prog 2 := Maps.int_keyed Try.underlying2
/-- block b holds the set p of numbers, in at most n entries -/
def SetM (w : World) (b n : Nat) (p : Int → Bool) : Prop := ∃ D : DataW Unit, w.ownsMap Try.prog 2 (plainElem Try.prog 4) b n D ∧ Maps.IsMap D ∧ ∀ x : Int, D.atKey (.int .i64 x) (.lit (.bool false)) = .lit (.bool (p x))
theorem SetM.made {w : World} {b : Nat} (h : w.heap[b]? = some (.map #[] 0)) : SetM w b 0 (fun _ => false) := by
  obtain ⟨es, clock, hb, F, hs, hD⟩ := World.ownsMap_made (H := Unit) w Try.prog 2 (plainElem Try.prog 4)
  have e : (w.alloc (.map #[] 0)).heap[w.heap.size]? = some (.map #[] 0) := (MapKept.heap_alloc w _).1
  rw [e] at hb
  injection hb with hb
  injection hb with h1 h2
  subst h1; subst h2
  exact ⟨.map [], ⟨#[], 0, h, F, hs, hD⟩, Maps.isMap_empty, fun x => rfl⟩
theorem SetM.same {w w' : World} {b n : Nat} {p : Int → Bool} (h : SetM w b n p) (hb : w'.heap[b]? = w.heap[b]?) : SetM w' b n p := by
  obtain ⟨D, ⟨es, clock, h1, F, hs, hD⟩, h2, h3⟩ := h
  exact ⟨D, ⟨es, clock, hb.trans h1, F, hs, hD⟩, h2, h3⟩
theorem SetM.lt {w : World} {b n : Nat} {p : Int → Bool} (h : SetM w b n p) : b < w.heap.size := by
  obtain ⟨D, h1, -⟩ := h
  exact h1.lt
theorem SetM.congr {w : World} {b n : Nat} {p q : Int → Bool} (h : SetM w b n p) (e : ∀ x, p x = q x) : SetM w b n q := by
  obtain ⟨D, h1, h2, h3⟩ := h
  exact ⟨D, h1, h2, fun x => by rw [h3, e]⟩
def wfKey (x : Int) : Bool := (Lit.int .i64 x).wf
theorem SetM.look {w : World} {b n : Nat} {p : Int → Bool} (h : SetM w b n p) (x : Int) (hx : wfKey x = true) : (Instr.lookup 78 (.map (some b)) (.int .i64 x) false).run Try.prog w = .ok (.bool (p x)) w := by
  obtain ⟨D, h1, h2, h3⟩ := h
  have hz : (zeroValue 4).run Try.prog w = .ok (.bool false) w := by simp [zeroValue]; rfl
  obtain ⟨v, ps, hrun, hv⟩ := h1.lookup keyI Try.underlying78 hz (plainElem_bool Try.underlying4 false) (Maps.keyOf_int_mk Try.underlying2 (q := .i64) (a := x) hx)
  rw [h3 x] at hv
  have : v = .bool (p x) := by
    unfold plainElem at hv
    rw [Try.underlying4] at hv
    cases v <;> simp at hv
    rw [hv.1]
  rw [hrun, this]
theorem SetM.put {w : World} {b n : Nat} {p : Int → Bool} (h : SetM w b n p) (x : Int) (hx : wfKey x = true) (hn : n < 1000000) : ∃ w', (Instr.mapUpdate 78 (.map (some b)) (.int .i64 x) (.bool true)).run Try.prog w = .ok () w' ∧ SetM w' b (n + 1) (fun y => decide (y = x) || p y) ∧ w.grownBy w' (some b) := by
  obtain ⟨D, h1, h2, h3⟩ := h
  have hkey := Maps.keyOf_int_mk Try.underlying2 (q := .i64) (a := x) hx
  obtain ⟨w', hrun, h4, h5⟩ := h1.update keyI Try.underlying78 (by simp only [maxLen]; omega) hkey (plainElem_bool Try.underlying4 true)
  refine ⟨w', hrun, ⟨_, h4, h2.put _ _, fun y => ?_⟩, h5⟩
  by_cases e : y = x
  · subst e
    rw [Maps.atKey_put_same h2 (keyI.key hkey)]; simp
  · rw [Maps.atKey_put_other (fun e2 => e (by injection e2)), h3]; simp [e]
section
variable {P : Program} {ops : Array Oper} {o : Oper} {a : Act} {Q : Exit → Act → World → Prop} {Kc : Act → World → Prop}
/-- a store into a map at a step of a region -/
theorem mapUpdate_step {w w' : World} (hw : Region.wanted o (yielded ops a.tmps) = true) (m x v : Operand) (t : TypeId) (hop : o.op = Op.mapUpdate t m x v) (vm vx vv : Value) (hm : a.eval m = vm) (hx : a.eval x = vx) (hv : a.eval v = vv) (hN : o.dst = none)
    (hrun : (Instr.mapUpdate t vm vx vv).run P w = .ok () w') (h : Kc (a.put none undef) w') : if Region.wanted o (yielded ops a.tmps) = true then Oper.wp P o a w Kc Q else Kc (a.put none undef) w := by
  rw [if_pos hw]
  unfold Oper.wp
  simp [execOp, hop, hm, hx, hv, hrun, Result.andThen]
  show Kc (a.put o.dst undef) w'
  rw [hN]
  exact h
end
end Go.Proofs.Ytgdmflmglkakgaa

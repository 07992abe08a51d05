/-
  Words: append where the row of one element lies behind other new blocks; an end of three values.
-/
import Derived.Test.YtbcnddeelefomaaDoorOwn
namespace Go.Proofs.YtbcnddeelefomaaDoor
open Go Go.RowKit Go.Proofs
set_option linter.unusedVariables false
set_option linter.unusedSimpArgs false
theorem new_drew (w : World) (C : Array Value) (E : TypeId) : BK (w.alloc (.cells C E)).drew w.heap.size C E ∧ Below w.heap.size w (w.alloc (.cells C E)).drew ∧ (w.alloc (.cells C E)).drew.heap.size = w.heap.size + 1 :=
  ⟨(BK.new w C E).below (Below.refl _ _).drew (BK.new w C E).lt, ((Below.refl _ _).alloc (Nat.le_refl _) _).drew, by show (w.alloc (.cells C E)).heap.size = _; simp⟩
section
variable {P : Program} {ops : Array Oper} {rest : List Oper} {o : Oper} {a : Act} {Q : Exit → Act → World → Prop}
theorem app_int2 {W : World} (base : Nat) (hgd : o.guard = none) (s x : Operand) (t e : TypeId)
    (ho : o.op = .call { callee := .builtin .append, args := #[s, x], argTypes := #[t, t] }) (ht : P.underlying t = some (.slice e))
    (hinfo : (P.info? e).map (fun i => (i.zero, i.size, i.bytes)) = some (some (.int .i64 0), 1, 8))
    (v : Value) (xs : List Int) (y : Int) (hs : a.eval s = v) {B : Nat} (hB : B = W.heap.size) (hx : a.eval x = .slice (some ⟨B, 0, none⟩) 1 1)
    (HO : OI W base e v xs) (hbase : base ≤ W.heap.size) (hl : xs.length + 1 ≤ 1000000000000)
    (h : ∀ v1 w1, OI w1 base e v1 (xs ++ [y]) → W.grownBy w1 v.ownBlock → (v1.ownBlock = v.ownBlock ∨ ∃ b, v1.ownBlock = some b ∧ W.heap.size ≤ b) → wpList P ops Q rest (a.put o.dst v1) w1) :
    wpList P ops Q (o :: rest) a (W.alloc (.cells #[.int .i64 y] e)) := by
  subst hB
  exact app_int base hgd s x t e ho ht hinfo v xs y hs hx HO hbase hl h
theorem app_tile2 {W : World} (base : Nat) (hgd : o.guard = none) (s x : Operand) (t e : TypeId)
    (ho : o.op = .call { callee := .builtin .append, args := #[s, x], argTypes := #[t, t] }) (ht : P.underlying t = some (.slice e))
    (hinfo : (P.info? e).map (fun i => (i.zero, i.size, i.bytes)) = some (some (.agg #[.int .i64 0, .int .i64 0, .int .i64 0, .int .i64 0]), 4, 32))
    (v : Value) (ts : List T4) (y : T4) (hs : a.eval s = v) {B : Nat} (hB : B = W.heap.size) (hx : a.eval x = .slice (some ⟨B, 0, none⟩) 1 1)
    (HO : OT W base e v ts) (hbase : base ≤ W.heap.size) (hl : ts.length + 1 ≤ 1000000000000)
    (h : ∀ v1 w1, OT w1 base e v1 (ts ++ [y]) → W.grownBy w1 v.ownBlock → (v1.ownBlock = v.ownBlock ∨ ∃ b, v1.ownBlock = some b ∧ W.heap.size ≤ b) → wpList P ops Q rest (a.put o.dst v1) w1) :
    wpList P ops Q (o :: rest) a (W.alloc (.cells y.arr e)) := by
  subst hB
  exact app_tile base hgd s x t e ho ht hinfo v ts y hs hx HO hbase hl h
/-- append of one number at a step of a region that draws its order -/
theorem step_int {W : World} {K : Act → World → Prop} {Q : Exit → Act → World → Prop} {E : Prop} (base : Nat) (hgd : o.guard = none) (s x : Operand) (t e : TypeId)
    (ho : o.op = .call { callee := .builtin .append, args := #[s, x], argTypes := #[t, t] }) (ht : P.underlying t = some (.slice e))
    (hinfo : (P.info? e).map (fun i => (i.zero, i.size, i.bytes)) = some (some (.int .i64 0), 1, 8))
    (v : Value) (xs : List Int) (y : Int) (hs : a.eval s = v) {B : Nat} (hB : BK W B #[.int .i64 y] e) (hx : a.eval x = .slice (some ⟨B, 0, none⟩) 1 1)
    (HO : OI W base e v xs) (hbase : base ≤ W.heap.size) (hl : xs.length + 1 ≤ 1000000000000)
    (h : ∀ v1 w1, OI w1 base e v1 (xs ++ [y]) → W.grownBy w1 v.ownBlock → (v1.ownBlock = v.ownBlock ∨ ∃ b, v1.ownBlock = some b ∧ W.heap.size ≤ b) → K (a.put o.dst v1) w1) :
    if Region.wanted o (yielded ops a.tmps) = true then Oper.wp P o a W K Q else E := by
  have hw : Region.wanted o (yielded ops a.tmps) = true := by simp [Region.wanted, hgd]
  rw [if_pos hw]
  obtain ⟨i0, hi, hzz⟩ := Option.map_eq_some_iff.1 hinfo
  simp only [Prod.mk.injEq] at hzz
  obtain ⟨hz0, hz1, hz2⟩ := hzz
  obtain ⟨v', w', hr, h2, h3, h4, h5⟩ := run_append_own_at (P := P) W base t o.type e i0 (.int .i64 0) 1 8 ht hi hz0 hz1 hz2 rfl (by decide) v xs.length (icells xs) HO ⟨B, 0, none⟩ 1 1 [.int .i64 y] rfl
    (fun j u hj => by rw [add_none]; exact hB.cell (by simpa using hj)) (by simp [Value.oneCell']) (by simp only [maxLen]; omega) (by omega) hbase
  unfold Oper.wp execOp
  simp only [ho, resolve, invoke, builtin, Sem.run_bind, Sem.run_pure, Result.andThen_ok, List.map_toArray, List.map_cons, List.map_nil, hs, hx, hr]
  exact h v' w' (by simpa [OI, icells] using h2) h3 (h5.imp id fun e => ⟨_, e, Nat.le_refl _⟩)
end
end Go.Proofs.YtbcnddeelefomaaDoor

/-
  '==' between two tiles, as the model runs it.
-/
import Derived.Test.YtgdmflmglkakgaaTile
namespace Go.Proofs.Ytgdmflmglkakgaa
open Go Go.RowKit Go.Proofs
set_option linter.unusedVariables false
set_option linter.unusedSimpArgs false

theorem eqT_arr (t u : T4) (w : World) : (binOp .eql 63 (.agg t.arr) (.agg u.arr)).run Try.prog w = .ok (.bool (decide (t = u))) w := by
  have uA := Try.underlying63
  have uI := Try.underlying2
  have aI := Try.isAgg2
  have zI := Try.sizeOf2
  rw [run_eql_struct, show (10000 : Nat) = 9998 + 1 + 1 from rfl]
  unfold Op.equalIn
  simp only [Sem.run_bind, run_underlying uA, Result.andThen_ok, zI]
  rw [Std.Legacy.Range.forIn_eq_forIn_range']
  have hr : List.range' [:4].start [:4].size [:4].step = [0, 1, 2, 3] := by decide
  rw [hr]
  have pI (xs : Array Value) (i : Nat) (x : Int) (w : World) (h : xs[i]? = some (.int .i64 x)) : (part 2 xs i).run Try.prog w = .ok (.int .i64 x) w := by
    simp [part, aI, h]
  have t0 := t.cell 0 (by omega); have t1 := t.cell 1 (by omega); have t2 := t.cell 2 (by omega); have t3 := t.cell 3 (by omega)
  have u0 := u.cell 0 (by omega); have u1 := u.cell 1 (by omega); have u2 := u.cell 2 (by omega); have u3 := u.cell 3 (by omega)
  have qI (a b : Int) (w : World) : (Op.equalIn 9999 2 (.int .i64 a) (.int .i64 b)).run Try.prog w = .ok (a == b) w := run_equalIn_int w 9998 2 .i64 .i64 a b uI
  by_cases h0 : t.get 0 = u.get 0
  · by_cases h1 : t.get 1 = u.get 1
    · by_cases h2 : t.get 2 = u.get 2
      · by_cases h3 : t.get 3 = u.get 3
        · have he : t = u := T4.ext_get fun k hk => by
            have : k = 0 ∨ k = 1 ∨ k = 2 ∨ k = 3 := by omega
            rcases this with rfl | rfl | rfl | rfl <;> assumption
          simp [List.forIn_cons, Nat.mul_one, pI _ _ _ _ t0, pI _ _ _ _ t1, pI _ _ _ _ t2, pI _ _ _ _ t3, pI _ _ _ _ u0, pI _ _ _ _ u1, pI _ _ _ _ u2, pI _ _ _ _ u3, qI, h0, h1, h2, h3]
          exact he
        · have he : t ≠ u := fun e => h3 (by rw [e])
          simp [List.forIn_cons, Nat.mul_one, pI _ _ _ _ t0, pI _ _ _ _ t1, pI _ _ _ _ t2, pI _ _ _ _ t3, pI _ _ _ _ u0, pI _ _ _ _ u1, pI _ _ _ _ u2, pI _ _ _ _ u3, qI, h0, h1, h2, h3, he]
      · have he : t ≠ u := fun e => h2 (by rw [e])
        simp [List.forIn_cons, Nat.mul_one, pI _ _ _ _ t0, pI _ _ _ _ t1, pI _ _ _ _ t2, pI _ _ _ _ u0, pI _ _ _ _ u1, pI _ _ _ _ u2, qI, h0, h1, h2, he]
    · have he : t ≠ u := fun e => h1 (by rw [e])
      simp [List.forIn_cons, Nat.mul_one, pI _ _ _ _ t0, pI _ _ _ _ t1, pI _ _ _ _ u0, pI _ _ _ _ u1, qI, h0, h1, he]
  · have he : t ≠ u := fun e => h0 (by rw [e])
    simp [List.forIn_cons, Nat.mul_one, pI _ _ _ _ t0, pI _ _ _ _ u0, qI, h0, he]
theorem eqT_raw (t u : T4) (w : World) : (binOp .eql 63 (.agg #[.int .i64 (t.get 0), .int .i64 (t.get 1), .int .i64 (t.get 2), .int .i64 (t.get 3)]) (.agg #[.int .i64 (u.get 0), .int .i64 (u.get 1), .int .i64 (u.get 2), .int .i64 (u.get 3)])).run Try.prog w = .ok (.bool (decide (t = u))) w := eqT_arr t u w
theorem guardT (x y : Operand) (xs ys : Array Value) (w : World) : (eqGuard .eql 63 x y (.agg xs) (.agg ys)).run Try.prog w = .ok () w := run_eqGuard_agg w .eql _ x y xs ys (by kernel_rfl)
end Go.Proofs.Ytgdmflmglkakgaa

/-
 Parts of the proof, in their order: OpenT.
-/
import Derived.Test.YtcaikaflpmaocaaPk6
import Derived.Test.YtcaikaflpmaocaaPk8
namespace Go.Proofs.Ytcaikaflpmaocaa
open Go Go.RowKit Go.Proofs
open Go.ChangeShapes Go.WideShapes Go.ChangeAt Go.Deep
set_option linter.unusedVariables false
set_option linter.unusedSimpArgs false
section
variable {H : Type} {enc : TypeId × Value → H} {P : Program} {w : World} {base : Nat} {held : Bool}
theorem open_rows0 {t e i : TypeId} {fuel : Nat} {cs : List Value} {x : DataW H × List MemPlace} (ht : P.underlying t = some (.slice e)) (he : P.underlying e = some (.slice i)) (hi : P.underlying i = some (.int .i64)) (ce : P.cellsOf e = 1) (ci : P.cellsOf i = 1)
 (h : DataW.trod enc P w base (fun _ => true) held fuel t cs = some x) :
 ∃ A n c xs, cs = [.slice A n c] ∧ n = xs.length ∧ RR w A xs ∧ n ≤ c ∧ (n = 0 ∨ ∃ el sp, x.1 = .slice el sp ∧ n ≤ el.length + sp.length) := by
 rcases open_slice ht h with ⟨rfl, rfl⟩ | ⟨a, len, cap, m, n, D, Pl, rfl, hb, hl, hm, hmm, rfl, hx⟩
 ·exact ⟨none, 0, 0, [], rfl, rfl, fun k hk => by simp at hk, Nat.le_refl _, .inl rfl⟩
 ·simp only [if_true] at hmm
  subst hmm
  have inner : ∀ k, k < m → ∃ A' c' us, w.cell? (a.add k) = some (.slice A' us.length c') ∧ RI w A' us ∧ us.length ≤ c' ∧ us.length ≤ 9223372036854775807 := by
   intro k hk
   obtain ⟨cs', hc, htr⟩ := hx k hk
   rw [ce, Nat.mul_one] at hc
   obtain ⟨-, hlen, hcell⟩ := World.cells?_some hc
   obtain ⟨A', n', c', us, hcs, hn', hrt, hnc, -⟩ := open_ints0 he hi ci htr
   have hsm : us.length ≤ 9223372036854775807 := by
    rcases open_slice he htr with ⟨h1, -⟩ | ⟨a2, len2, cap2, m2, n2, D2, Pl2, h1, -, hl2, hm2, hmm2, -, -⟩
    ·rw [hcs] at h1
     simp at h1
     omega
    ·simp only [if_true] at hmm2
     subst hmm2
     rw [hcs] at h1
     simp at h1
     simp only [maxLen] at hm2
     omega
   have := hcell 0 (by omega)
   rw [hcs] at this
   have ha : (a.add k).add 0 = a.add k := by simp [Addr.add]
   rw [ha] at this
   exact ⟨A', c', us, by rw [← hn']; simpa using this, hrt, by omega, hsm⟩
  have each : ∀ k, k < len → ∃ us : List Int, ∃ A' c', a = ⟨a.block, a.off, none⟩ ∧ a.block < w.heap.size ∧ w.cell? ⟨a.block, a.off + k, none⟩ = some (.slice A' us.length c') ∧ RI w A' us ∧ us.length ≤ c' ∧ us.length ≤ 9223372036854775807 := by
   intro k hk
   obtain ⟨A', c', us, hc, hr, hle, hsm⟩ := inner k (by omega)
   obtain ⟨A0, c0, us0, hc0, -, -⟩ := inner 0 (by omega)
   have h0 : a.add 0 = a := by simp [Addr.add]
   rw [h0] at hc0
   have ha := addr_plain hc0
   have hlt := World.block_lt_of_cell? w _ hc0
   refine ⟨us, A', c', ha, hlt, ?_, hr, hle, hsm⟩
   rw [ha, add_plain] at hc
   exact hc
  obtain ⟨f, hf⟩ := choose_lt each
  refine ⟨some a, len, m, (List.range len).map f, rfl, by simp, fun k hk => ?_, hl, .inr ⟨_, _, rfl, by simp⟩⟩
  have hk' : k < len := by simpa using hk
  obtain ⟨A', c', ha, hlt, hc, hr, hle, hsm⟩ := hf k hk'
  have htk : rowAt ((List.range len).map f) k = f k := by simp [rowAt, hk']
  have hlk : rowLen ((List.range len).map f) k = (f k).length := by rw [rowLen, htk]
  rw [hlk, htk]
  exact ⟨a.block, a.off, A', c', by rw [← ha], hlt, hc, hr, hle, hsm⟩
theorem open_rows_arg {r : Reach} {b0 : Nat} {t e i : TypeId} {v : Value} {d : DataW H} {ps : List MemPlace} (ht : P.underlying t = some (.slice e)) (he : P.underlying e = some (.slice i)) (hi : P.underlying i = some (.int .i64)) (ce : P.cellsOf e = 1) (ci : P.cellsOf i = 1) (hby : P.bytesOf e = 24) (hby2 : P.bytesOf i = 8)
 (hval : Value.okWide P w r b0 t v) (h : DataW.Trod enc P w base (fun _ => true) held t v d ps) {ts0 : List TypeId} {ds0 : List (DataW H)} {j : Nat} (hj : ts0[j]? = some t) (hd : ds0[j]? = some d)
 (hsz : (DataW.weightsEach P ts0 ds0).all (· ≤ reachBytes) = true) :
 ∃ A n c xs, v = .slice A n c ∧ n = xs.length ∧ RR w A xs ∧ n ≤ c ∧ n ≤ 35184372088832 := by
 obtain ⟨a, len, cap, rfl⟩ := okWide_slice ht hval
 obtain ⟨fuel, hf⟩ := h
 obtain ⟨A, n, c, xs, hA, hn, hrt, hnc, hwt⟩ := open_rows0 ht he hi ce ci hf
 simp [Value.cells] at hA
 obtain ⟨rfl, rfl, rfl⟩ := hA
 refine ⟨_, _, _, xs, rfl, hn, hrt, hnc, ?_⟩
 rcases hwt with h0 | ⟨el, sp, hx, hle⟩
 ·omega
 ·have := List.all_eq_true.1 hsz _ (DataW.weights_mem_each hj hd ((el.length + sp.length) * P.bytesOf e) (by
   simp only at hx
   rw [hx]
   simp [DataW.weights, ht]))
  simp only [decide_eq_true_eq, hby, reachBytes] at this
  omega
end
end Go.Proofs.Ytcaikaflpmaocaa

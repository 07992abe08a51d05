/-
  Parts of the proof, in their order: Open.
-/
import Derived.Test.YtbcnddeelefomaaDoorPk3
import Derived.ProofKit
import Derived.OpenShut
import Derived.ShutString
import Derived.ChangeOld
import Derived.SizedLaws
import Derived.ChangeSlices
import Derived.Deep.Slices
/-
  Arguments opened: what can be read as data of type laws.Set, []int64, [][]int64 stands so in memory.
-/
namespace Go.Proofs.YtbcnddeelefomaaDoor
open Go Go.RowKit Go.Proofs
open Go.ChangeShapes Go.WideShapes Go.ChangeAt Go.Deep
set_option linter.unusedVariables false
set_option linter.unusedSimpArgs false

section
variable {H : Type} {enc : TypeId × Value → H} {P : Program} {w : World} {base : Nat} {held : Bool} {spare : Nat → Bool}

theorem open_tile {e i : TypeId} {fuel : Nat} {cs : List Value} {x : DataW H × List MemPlace} (he : P.underlying e = some (.array 4 i)) (hi : P.underlying i = some (.int .i64)) (ce : P.cellsOf e = 4) (ci : P.cellsOf i = 1)
    (h : DataW.trod enc P w base spare held fuel e cs = some x) : ∃ t : T4, cs = t.arr.toList := by
  cases fuel with
  | zero => simp [DataW.trod] at h
  | succ fuel =>
    simp only [DataW.trod, he] at h
    split at h
    · rename_i hl
      rw [ce] at hl
      obtain ⟨ys, hys, -⟩ := Option.map_eq_some_iff.1 h
      have each : ∀ j, j < 4 → ∃ n, cs[j]? = some (.int .i64 n) := by
        intro j hj
        have hg := mapM_some_get hys j j (by simp [hj])
        simp only [ci, Nat.mul_one] at hg
        have hlen : ys.length = 4 := by simpa using mapM_some_length hys
        rw [List.getElem?_eq_getElem (show j < ys.length by omega)] at hg
        have hd : (cs.drop j).take 1 = [cs[j]'(by omega)] := by
          rw [List.drop_eq_getElem_cons (by omega), List.take_succ_cons, List.take_zero]
        rw [hd] at hg
        obtain ⟨n, hn, -, -⟩ := DataW.trod_int hi hg
        exact ⟨n, by rw [List.getElem?_eq_getElem (by omega)]; simpa using hn⟩
      obtain ⟨a, ha⟩ := each 0 (by omega); obtain ⟨b, hb⟩ := each 1 (by omega); obtain ⟨c, hc⟩ := each 2 (by omega); obtain ⟨d, hd⟩ := each 3 (by omega)
      refine ⟨⟨a, b, c, d⟩, ?_⟩
      match cs, hl, ha, hb, hc, hd with
      | [v0, v1, v2, v3], _, ha, hb, hc, hd =>
        simp at ha hb hc hd
        subst ha hb hc hd
        rfl
    · cases h

theorem addr_plain {w : World} {a : Addr} {v : Value} (h : w.cell? a = some v) : a = ⟨a.block, a.off, none⟩ := by
  obtain ⟨b, o, s⟩ := a
  cases s with
  | none => rfl
  | some s =>
    simp only [World.cell?] at h
    split at h
    · simp at h
    · cases h
theorem add_plain (b o n : Nat) : (⟨b, o, none⟩ : Addr).add n = ⟨b, o + n, none⟩ := by unfold Addr.add; split <;> simp_all

theorem open_tiles {t e i : TypeId} {fuel : Nat} {cs : List Value} {x : DataW H × List MemPlace} (ht : P.underlying t = some (.slice e)) (he : P.underlying e = some (.array 4 i)) (hi : P.underlying i = some (.int .i64)) (ce : P.cellsOf e = 4) (ci : P.cellsOf i = 1)
    (h : DataW.trod enc P w base (fun _ => true) held fuel t cs = some x) :
    ∃ A n c ts, cs = [.slice A n c] ∧ n = ts.length ∧ RT w A ts ∧ n ≤ c ∧ (n = 0 ∨ ∃ el sp, x.1 = .slice el sp ∧ n ≤ el.length + sp.length) := by
  rcases open_slice ht h with ⟨rfl, rfl⟩ | ⟨a, len, cap, m, n, D, Pl, rfl, hb, hl, hm, hmm, rfl, hx⟩
  · exact ⟨none, 0, 0, [], rfl, rfl, fun k hk => by simp at hk, Nat.le_refl _, .inl rfl⟩
  · simp only [if_true] at hmm
    subst hmm
    have each : ∀ k, k < len → ∃ t : T4, a = ⟨a.block, a.off, none⟩ ∧ a.block < w.heap.size ∧ ∀ j, j < 4 → w.cell? ⟨a.block, a.off + k * 4 + j, none⟩ = some (.int .i64 (t.get j)) := by
      intro k hk
      obtain ⟨cs', hc, htr⟩ := hx k (by omega)
      rw [ce] at hc
      obtain ⟨t, rfl⟩ := open_tile he hi ce ci htr
      obtain ⟨-, -, hcell⟩ := World.cells?_some hc
      have hg (j : Nat) (hj : j < 4) : w.cell? ((a.add (k * 4)).add j) = some (.int .i64 (t.get j)) := by
        rw [hcell j hj, Array.getElem?_toList]; exact t.cell j hj
      have ha : a = ⟨a.block, a.off, none⟩ := by
        obtain ⟨cs0, hc0, htr0⟩ := hx 0 (by omega)
        obtain ⟨t0, rfl⟩ := open_tile he hi ce ci htr0
        rw [ce] at hc0
        obtain ⟨-, -, hcell0⟩ := World.cells?_some hc0
        have := hcell0 0 (by omega)
        rw [Array.getElem?_toList, t0.cell 0 (by omega)] at this
        have he : (a.add (0 * 4)).add 0 = a := by simp [Addr.add]
        rw [he] at this
        exact addr_plain this
      refine ⟨t, ha, ?_, fun j hj => ?_⟩
      · have := World.block_lt_of_cell? w _ (hg 0 (by omega))
        rw [ha, add_plain, add_plain] at this
        exact this
      · have := hg j hj
        rw [ha, add_plain, add_plain] at this
        exact this
    obtain ⟨f, hf⟩ := choose_lt each
    refine ⟨some a, len, m, (List.range len).map f, rfl, by simp, fun k hk => ?_, hl, .inr ⟨_, _, rfl, by simp⟩⟩
    have hk' : k < len := by simpa using hk
    obtain ⟨ha, hlt, hc⟩ := hf k hk'
    have htk : tk ((List.range len).map f) k = f k := by simp [tk, hk']
    rw [htk]
    exact ⟨a.block, a.off, by rw [← ha], hlt, hc 0 (by omega), hc 1 (by omega), hc 2 (by omega), hc 3 (by omega)⟩

/-- an argument of type laws.Set -/
theorem open_set {r : Reach} {b0 : Nat} {t i : TypeId} {u e : TypeId} {f0 f1 : Field} {v : Value} {d : DataW H} {ps : List MemPlace} (ht : P.underlying t = some (.struct #[f0, f1])) (o0 : f0.offset = 0) (o1 : f1.offset = 1) (t0 : f0.type = i) (t1 : f1.type = u)
    (hu : P.underlying u = some (.slice e)) (he : P.underlying e = some (.array 4 i)) (hi : P.underlying i = some (.int .i64)) (ct : P.cellsOf t = 2) (cu : P.cellsOf u = 1) (ce : P.cellsOf e = 4) (ci : P.cellsOf i = 1) (hby : P.bytesOf e = 32)
    (hval : Value.okWide P w r b0 t v) (h : DataW.Trod enc P w base (fun _ => true) held t v d ps) {ts0 : List TypeId} {ds0 : List (DataW H)} {j : Nat} (hj : ts0[j]? = some t) (hd : ds0[j]? = some d)
    (hsz : (DataW.weightsEach P ts0 ds0).all (· ≤ reachBytes) = true) :
    ∃ C A n c ts, v = .agg #[.int .i64 C, .slice A n c] ∧ n = ts.length ∧ RT w A ts ∧ n ≤ c ∧ n ≤ 35184372088832 ∧ (Lit.int .i64 C).wf = true := by
  unfold Value.okWide at hval
  rw [ht] at hval
  obtain ⟨cells, rfl, hsize, -⟩ := hval
  rw [ct] at hsize
  obtain ⟨fuel, hf⟩ := h
  cases fuel with
  | zero => simp [DataW.trod] at hf
  | succ fuel =>
    simp only [Value.cells] at hf
    simp only [DataW.trod, ht] at hf
    split at hf
    · rename_i hl
      obtain ⟨ys, hys, hd'⟩ := Option.map_eq_some_iff.1 hf
      obtain ⟨x0, hx0⟩ : ∃ x0, ys[0]? = some x0 := ⟨_, List.getElem?_eq_getElem (by have := mapM_some_length hys; simp at this; omega)⟩
      obtain ⟨x1, hx1⟩ : ∃ x1, ys[1]? = some x1 := ⟨_, List.getElem?_eq_getElem (by have := mapM_some_length hys; simp at this; omega)⟩
      have hylen : ys.length = 2 := by simpa using mapM_some_length hys
      have h0 := mapM_some_get hys 0 f0 (by simp)
      have h1 := mapM_some_get hys 1 f1 (by simp)
      rw [o0, t0, ci, hx0] at h0
      rw [o1, t1, cu, hx1] at h1
      obtain ⟨v0, v1, hcl⟩ : ∃ v0 v1, cells.toList = [v0, v1] := by
        match hc : cells.toList, (by simpa using hsize : cells.toList.length = 2) with
        | [v0, v1], _ => exact ⟨v0, v1, rfl⟩
      rw [hcl] at h0 h1
      simp only [List.drop_zero, List.take_succ_cons, List.take_zero, List.drop_succ_cons] at h0 h1
      obtain ⟨C, hC, -, hwf⟩ := DataW.trod_int hi h0
      obtain ⟨A, n, c, ts, hA, hn, hrt, hnc, hwt⟩ := open_tiles hu he hi ce ci h1
      simp at hC hA
      subst hC hA
      refine ⟨C, A, n, c, ts, ?_, hn, hrt, hnc, ?_, hwf⟩
      · congr 1
        apply Array.toList_inj.1 
        rw [hcl]
      · rcases hwt with h0 | ⟨el, sp, hx, hle⟩
        · omega
        · have hde : d = .agg [x0.1, x1.1] := by
            have := (Prod.mk.inj hd').1
            rw [← this]
            match ys, hylen, hx0, hx1 with
            | [y0, y1], _, hx0, hx1 =>
              simp at hx0 hx1
              subst hx0 hx1
              rfl
          have := List.all_eq_true.1 hsz _ (DataW.weights_mem_each hj hd ((el.length + sp.length) * P.bytesOf e) (by
            rw [hde, hx]
            simp [DataW.weights, ht, DataW.weightsEach, t1, hu]))
          simp only [decide_eq_true_eq, hby, reachBytes] at this
          omega
    · cases hf

theorem open_ints0 {t e : TypeId} {fuel : Nat} {cs : List Value} {x : DataW H × List MemPlace} (ht : P.underlying t = some (.slice e)) (he : P.underlying e = some (.int .i64)) (ce : P.cellsOf e = 1)
    (h : DataW.trod enc P w base (fun _ => true) held fuel t cs = some x) :
    ∃ A n c ts, cs = [.slice A n c] ∧ n = ts.length ∧ RI w A ts ∧ n ≤ c ∧ (n = 0 ∨ ∃ el sp, x.1 = .slice el sp ∧ n ≤ el.length + sp.length) := by
  rcases open_slice ht h with ⟨rfl, rfl⟩ | ⟨a, len, cap, m, n, D, Pl, rfl, hb, hl, hm, hmm, rfl, hx⟩
  · exact ⟨none, 0, 0, [], rfl, rfl, fun k hk => by simp at hk, Nat.le_refl _, .inl rfl⟩
  · simp only [if_true] at hmm
    subst hmm
    have one : ∀ k, k < m → ∃ x : Int, w.cell? (a.add k) = some (.int .i64 x) := by
      intro k hk
      obtain ⟨cs', hc, htr⟩ := hx k hk
      rw [ce, Nat.mul_one] at hc
      obtain ⟨-, hlen, hcell⟩ := World.cells?_some hc
      obtain ⟨x, hx', -, -⟩ := DataW.trod_int he htr
      have := hcell 0 (by omega)
      rw [hx'] at this
      have ha : (a.add k).add 0 = a.add k := by simp [Addr.add]
      rw [ha] at this
      exact ⟨x, by simpa using this⟩
    have each : ∀ k, k < len → ∃ x : Int, a = ⟨a.block, a.off, none⟩ ∧ a.block < w.heap.size ∧ w.cell? ⟨a.block, a.off + k, none⟩ = some (.int .i64 x) := by
      intro k hk
      obtain ⟨x, hx⟩ := one k (by omega)
      obtain ⟨y, hy⟩ := one 0 (by omega)
      have h0 : a.add 0 = a := by simp [Addr.add]
      rw [h0] at hy
      have ha := addr_plain hy
      have hlt := World.block_lt_of_cell? w _ hy
      refine ⟨x, ha, hlt, ?_⟩
      rw [ha, add_plain] at hx
      exact hx
    obtain ⟨f, hf⟩ := choose_lt each
    refine ⟨some a, len, m, (List.range len).map f, rfl, by simp, fun k hk => ?_, hl, .inr ⟨_, _, rfl, by simp⟩⟩
    have hk' : k < len := by simpa using hk
    obtain ⟨ha, hlt, hc⟩ := hf k hk'
    have htk : ik ((List.range len).map f) k = f k := by simp [ik, hk']
    rw [htk]
    exact ⟨a.block, a.off, by rw [← ha], hlt, hc⟩
/-- an argument of type []int64 -/
theorem open_ints_arg {r : Reach} {b0 : Nat} {t e : TypeId} {v : Value} {d : DataW H} {ps : List MemPlace} (ht : P.underlying t = some (.slice e)) (he : P.underlying e = some (.int .i64)) (ce : P.cellsOf e = 1) (hby : P.bytesOf e = 8)
    (hval : Value.okWide P w r b0 t v) (h : DataW.Trod enc P w base (fun _ => true) held t v d ps) {ts0 : List TypeId} {ds0 : List (DataW H)} {j : Nat} (hj : ts0[j]? = some t) (hd : ds0[j]? = some d)
    (hsz : (DataW.weightsEach P ts0 ds0).all (· ≤ reachBytes) = true) :
    ∃ A n c ts, v = .slice A n c ∧ n = ts.length ∧ RI w A ts ∧ n ≤ c ∧ n ≤ 35184372088832 := by
  obtain ⟨a, len, cap, rfl⟩ := okWide_slice ht hval
  obtain ⟨fuel, hf⟩ := h
  obtain ⟨A, n, c, ts, hA, hn, hrt, hnc, hwt⟩ := open_ints0 ht he ce hf
  simp [Value.cells] at hA
  obtain ⟨rfl, rfl, rfl⟩ := hA
  refine ⟨_, _, _, ts, rfl, hn, hrt, hnc, ?_⟩
  rcases hwt with h0 | ⟨el, sp, hx, hle⟩
  · omega
  · have := List.all_eq_true.1 hsz _ (DataW.weights_mem_each hj hd ((el.length + sp.length) * P.bytesOf e) (by
      simp only at hx
      rw [hx]
      simp [DataW.weights, ht]))
    simp only [decide_eq_true_eq, hby, reachBytes] at this
    omega
end
theorem wf64 {n : Int} (h : (Lit.int .i64 n).wf = true) : -9223372036854775808 ≤ n ∧ n ≤ 9223372036854775807 := by
  simp [Lit.wf] at h
  have e : IntKind.i64.min = -9223372036854775808 := by decide
  rw [e] at h
  exact h
end Go.Proofs.YtbcnddeelefomaaDoor

/-
  Parts of the proof, in their order: Cells.
-/
import Derived.Test.YtnjmgmdpkogocaaPk5
import Derived.ArgAppend
namespace Go.Proofs.Ytnjmgmdpkogocaa
open Go Go.RowKit Go.Proofs
set_option linter.unusedVariables false
set_option linter.unusedSimpArgs false
theorem setCells_far {g : Nat} : ∀ (vs : List Value) (o : Nat) {w : World} (k : Nat), k ≠ g → (w.setCells g o vs).heap[k]? = w.heap[k]?
  | [], _, _, _, _ => rfl
  | v :: r, o, w, k, hk => by
    rw [World.setCells, setCells_far r (o + 1) k hk]
    exact Below.heap_setCell w ⟨g, o, none⟩ v k hk
theorem setCells_only {g : Nat} : ∀ (vs : List Value) (o : Nat) (w : World), Only g (g + 1) w (w.setCells g o vs)
  | [], _, w => Only.refl _ _ _
  | v :: r, o, w => by
    rw [World.setCells]
    exact ((Only.refl g (g + 1) w).setCell (Nat.le_refl _) (by omega) o v).trans (setCells_only r (o + 1) _)
theorem setCells_row {g : Nat} {e : TypeId} : ∀ (vs : List Value) (o : Nat) (w : World) (cur : Array Value), BK w g cur e → o + vs.length ≤ cur.size →
    ∃ cur', BK (w.setCells g o vs) g cur' e ∧ cur'.size = cur.size ∧ cur'.toList = cur.toList.take o ++ vs ++ cur.toList.drop (o + vs.length)
  | [], o, w, cur, h, _ => ⟨cur, h, rfl, by simp⟩
  | v :: r, o, w, cur, h, hl => by
    have h2 := h.set o v
    simp only [List.length_cons] at hl
    obtain ⟨cur', h3, h4, h5⟩ := setCells_row r (o + 1) (w.setCell ⟨g, o, none⟩ v) _ h2 (by simp; omega)
    refine ⟨cur', h3, by rw [h4]; simp, ?_⟩
    rw [h5, Array.toList_setIfInBounds]
    have ho : o < cur.toList.length := by rw [Array.length_toList]; omega
    rw [List.take_set, List.drop_set_of_lt (by omega)]
    simp only [List.length_cons]
    rw [show o + 1 + r.length = o + (r.length + 1) by omega]
    congr 1
    rw [List.take_succ_eq_append_getElem ho, List.set_append_right _ _ (by rw [List.length_take]; omega)]
    have ho' : o < cur.size := by omega
    simp [Nat.min_eq_left (Nat.le_of_lt ho')]
theorem OT.block {w : World} {base : Nat} {E : TypeId} {g n c : Nat} {ts : List T4} (h : OT w base E (.slice (some ⟨g, 0, none⟩) n c) ts) (hn : n = ts.length) :
    ∃ cur, BK w g cur E ∧ base ≤ g ∧ n ≤ c ∧ c ≤ maxLen ∧ cur.size = c * 4 ∧ cur.toList.take (n * 4) = tcells ts := by
  rcases h.2 with ⟨he, -⟩ | ⟨g', cap, cur, he, hb, hg, hle, hm, hs, ht⟩
  · injection he with e1 _ _; cases e1
  · injection he with e1 e2 e3
    injection e1 with e1; injection e1 with e1
    subst e1 e3
    refine ⟨cur, hg, hb, by omega, hm, hs, ?_⟩
    rw [hn]; exact ht
theorem OT.ofBlock {w : World} {base : Nat} {E : TypeId} {g n c : Nat} {ts : List T4} {cur : Array Value} (h : BK w g cur E) (hb : base ≤ g) (hn : n = ts.length) (hle : n ≤ c) (hm : c ≤ maxLen) (hs : cur.size = c * 4) (ht : cur.toList.take (n * 4) = tcells ts) :
    OT w base E (.slice (some ⟨g, 0, none⟩) n c) ts := by
  subst hn
  exact ⟨tcells_length ts, .inr ⟨g, c, cur, rfl, hb, h, hle, hm, hs, ht⟩⟩
theorem clearN_list (m : Nat) : (Builtin.zeroCells #[Value.int .i64 0, .int .i64 0, .int .i64 0, .int .i64 0] m).toList = List.replicate (m * 4) (.int .i64 0) := by
  apply List.ext_getElem
  · simp [Builtin.zeroCells]
  · intro i h1 h2
    simp only [Builtin.zeroCells, Array.getElem_toList, Array.getElem_map, Array.getElem_range, List.getElem_replicate]
    have : i % 4 = 0 ∨ i % 4 = 1 ∨ i % 4 = 2 ∨ i % 4 = 3 := by omega
    rcases this with h | h | h | h <;> simp [h]
theorem run_clearN {P : Program} {W : World} (t e ty : TypeId) (ht : P.underlying t = some (.slice e))
    (hz : ∀ w, (zeroValue e).run P w = .ok (.agg #[.int .i64 0, .int .i64 0, .int .i64 0, .int .i64 0]) w)
    {g q m : Nat} (c2 : Nat) (hm : 0 < m) {cur : Array Value} (hB : BK W g cur e) (hsz : q + m * 4 ≤ cur.size) :
    ∃ cur' w1, (Builtin.clear_ #[t] ty #[.slice (some ⟨g, q, none⟩) m c2]).run P W = .ok (.tuple #[]) w1 ∧ BK w1 g cur' e ∧ cur'.size = cur.size ∧ cur'.toList.take q = cur.toList.take q ∧ Only g (g + 1) W w1 := by
  have hst := run_storeCells_cells (P := P) g q (List.replicate (m * 4) (.int .i64 0)) 0 W (fun j hj => by
      rw [List.length_replicate] at hj
      rw [hB.cell (v := cur[q + 0 + j]'(by omega)) (Array.getElem?_eq_getElem _)]; rfl) (fun j _ => hB.frozen _) (by intro v hv; rw [List.eq_of_mem_replicate hv]; rfl)
  simp only [Nat.add_zero] at hst
  have hr : (Builtin.clear_ #[t] ty #[.slice (some ⟨g, q, none⟩) m c2]).run P W = .ok (.tuple #[]) (W.setCells g q (List.replicate (m * 4) (.int .i64 0))) := by
    obtain ⟨m, rfl⟩ : ∃ m', m = m' + 1 := ⟨m - 1, by omega⟩
    simp [Builtin.clear_, run_underlying ht, hz, Value.cells, clearN_list, hst]
  obtain ⟨cur', h3, h4, h5⟩ := setCells_row (List.replicate (m * 4) (.int .i64 0)) q W cur hB (by simpa using hsz)
  refine ⟨cur', _, hr, h3, h4, ?_, setCells_only _ _ _⟩
  rw [h5, List.append_assoc, List.take_append_of_le_length (by rw [List.length_take, Array.length_toList]; omega), List.take_take, Nat.min_self]
end Go.Proofs.Ytnjmgmdpkogocaa

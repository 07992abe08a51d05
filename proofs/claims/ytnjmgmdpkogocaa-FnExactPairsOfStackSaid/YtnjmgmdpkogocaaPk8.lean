/-
  Parts of the proof, in their order: SortW.
-/
import Derived.Test.YtnjmgmdpkogocaaPk7
import Derived.Shelf.GgSortFunc.InsertionK
/-
  The sort's worlds of the shelf, said by blocks.
-/
namespace Go.Proofs.Ytnjmgmdpkogocaa
open Go Go.RowKit Go.Proofs
set_option linter.unusedVariables false
set_option linter.unusedSimpArgs false
open Go.Sort in
theorem bk_put {w : World} {g : Nat} {cur : Array Value} {E : TypeId} (h : BK w g cur E) (F : Array Value) : BK (putRow id w g 0 F) g (putCells id 0 F cur) E := by
  have h' : w.heap[g]? = some (.cells cur E (0, 0)) := h
  show (putRow id w g 0 F).heap[g]? = _
  unfold putRow mapBlock
  simp [Array.getElem?_modify, h', onCells]
open Go.Sort in
theorem only_put (w : World) (g : Nat) (F : Array Value) : Only g (g + 1) w (putRow id w g 0 F) := by
  refine ⟨rfl, rfl, rfl, by unfold putRow mapBlock; simp, fun i hi hd => ?_⟩
  unfold putRow mapBlock
  simp only [Array.getElem?_modify]
  rw [if_neg (by omega)]
open Go.Sort in
theorem only_grow (w : World) (lo hi : Nat) (os : Array Obj) : Only lo hi w (grow w os) := by
  refine ⟨rfl, rfl, rfl, by simp [grow], fun i hi _ => ?_⟩
  simp [grow, Array.getElem?_append, hi]
open Go.Sort in
theorem only_ahead (w : World) (lo hi n : Nat) : Only lo hi w (Go.Sort.ahead w n) := ⟨rfl, rfl, rfl, Nat.le_refl _, fun _ _ _ => rfl⟩
open Go.Sort in
theorem put_take {cur F : Array Value} {n : Nat} (hF : F.size = n) (hn : n ≤ cur.size) : (putCells id 0 F cur).toList.take n = F.toList := by
  apply List.ext_getElem?
  intro j
  rw [List.getElem?_take]
  split
  · rename_i hj
    have h1 : j < cur.size := by omega
    have h2 : j < F.size := by omega
    simp [putCells, h1, h2]
  · rw [List.getElem?_eq_none (by simp; omega)]
open Go.Sort in
theorem put_size (cur F : Array Value) : (putCells id 0 F cur).size = cur.size := by simp [putCells]
def encT (t : T4) : List Value := t.arr.toList
theorem encT_len (t : T4) : (encT t).length = 4 := by simp [encT, T4.arr]
theorem encT_one (t : T4) : ∀ v ∈ encT t, v.oneCell' = true := by
  intro v hv
  simp only [encT, T4.arr, List.mem_cons, List.not_mem_nil, or_false] at hv
  rcases hv with rfl | rfl | rfl | rfl <;> rfl
open Go.Sort in
theorem flat_tcells (ts : List T4) : (flatK encT 4 ts.toArray).toList = tcells ts := by
  apply List.ext_getElem?
  intro j
  by_cases hj : j < ts.length * 4
  · have hk : j / 4 < ts.length := by omega
    have hr : j % 4 < 4 := by omega
    have e : j = j / 4 * 4 + j % 4 := by omega
    have h1 : (flatK encT 4 ts.toArray)[j]! = (encT ts.toArray[j / 4]!)[j % 4]! := get_flatK _ _ _ _ (by simpa using hj)
    have hs : j < (flatK encT 4 ts.toArray).size := by simpa using hj
    have h2 : (tcells ts)[j]? = some (.int .i64 ((tk ts (j / 4)).get (j % 4))) := by
      have := tcells_get hk hr
      rwa [← e] at this
    rw [h2, Array.getElem?_toList, Array.getElem?_eq_getElem hs]
    congr 1
    rw [getElem!_pos (flatK encT 4 ts.toArray) j hs] at h1
    rw [h1]
    have h3 : ts.toArray[j / 4]! = tk ts (j / 4) := by simp [tk, List.getD, hk]
    rw [h3]
    have h4 := (tk ts (j / 4)).cell (j % 4) hr
    simp only [encT]
    rw [← Array.getElem?_toList] at h4
    simp [List.getElem!_eq_getElem?_getD, h4]
  · rw [List.getElem?_eq_none (by simp; omega), List.getElem?_eq_none (by rw [tcells_length]; omega)]
open Go.Sort in
theorem holdsK_of {w : World} {g : Nat} {cur : Array Value} {E : TypeId} {ts : List T4} (h : BK w g cur E) (hs : cur.toList.take (ts.length * 4) = tcells ts) : HoldsK encT 4 w g 0 ts.toArray := by
  intro j hj
  have hj' : j < ts.length * 4 := by simpa using hj
  refine ⟨?_, h.frozen _⟩
  have h1 : (flatK encT 4 ts.toArray).toList[j]? = cur.toList[j]? := by
    rw [flat_tcells, ← hs, List.getElem?_take, if_pos hj']
  rw [Nat.zero_add]
  refine h.cell ?_
  rw [Array.getElem?_toList, Array.getElem?_toList] at h1
  rw [← h1, Array.getElem?_eq_getElem hj, getElem!_pos (flatK encT 4 ts.toArray) j hj]
  rfl
end Go.Proofs.Ytnjmgmdpkogocaa

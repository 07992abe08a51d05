/-
  Parts of the proof, in their order: SortF.
-/
import Derived.Test.YtnjmgmdpkogocaaPk12
import Derived.Test.YtnjmgmdpkogocaaPk1
import Derived.Test.YtnjmgmdpkogocaaPk10
import Derived.Shelf.SlSortCmp.NoneTotal
namespace Go.Proofs.Ytnjmgmdpkogocaa
open Go Go.RowKit Go.Proofs
set_option linter.unusedVariables false
set_option linter.unusedSimpArgs false
def msortT (ts : List T4) : List T4 := ts.mergeSort fun x y => !ltT y x
theorem msortT_perm (ts : List T4) : (msortT ts).Perm ts := List.mergeSort_perm _ _
theorem msortT_len (ts : List T4) : (msortT ts).length = ts.length := (msortT_perm ts).length_eq
theorem msortT_asc (ts : List T4) : (msortT ts).Pairwise fun t u => ltT u t = false := by
  have h := List.pairwise_mergeSort (le := fun x y : T4 => !ltT y x) (fun a b c h1 h2 => by
      simp only [Bool.not_eq_true'] at *
      rcases ltT_tri c a with h | h | h
      · exfalso
        rcases ltT_tri a b with k | k | k
        · have := ltT_trans h k; rw [this] at h2; cases h2
        · subst k; rw [h] at h2; cases h2
        · rw [k] at h1; cases h1
      · rw [h]; exact ltT_self _
      · exact ltT_asymm h) (fun a b => by
      rcases ltT_tri a b with h | h | h
      · rw [ltT_asymm h]; rfl
      · rw [h, ltT_self]; rfl
      · rw [ltT_asymm h]; simp) ts
  exact h.imp fun h => by simpa using h
theorem ded_msort (ts : List T4) : dedT (msortT ts) = sortT ts :=
  sortT_eq (dedT_asc _ (msortT_asc ts)) fun t => (dedT_mem t _).trans (msortT_perm ts).mem_iff
set_option maxHeartbeats 4000000 in
open Go.Sort Go.Shelf in
theorem SortFuncT_any (g n c base : Nat) (ts : List T4) (w : World) (hO : OT w base 45 (.slice (some ⟨g, 0, none⟩) n c) ts) (hn : n = ts.length) (hl : n ≤ 1000000) :
    Calls Try.prog 118 #[.slice (some ⟨g, 0, none⟩) n c, .func (.func 110) #[] #[]] w fun e w' => e = .returned (.tuple #[]) ∧ OT w' base 45 (.slice (some ⟨g, 0, none⟩) n c) (msortT ts) ∧ Only g (g + 1) w w' := by
  obtain ⟨cur, hB, hb, hnc, hm, hsz, htk⟩ := OT.block hO hn
  subst hn
  have eg : ∀ args w, (callFunc 110 args).run Try.prog w = .ok (.enter 110 args) w := enters_of Try.func110 (by kernel_rfl) rfl
  have hcon := AnyQ.slices_SortFunc_total sortLaid 4 Try.isAgg45 Try.sizeOf45 encT encT_len encT_one cfT swoT 110 #[] g 0 c ts.toArray w eg (cmpLaysT _ _ _ _) (holdsK_of hB htk) hB.lt (by simp; omega) totT
  change Calls Try.prog 118 _ _ _ at hcon
  have hsz' : ts.toArray.size = ts.length := by simp
  rw [hsz'] at hcon
  refine hcon.mono ?_
  rintro e w' ⟨rfl, m, os, rfl⟩
  refine ⟨rfl, ?_, ?_⟩
  · have he : (ts.toArray.toList.mergeSort fun x y => !(ltOf cfT) y x) = msortT ts := by
      unfold msortT
      congr 1
      funext x y
      rw [ltOf_cfT]
    have hF : (flatK encT 4 (msortT ts).toArray).size = ts.length * 4 := by simp [msortT_len]
    have h1 : BK (sortWorldK encT 4 w g 0 m (msortT ts).toArray os) g (putCells id 0 (flatK encT 4 (msortT ts).toArray) cur) 45 := by
      have h2 : BK (Go.Sort.ahead w m) g cur 45 := hB
      have h3 := bk_put h2 (flatK encT 4 (msortT ts).toArray)
      have h4 := only_grow (putRowK encT 4 (Go.Sort.ahead w m) g 0 (msortT ts).toArray) 0 0 os
      exact BK.only (lo := 0) (hi := 0) h3 h4 (.inr (Nat.zero_le _))
    rw [he]
    exact OT.ofBlock h1 hb (msortT_len ts).symm hnc hm (by rw [put_size]; exact hsz) (by rw [put_take hF (by rw [hsz]; omega), flat_tcells])
  · exact ((only_ahead w g (g + 1) m).trans (only_put _ _ _)).trans (only_grow _ _ _ _)
end Go.Proofs.Ytnjmgmdpkogocaa

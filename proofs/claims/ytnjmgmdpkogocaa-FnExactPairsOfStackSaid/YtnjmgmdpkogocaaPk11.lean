/-
  Parts of the proof, in their order: SortFP.
-/
import Derived.Test.YtnjmgmdpkogocaaPk9
import Derived.Test.YtnjmgmdpkogocaaPk1
import Derived.Shelf.SlSortCmp.NoneTotal
/-
  Contracts: slices.SortFunc at pairs of numbers.
-/
namespace Go.Proofs.Ytnjmgmdpkogocaa
open Go Go.RowKit Go.Proofs
set_option linter.unusedVariables false
set_option linter.unusedSimpArgs false

def msortP (ps : List (Int × Int)) : List (Int × Int) := ps.mergeSort fun x y => !ltPb y x
theorem msortP_perm (ps : List (Int × Int)) : (msortP ps).Perm ps := List.mergeSort_perm _ _
theorem msortP_len (ps : List (Int × Int)) : (msortP ps).length = ps.length := (msortP_perm ps).length_eq
theorem msortP_asc {ps : List (Int × Int)} (hn : ps.Nodup) : (msortP ps).Pairwise ltP := by
  have h := List.pairwise_mergeSort (le := fun x y : Int × Int => !ltPb y x) (fun a b c h1 h2 => by
      simp only [Bool.not_eq_true', ltPb, decide_eq_false_iff_not] at *
      omega) (fun a b => by
      rcases ltPb_tri a b with h | h | h
      · rw [ltPb_asymm h]; rfl
      · rw [h, ltPb_self]; rfl
      · rw [ltPb_asymm h]; simp) ps
  have hd : (msortP ps).Nodup := (msortP_perm ps).nodup_iff.2 hn
  refine (List.pairwise_and_iff.2 ⟨h, hd⟩).imp fun {a b} hab => ?_
  obtain ⟨h1, h2⟩ := hab
  have h1' : ltPb b a = false := by simpa using h1
  rcases ltPb_tri a b with h | h | h
  · exact ltPb_iff.1 h
  · exact absurd h h2
  · rw [h] at h1'; cases h1'
set_option maxHeartbeats 4000000 in
open Go.Sort Go.Shelf in
theorem SortFuncP_any (g n c base : Nat) (ps : List (Int × Int)) (w : World) (hO : OP w base (.slice (some ⟨g, 0, none⟩) n c) ps) (hn : n = ps.length) (hl : n ≤ 1000000) :
    Calls Try.prog 104 #[.slice (some ⟨g, 0, none⟩) n c, .func (.func 105) #[] #[]] w fun e w' => e = .returned (.tuple #[]) ∧ OP w' base (.slice (some ⟨g, 0, none⟩) n c) (msortP ps) ∧ Only g (g + 1) w w' := by
  obtain ⟨cur, hB, hb, hnc, hm, hsz, htk⟩ := OP.block hO hn
  subst hn
  have eg : ∀ args w, (callFunc 105 args).run Try.prog w = .ok (.enter 105 args) w := enters_of Try.func105 (by kernel_rfl) rfl
  have hcon := AnyQ.slices_SortFunc_total sortLaidP 2 Try.isAgg86 Try.sizeOf86 encP encP_len encP_one cfP swoP 105 #[] g 0 c ps.toArray w eg (cmpLaysP _ _ _ _) (holdsP_of hB htk) hB.lt (by simp; omega) totP
  change Calls Try.prog 104 _ _ _ at hcon
  have hsz' : ps.toArray.size = ps.length := by simp
  rw [hsz'] at hcon
  refine hcon.mono ?_
  rintro e w' ⟨rfl, m, os, rfl⟩
  refine ⟨rfl, ?_, ?_⟩
  · have he : (ps.toArray.toList.mergeSort fun x y => !(ltOf cfP) y x) = msortP ps := by
      unfold msortP
      congr 1
      funext x y
      rw [ltOf_cfP]
    have hF : (flatK encP 2 (msortP ps).toArray).size = ps.length * 2 := by simp [msortP_len]
    have h1 : BK (sortWorldK encP 2 w g 0 m (msortP ps).toArray os) g (putCells id 0 (flatK encP 2 (msortP ps).toArray) cur) 86 := by
      have h2 : BK (Go.Sort.ahead w m) g cur 86 := hB
      have h3 := bk_put h2 (flatK encP 2 (msortP ps).toArray)
      have h4 := only_grow (putRowK encP 2 (Go.Sort.ahead w m) g 0 (msortP ps).toArray) 0 0 os
      exact BK.only (lo := 0) (hi := 0) h3 h4 (.inr (Nat.zero_le _))
    rw [he]
    exact OP.ofBlock h1 hb (msortP_len ps).symm hnc hm (by rw [put_size]; exact hsz) (by rw [put_take hF (by rw [hsz]; omega), flat_pcells])
  · exact ((only_ahead w g (g + 1) m).trans (only_put _ _ _)).trans (only_grow _ _ _ _)
end Go.Proofs.Ytnjmgmdpkogocaa

/-
  Parts of the proof, in their order: SortT.
-/
import Derived.Test.YtnjmgmdpkogocaaPk9
import Derived.Test.YtnjmgmdpkogocaaPk3
import Derived.Shelf.SlSortCmp.InsertionK
namespace Go.Proofs.Ytnjmgmdpkogocaa
open Go Go.RowKit Go.Proofs
set_option linter.unusedVariables false
set_option linter.unusedSimpArgs false
set_option maxHeartbeats 1000000 in
set_option maxRecDepth 100000 in
theorem compareG_any (t u : T4) (w : World) :
    Calls Try.prog 110 #[.agg t.arr, .agg u.arr] w fun e w' => e = .returned (.int .i64 (cmpL t.list u.list)) ∧ ∃ q os', w' = Go.Sort.grow (w.drewN q) os' := by
  have hR1 : RI (((w.alloc (.cells t.arr 45)).alloc (.cells u.arr 45)).drew) (some ⟨w.heap.size, 0, none⟩) t.list := by
    have b1 : BK ((w.alloc (.cells t.arr 45)).alloc (.cells u.arr 45)) w.heap.size t.arr 45 := (BK.new _ _ _).alloc _
    exact tile_reads (b1.below (Below.refl _ _).drew b1.lt)
  have hR2 : RI (((w.alloc (.cells t.arr 45)).alloc (.cells u.arr 45)).drew) (some ⟨w.heap.size + 1, 0, none⟩) u.list := by
    have b2 : BK ((w.alloc (.cells t.arr 45)).alloc (.cells u.arr 45)) (w.heap.size + 1) u.arr 45 := by simpa using BK.new (w.alloc (.cells t.arr 45)) u.arr 45
    exact tile_reads (b2.below (Below.refl _ _).drew b2.lt)
  have H1 := Lib.hid hR1; have H2 := Lib.hid hR2; clear hR1 hR2
  go_enter Try.func110, Try.ntmps110
  go_wp2_with fail
  refine wp_region_tail 2 (by kernel_rfl) (by kernel_rfl) ?_
  simp only [List.take_succ_cons, List.take_zero, List.drop_succ_cons, List.drop_zero]
  repeat still_step
  refine wpStill_nil ?_
  go_wp2_with (go_at_call 106; refine (slicesCompare_any _ _ t.list u.list _ _ _ _ _ rfl rfl H1.out H2.out (by simp [T4.list]) (by simp [T4.list])).mono ?_; rintro e w' ⟨rfl, rfl⟩)
  go_ret
  refine ⟨rfl, 1, #[.cells t.arr 45, .cells u.arr 45], ?_⟩
  rw [Go.Sort.alloc_eq_grow, Go.Sort.alloc_eq_grow, Go.Sort.grow_grow]
  rfl
def cfT (t u : T4) : Int := cmpL t.list u.list
open Go.Sort Go.Shelf in
theorem ltOf_cfT (t u : T4) : ltOf cfT t u = ltT t u := by
  unfold ltOf cfT
  by_cases h : ltT t u = true
  · rw [h]; simpa using cmp_lt.2 h
  · have h' : ltT t u = false := by simpa using h
    rw [h']; simpa using fun x => h (cmp_lt.1 x)
open Go.Sort Go.Shelf in
theorem swoT : SWO (ltOf cfT) where
  irrefl x := by rw [ltOf_cfT]; exact ltT_self x
  trans x y z h1 h2 := by rw [ltOf_cfT] at *; exact ltT_trans h1 h2
  ntrans x y z h1 h2 := by
    rw [ltOf_cfT] at *
    rw [← Bool.not_eq_true] at *
    rw [ltT_iff] at *
    omega
open Go.Sort Go.Shelf in
theorem totT (x y : T4) (h1 : ltOf cfT x y = false) (h2 : ltOf cfT y x = false) : x = y := by
  rw [ltOf_cfT] at *
  rcases ltT_tri x y with h | h | h
  · rw [h] at h1; cases h1
  · exact h
  · rw [h] at h2; cases h2
open Go.Sort Go.Shelf in
theorem cmpLaysT (blk off size : Nat) (w : World) : CmpLays Try.prog 110 #[] encT 4 cfT blk off size w := fun _ _ _ _ x y => by
  have h := compareG_any x y
  have ex : ∀ t : T4, (encT t).toArray = t.arr := fun t => by simp [encT]
  rw [ex, ex]
  exact h _
end Go.Proofs.Ytnjmgmdpkogocaa

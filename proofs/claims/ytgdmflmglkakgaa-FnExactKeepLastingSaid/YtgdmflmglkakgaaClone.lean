/-
  Contracts: slices.Clone of tiles.
-/
import Derived.Test.YtgdmflmglkakgaaOwn3
import Derived.Test.YtgdmflmglkakgaaLaw0
import Derived.Lib.SliceRun
import Derived.IntWalk
namespace Go.Proofs.Ytgdmflmglkakgaa
open Go Go.RowKit Go.Proofs
set_option linter.unusedVariables false
set_option linter.unusedSimpArgs false

set_option maxHeartbeats 1000000 in
set_option maxRecDepth 100000 in
theorem CloneT_any (ad : Addr) (ts : List T4) (n c : Nat) (w : World) (hn : n = ts.length) (hA : RT w (some ad) ts) (hl : n ≤ 1000000) :
    Calls Try.prog 49 #[.slice (some ad) n c] w fun e w' => ∃ g c', e = .returned (.slice (some ⟨g, 0, none⟩) n c') ∧ OT w' w.heap.size 63 (.slice (some ⟨g, 0, none⟩) n c') ts ∧ Below w.heap.size w w' := by
  have HA := Lib.hid hA; have HN := Lib.hid hn; clear hA hn
  have hEQ := fun w => Lib.run_eql_slice_nil (P := Try.prog) w 30 63 (some ad) n c 0 0 Try.underlying30
  simp only [Option.isNone_some] at hEQ
  go_enter Try.func49, Try.ntmps49
  go_wp2_with (at_builtin; refine app_tiles w.heap.size rfl (.tmp 5) (.tmp 6) 30 63 rfl Try.underlying30 info63 (.slice (some ⟨w.heap.size, 0, none⟩) 0 0) [] ts rfl rfl HN.out (HA.out.below (new_below w _)) (OT.lit0 w _ _ (Nat.le_refl _)) (by simp) (new_below w _).size (by have := HN.out; simp only [List.length_nil]; omega) ?_; intro g n1 c1 w1 hn1 hO hG _; have HB := Lib.hid (grown_below (new_below w _) hG (fun b hb => (by have := own_lo (OT.lit0 w _ 63 (Nat.le_refl _)) b hb; omega))); have HO := Lib.hid hO; have HN1 := Lib.hid hn1; clear hO hG hn1)
  go_ret
  have h1 : n1 = n := by have := HN1.out; have := HN.out; simp at *; omega
  subst h1
  exact ⟨g, c1, rfl, by simpa using HO.out, HB.out⟩

end Go.Proofs.Ytgdmflmglkakgaa

-- Printed by a program of this session (the kit's print, turned: printpatch.py) out of Lean's print of the translation. Lean checks it.
import Derived.Test.YtenlcakpcbmmdaaQ0
import Derived.Test.YtenlcakpcbmmdaaQImplWithin
namespace Go.Proofs.Ytenlcakpcbmmdaa.Q
open Go.RowKit Go.Proofs.YtenlcakpcbmmdaaW.PrintWords Go.Proofs.YtenlcakpcbmmdaaW.PrintLast Go.Proofs.YtenlcakpcbmmdaaW.PrintMore
attribute [local go_sem] max2_int min2_int max_two min_two max_three min_three max_four min_four   -- for this text's walks alone
set_option linter.unusedVariables false
set_option linter.unusedSimpArgs false

/-! ### impl_CountRows_1: function 62 -/
def impl_CountRows_1.f (a0_0 : Int) : Option (Bool) := (impl_within.f a0_0 1 40).bind fun t193 => (some t193)
set_option maxHeartbeats 8000000 in
set_option maxRecDepth 100000 in
theorem impl_CountRows_1.calls (g0_ : Nat) (a0_0 : Int) (r : Bool) (w : World) (hb0_ : w.heap[g0_]? = some (.cells #[.int .i64 a0_0] 2 (0, 0))) (h : impl_CountRows_1.f a0_0 = some r) :
    Calls Try.prog 62 #[.pointer (some ⟨g0_, 0, none⟩)] w fun e w' => e = .returned (.bool r) ∧ Drawn0 w w' := by
  have BK0 := Aside0.mk hb0_
  clear hb0_
  have H : ((impl_within.f a0_0 1 40).bind fun t193 => (some t193)) = some r := h
  clear h
  replace H := Option.bind_eq_some_iff.mp H
  obtain ⟨t193, A20, H⟩ := H
  replace H : (some t193) = some r := H
  have A2 := Aside0.mk A20
  clear A20
  obtain rfl := Option.some.inj H
  have hcz3_0 : w.cell? ⟨g0_, 0, none⟩ = some (.int .i64 a0_0) := (blk_cell BK0.out 0).trans rfl
  have hfz3_0 := blk_frozen BK0.out 0
  go_enter Try.func62, Try.ntmps62
  go_wp2_with (first | ((with_reducible refine gate_callee (f := 56) rfl ?_); refine goesL_ (some 3) rfl rfl Try.func56 (by kernel_rfl) rfl #[.int .i64 a0_0, .int .i64 1, .int .i64 40] rfl (by (try simp only [List.map_toArray, List.map_cons, List.map_nil]); first | done | rfl | (simp only [List.length_drop, List.length_take]; rfl)) ?_; (with_reducible refine (impl_within.calls a0_0 1 40 t193 _ A2.out).mono ?_); rintro e w' ⟨rfl, ⟨nd, rfl⟩⟩; refine ⟨_, rfl, ?_⟩))
  go_ret
  exact ⟨by first | rfl | (simp; done) | (simp [*]; done), by repeat (first | exact Drawn0.refl _ | apply Drawn0.step)⟩

end Go.Proofs.Ytenlcakpcbmmdaa.Q

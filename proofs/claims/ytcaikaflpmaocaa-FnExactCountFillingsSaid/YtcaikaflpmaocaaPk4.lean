/-
  Parts of the proof, in their order: Law1.
-/
import Derived.Test.YtcaikaflpmaocaaPk2
import Derived.Test.YtcaikaflpmaocaaPk3
namespace Go.Proofs.Ytcaikaflpmaocaa
open Go Go.RowKit Go.Proofs
set_option linter.unusedVariables false
set_option linter.unusedSimpArgs false
theorem info2 : (Try.prog.info? 2).map (fun i => (i.zero, i.size, i.bytes)) = some (some (.int .i64 0), 1, 8) := by kernel_rfl
set_option maxHeartbeats 1000000 in
theorem eqInt64S_any (A A' : Option Addr) (ts us : List Int) (n m c c' : Nat) (w : World) (hn : n = ts.length) (hm : m = us.length) (hA : RI w A ts) (hA' : RI w A' us) (hl : ts.length ≤ 35184372088832) (hl' : us.length ≤ 35184372088832) :
    Calls Try.prog 40 #[.slice A n c, .slice A' m c'] w fun e w' => e = .returned (.bool (decide (ts = us))) ∧ Below w.heap.size w w' := by
  have HA := Lib.hid hA; have HA' := Lib.hid hA'; clear hA hA'
  by_cases hlen : n = m
  · have HL := Lib.hid (show ts.length = us.length by omega); have HN := Lib.hid hn; have HM := Lib.hid hlen
    have h1 : ((n : Int) != m) = false := by simp [hlen]
    have hn0 : n ≤ 35184372088832 := by omega
    clear hlen hn hm
    go_enter Try.func40, Try.ntmps40
    go_wp2
    go_loopw [5] (fun i wr => Below w.heap.size w wr ∧ ∃ k : Nat, k ≤ n ∧ i = .int .i64 k ∧ ∀ j, j < k → ik ts j = ik us j) (fun i _ => n - (intOf i).toNat)
    case atStart => exact ⟨Below.refl _ _, 0, by omega, rfl, fun j h => absurd h (by omega)⟩
    case round =>
      obtain ⟨hB, k, hk, rfl, hall⟩ := hrel
      have hT := HA.out.below hB
      have hT' := HA'.out.below hB
      have HB := Lib.hid hB; have HALL := Lib.hid hall; clear hB hall
      by_cases hlt : k < n
      · obtain ⟨b, o, rfl, hb, h0⟩ := hT k (by have := HN.out; omega)
        obtain ⟨b', o', rfl, hb', h0'⟩ := hT' k (by have := HN.out; have := HL.out; omega)
        have i1 : (k : Int) < n := by omega
        have i2 : (k : Int) < m := by have := HM.out; omega
        clear hT hT'
        by_cases he : ik ts k = ik us k
        · have HE := Lib.hid he; clear he
          have he' : (ik ts k != ik us k) = false := by simp [HE.out]
          go_wp2
          refine wp_region_gro (by kernel_rfl) (by kernel_rfl) ?_
          repeat (first | go_big_quiet_step (fail) | quiet_step (fail))
          refine wpQuiet_nil ?_
          intro w1 hB1
          have HB1 := Lib.hid hB1; clear hB1
          go_wp2
          go_roundw
          case rel => exact ⟨HB.out.trans (HB1.out.mono HB.out.size), k + 1, by omega, by go_num, fun j hj => by
            by_cases e : j = k
            · subst e; exact HE.out
            · exact HALL.out j (by omega)⟩
          case measure => simp [intOf]; omega
        · have HE := Lib.hid he; clear he
          have he' : (ik ts k != ik us k) = true := by simpa using HE.out
          go_wp2
          refine wp_region_gro (by kernel_rfl) (by kernel_rfl) ?_
          repeat (first | go_big_quiet_step (fail) | quiet_step (fail))
          refine wpQuiet_nil ?_
          intro w1 hB1
          have HB1 := Lib.hid hB1; clear hB1
          go_wp2
          go_ret
          exact ⟨ret_bool (by have : ts ≠ us := fun e => HE.out (by rw [e])
                              simp [this]), HB.out.trans (HB1.out.mono HB.out.size)⟩
      · go_wp2
        go_ret
        exact ⟨ret_bool (by have : ts = us := eq_of_ik HL.out fun j hj => HALL.out j (by have := HN.out; omega)
                            simp [this]), HB.out⟩
  · have h1 : ((n : Int) != m) = true := by simp; omega
    have HL := Lib.hid (show ts.length ≠ us.length by omega); clear hlen hn hm
    go_enter Try.func40, Try.ntmps40
    go_wp2
    go_ret
    exact ⟨ret_bool (by have : ts ≠ us := fun e => HL.out (by rw [e])
                        simp [this]), Below.refl _ _⟩
end Go.Proofs.Ytcaikaflpmaocaa

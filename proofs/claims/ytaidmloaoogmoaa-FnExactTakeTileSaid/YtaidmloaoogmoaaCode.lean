/-
  Contracts: the code of a set and of whether numbers are as told.
-/
import Derived.Test.YtaidmloaoogmoaaIsSet2
namespace Go.Proofs.Ytaidmloaoogmoaa
open Go Go.RowKit Go.Proofs
set_option linter.unusedVariables false
set_option linter.unusedSimpArgs false

/-- 1 for what is no set, 2 for what is not as told, else 0 -/
def codeOf (s f : Bool) : Int := if s then if f then 0 else 2 else 1
set_option maxHeartbeats 1000000 in
theorem setCode_any (C : Int) (A : Option Addr) (ts : List T4) (n c : Nat) (g : FuncId) (cap : Array Value) (fb : Bool) (w : World) (hn : n = ts.length) (hA : RT w A ts) (hl : n ≤ 35184372088832)
    (eg : ∀ args w, (callFunc g args).run Try.prog w = .ok (.enter g args) w)
    (hp : isS C ts = true → ∀ W, Below w.heap.size w W → Calls Try.prog g cap W fun e w' => e = .returned (.bool fb) ∧ Below W.heap.size W w') :
    Calls Try.prog 61 #[.agg #[.int .i64 C, .slice A n c], .func (.func g) #[] cap] w fun e w' => e = .returned (.int .i64 (codeOf (isS C ts) fb)) ∧ Below w.heap.size w w' := by
  have HA := Lib.hid hA; have HN := Lib.hid hn; have HP := Lib.hid hp; clear hA hn hp
  cases hs : isS C ts
  · have HS := Lib.hid hs; clear hs
    go_enter Try.func61, Try.ntmps61
    go_wp2_with fail
    refine namec1 ?_
    intro W1 b1 hz hb0
    refine (IsSet_any C A ts n c W1 HN.out (HA.out.below hb0) hl).mono ?_
    rintro e w1 ⟨rfl, hB1⟩
    rw [HS.out]
    have HB := Lib.hid (below_to hb0 hB1); clear hb0 hB1 hz b1
    go_wp2_with fail
    go_ret
    exact ⟨rfl, HB.out⟩
  · have HS := Lib.hid hs; clear hs
    cases fb
    all_goals
      go_enter Try.func61, Try.ntmps61
      go_wp2_with fail
      refine namec1 ?_
      intro W1 b1 hz hb0
      refine (IsSet_any C A ts n c W1 HN.out (HA.out.below hb0) hl).mono ?_
      rintro e w1 ⟨rfl, hB1⟩
      rw [HS.out]
      have HB := Lib.hid (below_to hb0 hB1); clear hb0 hB1 hz b1
      go_wp2_with fail
      have HQ := Lib.hid (HP.out HS.out w1 HB.out)
      try simp only [Array.empty_append, Array.append_empty]
      refine (HQ.out).mono ?_
      rintro e w2 ⟨rfl, hB2⟩
      have HB2 := Lib.hid (below_to HB.out hB2); clear hB2
      go_wp2_with fail
      go_ret
      exact ⟨rfl, HB2.out⟩
end Go.Proofs.Ytaidmloaoogmoaa

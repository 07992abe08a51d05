/-
  Contract: slices.Delete of one tile.
-/
import Derived.Test.YtgdmflmglkakgaaDel
import Derived.Test.YtgdmflmglkakgaaClone
import Derived.Lib.SliceRun
import Derived.IntWalk
namespace Go.Proofs.Ytgdmflmglkakgaa
open Go Go.RowKit Go.Proofs
set_option linter.unusedVariables false
set_option linter.unusedSimpArgs false

theorem isz63 : (Try.prog.info? 63).map (·.size) = some 4 := by kernel_rfl
set_option maxHeartbeats 4000000 in
set_option maxRecDepth 100000 in
theorem DeleteT_any (g N c k base : Nat) (ts : List T4) (w : World) (hn : N + 1 = ts.length) (hO : OT w base 63 (.slice (some ⟨g, 0, none⟩) (N + 1) c) ts) (hk : k < N + 1) (hl : N ≤ 1000000) :
    Calls Try.prog 53 #[.slice (some ⟨g, 0, none⟩) (N + 1) c, .int .i64 k, .int .i64 ((k : Int) + 1)] w fun e w' => e = .returned (.slice (some ⟨g, 0, none⟩) N c) ∧ OT w' base 63 (.slice (some ⟨g, 0, none⟩) N c) (ts.eraseIdx k) ∧ Only g (g + 1) w w' := by
  obtain ⟨cur, hB, hb, hnc, hm, hsz, htk⟩ := OT.block hO hn
  have HB := Lib.hid hB; have HM := Lib.hid hm; have HS := Lib.hid hsz; have HT := Lib.hid htk; have HN := Lib.hid hn
  have hz := Try.zeroValue63
  clear hO hB hm hsz htk hn
  have f1 : ¬ (N + 1 = k) := by omega
  have f2 : ¬ (c = N) := by omega
  have f3 : (k : Int) + 1 ≤ N + 1 := by omega
  have f4 : (k : Int) ≤ (k : Int) + 1 := by omega
  have f5 : ((k : Int) == (k : Int) + 1) = false := by simp; omega
  have f6 : (N : Int) + 1 ≤ c := by omega
  have f7 : (k : Int) + 1 ≤ c := by omega
  have f8 : (k : Int) ≤ c := by omega
  have f9 : (0 : Int) ≤ (k : Int) + 1 := by omega
  go_enter Try.func53, Try.ntmps53
  go_wp2_with fail
  by_cases hck : c = k + 1
  · subst hck
    go_region_held3 (fun w_ => True) (trivial)
      ((refine step_del (n := N + 1) (k := k) rfl (.tmp 22) (.tmp 25) 30 63 rfl Try.underlying30 isz63 rfl rfl (by simp) (by first | rfl | omega) (HB.out.below (Below.refl _ _).drew HB.out.lt) HS.out hnc hk ts HN.out HT.out ?_; intro cur' w1 hB1 hs1 ht1 hk1; have HB1 := Lib.hid hB1; have HS1 := Lib.hid hs1; have HT1 := Lib.hid ht1; have HK1 := Lib.hid ((only_of (Below.refl w.heap.size w).drew g (g + 1)).trans hk1); clear hB1 hs1 ht1 hk1))
    simp only [Nat.add_sub_cancel] at HT1
    obtain ⟨cur2, w2, hcl, hB2, hs2, ht2, hk2⟩ := run_clear4 (P := Try.prog) 30 63 0 Try.underlying30 hz (q := N * 4) (k + 1 - N) HB1.out (by rw [HS1.out]; omega)
    have HB2 := Lib.hid hB2; have HS2 := Lib.hid hs2; have HT2 := Lib.hid ht2; have HK2 := Lib.hid (HK1.out.trans hk2); clear hB2 hs2 ht2 hk2
    go_wp2_with fail
    go_ret
    refine ⟨rfl, OT.ofBlock HB2.out hb (by rw [List.length_eraseIdx_of_lt (by rw [← HN.out]; exact hk), ← HN.out]; rfl) (by omega) HM.out (by rw [HS2.out, HS1.out]) (by rw [HT2.out, HT1.out]), HK2.out⟩
  · skip
    go_region_held3 (fun w_ => True) (trivial)
      ((refine step_del (n := N + 1) (k := k) rfl (.tmp 22) (.tmp 25) 30 63 rfl Try.underlying30 isz63 rfl rfl (by rw [if_neg hck]) (by first | rfl | omega) (HB.out.below (Below.refl _ _).drew HB.out.lt) HS.out hnc hk ts HN.out HT.out ?_; intro cur' w1 hB1 hs1 ht1 hk1; have HB1 := Lib.hid hB1; have HS1 := Lib.hid hs1; have HT1 := Lib.hid ht1; have HK1 := Lib.hid ((only_of (Below.refl w.heap.size w).drew g (g + 1)).trans hk1); clear hB1 hs1 ht1 hk1))
    simp only [Nat.add_sub_cancel] at HT1
    obtain ⟨cur2, w2, hcl, hB2, hs2, ht2, hk2⟩ := run_clear4 (P := Try.prog) 30 63 0 Try.underlying30 hz (q := N * 4) (c - N) HB1.out (by rw [HS1.out]; omega)
    have HB2 := Lib.hid hB2; have HS2 := Lib.hid hs2; have HT2 := Lib.hid ht2; have HK2 := Lib.hid (HK1.out.trans hk2); clear hB2 hs2 ht2 hk2
    go_wp2_with fail
    go_ret
    refine ⟨rfl, OT.ofBlock HB2.out hb (by rw [List.length_eraseIdx_of_lt (by rw [← HN.out]; exact hk), ← HN.out]; rfl) (by omega) HM.out (by rw [HS2.out, HS1.out]) (by rw [HT2.out, HT1.out]), HK2.out⟩
/-! the set without the tile -/
end Go.Proofs.Ytgdmflmglkakgaa

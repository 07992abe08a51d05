/-
  Contracts: a set without one of its tiles.
-/
import Derived.Test.YtaidmloaoogmoaaDel
import Derived.Lib.SliceRun
import Derived.IntWalk
namespace Go.Proofs.Ytaidmloaoogmoaa
open Go Go.RowKit Go.Proofs
set_option linter.unusedVariables false
set_option linter.unusedSimpArgs false

theorem isz67 : (Try.prog.info? 67).map (·.size) = some 4 := by kernel_rfl
def takeR (C : Int) (ts : List T4) (i : Int) : (Int × List T4) × Int :=
  if isS C ts = true then if inB i 0 ((ts.length : Int) - 1) = true then ((C, ts.eraseIdx i.toNat), 0) else ((0, []), 2) else ((0, []), 1)
theorem takeR_len (C : Int) (ts : List T4) (i : Int) : (takeR C ts i).1.2.length ≤ 1048576 := by
  unfold takeR
  split
  · rename_i h
    have := (isS_iff.1 h).2.1
    split
    · have := List.length_eraseIdx_le (l := ts) (i := i.toNat)
      simp only; omega
    · simp
  · simp

set_option maxHeartbeats 1000000 in
set_option maxRecDepth 100000 in
theorem CloneT_any (ad : Addr) (ts : List T4) (n c : Nat) (w : World) (hn : n = ts.length) (hA : RT w (some ad) ts) (hl : n ≤ 1000000) :
    Calls Try.prog 77 #[.slice (some ad) n c] w fun e w' => ∃ g c', e = .returned (.slice (some ⟨g, 0, none⟩) n c') ∧ OT w' w.heap.size 67 (.slice (some ⟨g, 0, none⟩) n c') ts ∧ Below w.heap.size w w' := by
  have HA := Lib.hid hA; have HN := Lib.hid hn; clear hA hn
  have hEQ := fun w => Lib.run_eql_slice_nil (P := Try.prog) w 28 67 (some ad) n c 0 0 Try.underlying28
  simp only [Option.isNone_some] at hEQ
  go_enter Try.func77, Try.ntmps77
  go_wp2_with (at_builtin; refine app_tiles w.heap.size rfl (.tmp 5) (.tmp 6) 28 67 rfl Try.underlying28 info67 (.slice (some ⟨w.heap.size, 0, none⟩) 0 0) [] ts rfl rfl HN.out (HA.out.below (new_below w _)) (OT.lit0 w _ _ (Nat.le_refl _)) (by simp) (new_below w _).size (by have := HN.out; simp only [List.length_nil]; omega) ?_; intro g n1 c1 w1 hn1 hO hG _; have HB := Lib.hid (grown_below (new_below w _) hG (fun b hb => (by have := own_lo (OT.lit0 w _ 67 (Nat.le_refl _)) b hb; omega))); have HO := Lib.hid hO; have HN1 := Lib.hid hn1; clear hO hG hn1)
  go_ret
  have h1 : n1 = n := by have := HN1.out; have := HN.out; simp at *; omega
  subst h1
  exact ⟨g, c1, rfl, by simpa using HO.out, HB.out⟩

set_option maxHeartbeats 4000000 in
set_option maxRecDepth 100000 in
theorem DeleteT_any (g N c k base : Nat) (ts : List T4) (w : World) (hn : N + 1 = ts.length) (hO : OT w base 67 (.slice (some ⟨g, 0, none⟩) (N + 1) c) ts) (hk : k < N + 1) (hl : N ≤ 1000000) :
    Calls Try.prog 76 #[.slice (some ⟨g, 0, none⟩) (N + 1) c, .int .i64 k, .int .i64 ((k : Int) + 1)] w fun e w' => e = .returned (.slice (some ⟨g, 0, none⟩) N c) ∧ OT w' base 67 (.slice (some ⟨g, 0, none⟩) N c) (ts.eraseIdx k) ∧ Only g (g + 1) w w' := by
  obtain ⟨cur, hB, hb, hnc, hm, hsz, htk⟩ := OT.block hO hn
  have HB := Lib.hid hB; have HM := Lib.hid hm; have HS := Lib.hid hsz; have HT := Lib.hid htk; have HN := Lib.hid hn
  have hz := Try.zeroValue67
  clear hO hB hm hsz htk hn
  have f1 : ¬ (N + 1 = k) := by omega
  have f2 : ¬ (c = N) := by omega
  have f3 : (k : Int) + 1 ≤ N + 1 := by omega
  have f4 : (k : Int) ≤ (k : Int) + 1 := by omega
  have f5 : ((k : Int) == (k : Int) + 1) = false := by simp; omega
  have f6 : (N : Int) + 1 ≤ c := by omega
  have f7 : (k : Int) + 1 ≤ c := by omega
  have f8 : (k : Int) ≤ c := by omega
  have f9 : (0 : Int) ≤ (k : Int) + 1 := by omega
  go_enter Try.func76, Try.ntmps76
  go_wp2_with fail
  by_cases hck : c = k + 1
  · subst hck
    go_region_held3 (fun w_ => True) (trivial)
      ((refine step_del (n := N + 1) (k := k) rfl (.tmp 22) (.tmp 25) 28 67 rfl Try.underlying28 isz67 rfl rfl (by simp) (by first | rfl | omega) (HB.out.below (Below.refl _ _).drew HB.out.lt) HS.out hnc hk ts HN.out HT.out ?_; intro cur' w1 hB1 hs1 ht1 hk1; have HB1 := Lib.hid hB1; have HS1 := Lib.hid hs1; have HT1 := Lib.hid ht1; have HK1 := Lib.hid ((only_of (Below.refl w.heap.size w).drew g (g + 1)).trans hk1); clear hB1 hs1 ht1 hk1))
    simp only [Nat.add_sub_cancel] at HT1
    obtain ⟨cur2, w2, hcl, hB2, hs2, ht2, hk2⟩ := run_clear4 (P := Try.prog) 28 67 0 Try.underlying28 hz (q := N * 4) (k + 1 - N) HB1.out (by rw [HS1.out]; omega)
    have HB2 := Lib.hid hB2; have HS2 := Lib.hid hs2; have HT2 := Lib.hid ht2; have HK2 := Lib.hid (HK1.out.trans hk2); clear hB2 hs2 ht2 hk2
    go_wp2_with fail
    go_ret
    refine ⟨rfl, OT.ofBlock HB2.out hb (by rw [List.length_eraseIdx_of_lt (by rw [← HN.out]; exact hk), ← HN.out]; rfl) (by omega) HM.out (by rw [HS2.out, HS1.out]) (by rw [HT2.out, HT1.out]), HK2.out⟩
  · skip
    go_region_held3 (fun w_ => True) (trivial)
      ((refine step_del (n := N + 1) (k := k) rfl (.tmp 22) (.tmp 25) 28 67 rfl Try.underlying28 isz67 rfl rfl (by rw [if_neg hck]) (by first | rfl | omega) (HB.out.below (Below.refl _ _).drew HB.out.lt) HS.out hnc hk ts HN.out HT.out ?_; intro cur' w1 hB1 hs1 ht1 hk1; have HB1 := Lib.hid hB1; have HS1 := Lib.hid hs1; have HT1 := Lib.hid ht1; have HK1 := Lib.hid ((only_of (Below.refl w.heap.size w).drew g (g + 1)).trans hk1); clear hB1 hs1 ht1 hk1))
    simp only [Nat.add_sub_cancel] at HT1
    obtain ⟨cur2, w2, hcl, hB2, hs2, ht2, hk2⟩ := run_clear4 (P := Try.prog) 28 67 0 Try.underlying28 hz (q := N * 4) (c - N) HB1.out (by rw [HS1.out]; omega)
    have HB2 := Lib.hid hB2; have HS2 := Lib.hid hs2; have HT2 := Lib.hid ht2; have HK2 := Lib.hid (HK1.out.trans hk2); clear hB2 hs2 ht2 hk2
    go_wp2_with fail
    go_ret
    refine ⟨rfl, OT.ofBlock HB2.out hb (by rw [List.length_eraseIdx_of_lt (by rw [← HN.out]; exact hk), ← HN.out]; rfl) (by omega) HM.out (by rw [HS2.out, HS1.out]) (by rw [HT2.out, HT1.out]), HK2.out⟩
/-! the set without the tile -/
set_option maxHeartbeats 4000000 in
set_option maxRecDepth 100000 in
theorem l01Without_any (C : Int) (A : Option Addr) (ts : List T4) (n c m : Nat) (w : World) (hn : n = ts.length) (hA : RT w A ts) (hnc : n ≤ c) (hm : m < n) (h16 : n ≤ 16) :
    Calls Try.prog 74 #[.agg #[.int .i64 C, .slice A n c], .int .i64 m] w fun e w' => ∃ g ln c', e = .returned (.agg #[.int .i64 C, .slice (some ⟨g, 0, none⟩) ln c']) ∧ ln = (ts.eraseIdx m).length ∧ OW w' w.heap.size w'.heap.size 67 4 (.slice (some ⟨g, 0, none⟩) ln c') ln (tcells (ts.eraseIdx m)) ∧ Below w.heap.size w w' := by
  obtain ⟨b, o, hAt, -, -⟩ := hA.cellj (k := m) (by omega)
  subst hAt
  have HA := Lib.hid hA; have HN := Lib.hid hn; clear hA hn
  have i0 : (0 : Int) ≤ (m : Int) := by omega
  have i8 : (m : Int) ≤ (m : Int) + 1 := by omega
  have i1 : (m : Int) ≤ n := by omega
  have i2 : (m : Int) ≤ c := by omega
  have i3 : (m : Int) + 1 ≤ n := by omega
  have i4 : (m : Int) + 1 ≤ c := by omega
  have i5 : (0 : Int) ≤ (m : Int) + 1 := by omega
  have i6 : IntKind.i64.wrap ((m : Int) + 1) = (m : Int) + 1 := IntWalk.i64_in _ (by omega)
  have i7 : ((m : Int) + 1).toNat = m + 1 := by omega
  by_cases hck : c = m + 1
  · go_enter Try.func74, Try.ntmps74
    go_wp2_with fail
    subst hck
    refine name2 ?_
    intro W3 b1 b2 hz3 hB3
    have HB3 := Lib.hid hB3; have HZ := Lib.hid hz3; clear hB3 hz3
    have RD := Lib.hid (by intro q hq; rw [List.length_drop, ← HN.out] at hq; omega : RT w (some ⟨b, o, none⟩) (ts.drop (m + 1)))
    have hV := new_drew W3 #[] 67
    have hW := (Below.refl W3.heap.size W3).drew
    have HD := Lib.hid (below_to HB3.out hW)
    have HV := Lib.hid (below_to HB3.out hV.2.1)
    have v1 := hV.1
    have V3 := Lib.hid hV.2.2
    have e1 := Lib.hid (show W3.heap.size ≤ (W3.alloc (.cells #[] 67)).drew.heap.size by rw [V3.out]; omega)
    have e2 := Lib.hid (show w.heap.size + 2 ≤ W3.heap.size by have := HZ.out; omega)
    have q1 := b1.below hV.2.1 b1.lt; have q2 := b2.below hV.2.1 b2.lt
    go_region_held3 (fun w_ => w_.cell? ⟨w.heap.size, 0, none⟩ = some (.int .i64 C) ∧ w_.cell? ⟨w.heap.size, 1, none⟩ = some (.slice (some ⟨b, o, none⟩) n (m + 1)))
      (first | exact ⟨((Y1.set_ne (by omega) 0 _).set_ne (by omega) 1 _).cell rfl, ((Y1.set_ne (by omega) 0 _).set_ne (by omega) 1 _).cell rfl⟩ | exact ⟨Y1.cell rfl, Y1.cell rfl⟩ | exact ⟨X1.cell rfl, X1.cell rfl⟩ | exact ⟨q1.cell rfl, q1.cell rfl⟩ | exact ⟨(b1.below hW b1.lt).cell rfl, (b1.below hW b1.lt).cell rfl⟩ | fail)
      (first
        | (have h_ := X1; refine step_tiles W3.heap.size rfl (.tmp 12) (.tmp 17) 28 67 rfl Try.underlying28 info67 (.slice (some ⟨g7, 0, none⟩) n7 c7) ([] ++ ts.take m) (ts.drop (m + 1)) rfl rfl (by have := HN.out; simp only [List.length_drop]; omega) (RD.out.below HX.out) O7.out (by simp) (by have := e1.out; omega) (by have := HN.out; simp only [List.length_append, List.length_take, List.length_drop, List.length_nil]; omega) ?_; intro g8 n8 c8 w8 hn8 hO8 hG8 _; have N8 := Lib.hid hn8; have O8 := Lib.hid hO8; have HY := Lib.hid (grown_below HX.out hG8 fun b hb => (by have := own_lo O7.out b hb; have := e2.out; omega)); have Y1 := X1.below_own hG8 O7.out (by have := e2.out; omega); have Y2 := X2.below_own hG8 O7.out (by have := e2.out; omega); have y0 := Y2.cell (k := 0) (v := .int .i64 0) rfl; have y1 := Y2.cell (k := 1) (v := .slice none 0 0) rfl; have z0 := Y2.frozen 0; have z1 := Y2.frozen 1; have y2 := Y2.lt; clear h_ hn8 hO8 hG8)
        | (refine step_tiles W3.heap.size rfl (.tmp 7) (.tmp 11) 28 67 rfl Try.underlying28 info67 (.slice (some ⟨W3.heap.size, 0, none⟩) 0 0) [] (ts.take m) rfl rfl (by have := HN.out; simp only [List.length_take]; omega) ((HA.out.take m).below HV.out) (OT.empty v1 (Nat.le_refl _)) (by simp) e1.out (by have := HN.out; simp only [List.length_take, List.length_nil]; omega) ?_; intro g7 n7 c7 w7 hn7 hO7 hG7 _; have N7 := Lib.hid hn7; have O7 := Lib.hid hO7; have HX := Lib.hid (grown_below HV.out hG7 fun b hb => (by have := own_lo (OT.empty v1 (Nat.le_refl _)) b hb; have := e2.out; omega)); have X1 := q1.below_own hG7 (OT.empty (base := W3.heap.size) v1 (Nat.le_refl _)) (by have := e2.out; omega); have X2 := q2.below_own hG7 (OT.empty (base := W3.heap.size) v1 (Nat.le_refl _)) (by have := e2.out; omega); have x7 := hG7.size; clear hn7 hO7 hG7))
    go_wp2_with fail
    have hbk : BK ((w8.setCell ⟨w.heap.size + 1, 0, none⟩ (.int .i64 C)).setCell ⟨w.heap.size + 1, 1, none⟩ (.slice (some ⟨g8, 0, none⟩) n8 c8)) (w.heap.size + 1) #[.int .i64 C, .slice (some ⟨g8, 0, none⟩) n8 c8] 30 := (Y2.set 0 _).set 1 _
    ((try simp only [Exit.inBlock, Exit.then]); refine bodyPost_ret (results_cell_row rfl _ _ _ _ _ _ _ rfl hbk Try.underlying30 rfl isz30) rfl ?_)
    have hK : Only (w.heap.size + 1) (w.heap.size + 2) w8 ((w8.setCell ⟨w.heap.size + 1, 0, none⟩ (.int .i64 C)).setCell ⟨w.heap.size + 1, 1, none⟩ (.slice (some ⟨g8, 0, none⟩) n8 c8)) :=
      ((Only.refl _ _ _).setCell (Nat.le_refl _) (by omega) _ _).setCell (Nat.le_refl _) (by omega) _ _
    have he : [] ++ ts.take m ++ ts.drop (m + 1) = ts.eraseIdx m := by rw [List.eraseIdx_eq_take_drop_succ, List.nil_append]
    have hq : OW w8 W3.heap.size w8.heap.size 67 4 (.slice (some ⟨g8, 0, none⟩) n8 c8) n8 (tcells (ts.eraseIdx m)) := by
      have h := O8.out
      unfold OT at h
      rw [← N8.out, he] at h
      exact OW.of h
    have z2 := e2.out
    have hO2 := hq.only hK (.inr (by omega))
    exact ⟨g8, n8, c8, rfl, by rw [N8.out, he], ⟨own_base hO2.own (by omega), fun b hb => Nat.lt_of_lt_of_le (hO2.up b hb) hK.size, Nat.le_refl _⟩, below_only HY.out hK (by omega)⟩
  · go_enter Try.func74, Try.ntmps74
    go_wp2_with fail
    refine name2 ?_
    intro W3 b1 b2 hz3 hB3
    have HB3 := Lib.hid hB3; have HZ := Lib.hid hz3; clear hB3 hz3
    have RD := Lib.hid ((HA.out.drop (m + 1)) : RT w (some ⟨b, o + (m + 1) * 4, none⟩) (ts.drop (m + 1)))
    have hV := new_drew W3 #[] 67
    have hW := (Below.refl W3.heap.size W3).drew
    have HD := Lib.hid (below_to HB3.out hW)
    have HV := Lib.hid (below_to HB3.out hV.2.1)
    have v1 := hV.1
    have V3 := Lib.hid hV.2.2
    have e1 := Lib.hid (show W3.heap.size ≤ (W3.alloc (.cells #[] 67)).drew.heap.size by rw [V3.out]; omega)
    have e2 := Lib.hid (show w.heap.size + 2 ≤ W3.heap.size by have := HZ.out; omega)
    have q1 := b1.below hV.2.1 b1.lt; have q2 := b2.below hV.2.1 b2.lt
    go_region_held3 (fun w_ => w_.cell? ⟨w.heap.size, 0, none⟩ = some (.int .i64 C) ∧ w_.cell? ⟨w.heap.size, 1, none⟩ = some (.slice (some ⟨b, o, none⟩) n c))
      (first | exact ⟨((Y1.set_ne (by omega) 0 _).set_ne (by omega) 1 _).cell rfl, ((Y1.set_ne (by omega) 0 _).set_ne (by omega) 1 _).cell rfl⟩ | exact ⟨Y1.cell rfl, Y1.cell rfl⟩ | exact ⟨X1.cell rfl, X1.cell rfl⟩ | exact ⟨q1.cell rfl, q1.cell rfl⟩ | exact ⟨(b1.below hW b1.lt).cell rfl, (b1.below hW b1.lt).cell rfl⟩ | fail)
      (first
        | (have h_ := X1; refine step_tiles W3.heap.size rfl (.tmp 12) (.tmp 17) 28 67 rfl Try.underlying28 info67 (.slice (some ⟨g7, 0, none⟩) n7 c7) ([] ++ ts.take m) (ts.drop (m + 1)) rfl rfl (by have := HN.out; simp only [List.length_drop]; omega) (RD.out.below HX.out) O7.out (by simp) (by have := e1.out; omega) (by have := HN.out; simp only [List.length_append, List.length_take, List.length_drop, List.length_nil]; omega) ?_; intro g8 n8 c8 w8 hn8 hO8 hG8 _; have N8 := Lib.hid hn8; have O8 := Lib.hid hO8; have HY := Lib.hid (grown_below HX.out hG8 fun b hb => (by have := own_lo O7.out b hb; have := e2.out; omega)); have Y1 := X1.below_own hG8 O7.out (by have := e2.out; omega); have Y2 := X2.below_own hG8 O7.out (by have := e2.out; omega); have y0 := Y2.cell (k := 0) (v := .int .i64 0) rfl; have y1 := Y2.cell (k := 1) (v := .slice none 0 0) rfl; have z0 := Y2.frozen 0; have z1 := Y2.frozen 1; have y2 := Y2.lt; clear h_ hn8 hO8 hG8)
        | (refine step_tiles W3.heap.size rfl (.tmp 7) (.tmp 11) 28 67 rfl Try.underlying28 info67 (.slice (some ⟨W3.heap.size, 0, none⟩) 0 0) [] (ts.take m) rfl rfl (by have := HN.out; simp only [List.length_take]; omega) ((HA.out.take m).below HV.out) (OT.empty v1 (Nat.le_refl _)) (by simp) e1.out (by have := HN.out; simp only [List.length_take, List.length_nil]; omega) ?_; intro g7 n7 c7 w7 hn7 hO7 hG7 _; have N7 := Lib.hid hn7; have O7 := Lib.hid hO7; have HX := Lib.hid (grown_below HV.out hG7 fun b hb => (by have := own_lo (OT.empty v1 (Nat.le_refl _)) b hb; have := e2.out; omega)); have X1 := q1.below_own hG7 (OT.empty (base := W3.heap.size) v1 (Nat.le_refl _)) (by have := e2.out; omega); have X2 := q2.below_own hG7 (OT.empty (base := W3.heap.size) v1 (Nat.le_refl _)) (by have := e2.out; omega); have x7 := hG7.size; clear hn7 hO7 hG7))
    go_wp2_with fail
    have hbk : BK ((w8.setCell ⟨w.heap.size + 1, 0, none⟩ (.int .i64 C)).setCell ⟨w.heap.size + 1, 1, none⟩ (.slice (some ⟨g8, 0, none⟩) n8 c8)) (w.heap.size + 1) #[.int .i64 C, .slice (some ⟨g8, 0, none⟩) n8 c8] 30 := (Y2.set 0 _).set 1 _
    ((try simp only [Exit.inBlock, Exit.then]); refine bodyPost_ret (results_cell_row rfl _ _ _ _ _ _ _ rfl hbk Try.underlying30 rfl isz30) rfl ?_)
    have hK : Only (w.heap.size + 1) (w.heap.size + 2) w8 ((w8.setCell ⟨w.heap.size + 1, 0, none⟩ (.int .i64 C)).setCell ⟨w.heap.size + 1, 1, none⟩ (.slice (some ⟨g8, 0, none⟩) n8 c8)) :=
      ((Only.refl _ _ _).setCell (Nat.le_refl _) (by omega) _ _).setCell (Nat.le_refl _) (by omega) _ _
    have he : [] ++ ts.take m ++ ts.drop (m + 1) = ts.eraseIdx m := by rw [List.eraseIdx_eq_take_drop_succ, List.nil_append]
    have hq : OW w8 W3.heap.size w8.heap.size 67 4 (.slice (some ⟨g8, 0, none⟩) n8 c8) n8 (tcells (ts.eraseIdx m)) := by
      have h := O8.out
      unfold OT at h
      rw [← N8.out, he] at h
      exact OW.of h
    have z2 := e2.out
    have hO2 := hq.only hK (.inr (by omega))
    exact ⟨g8, n8, c8, rfl, by rw [N8.out, he], ⟨own_base hO2.own (by omega), fun b hb => Nat.lt_of_lt_of_le (hO2.up b hb) hK.size, Nat.le_refl _⟩, below_only HY.out hK (by omega)⟩
end Go.Proofs.Ytaidmloaoogmoaa

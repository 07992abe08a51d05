/-
  Contracts: tiles and sets in the program.
-/
import Derived.Test.YtbcnddeelefomaaDoorIsSet
namespace Go.Proofs.YtbcnddeelefomaaDoor
open Go Go.RowKit Go.Proofs
set_option linter.unusedVariables false
set_option linter.unusedSimpArgs false

set_option maxHeartbeats 1000000 in
theorem IndexFuncI_any (A : Option Addr) (xs : List Int) (n c : Nat) (g : FuncId) (cap : Array Value) (p : Int → Bool) (w : World) (hn : n = xs.length) (hA : RI w A xs) (hl : n ≤ 35184372088832)
    (eg : ∀ args w, (callFunc g args).run Tryd.prog w = .ok (.enter g args) w) (hp : PredI Tryd.prog g cap p w) :
    Calls Tryd.prog 58 #[.slice A n c, .func (.func g) #[] cap] w fun e w' => e = .returned (.int .i64 (idxL p xs)) ∧ Below w.heap.size w w' := by
  have HA := Lib.hid hA; have HN := Lib.hid hn; have HP := Lib.hid hp; clear hA hn hp
  go_enter Tryd.func58, Tryd.ntmps58
  go_wp2_with fail
  go_loopw [8] (fun i wr => Below w.heap.size w wr ∧ ∃ k : Nat, k ≤ n ∧ i = .int .i64 k ∧ ∀ j (hj : j < xs.length), j < k → p xs[j] = false) (fun i _ => n - (intOf i).toNat)
  case atStart => exact ⟨Below.refl _ _, 0, by omega, rfl, fun j _ h => absurd h (by omega)⟩
  case round =>
    obtain ⟨hB, k, hk, rfl, hall⟩ := hrel
    have hT := HA.out.below hB
    have HB := Lib.hid hB; have HALL := Lib.hid hall; clear hB hall
    by_cases hlt : k < n
    · have i1 : (k : Int) < n := by omega
      have HK := Lib.hid (show k < xs.length by have := HN.out; omega)
      obtain ⟨b, o, rfl, hb, h0⟩ := hT k HK.out
      clear hT
      cases hpk : p (ik xs k)
      · have HX := Lib.hid hpk; clear hpk
        go_wp2_with fail
        refine (HP.out wr (ik xs k) HB.out).mono ?_
        rintro e w1 ⟨rfl, hB1⟩
        rw [HX.out]
        have HB1 := Lib.hid hB1; clear hB1
        go_wp2_with fail
        go_roundw
        case rel => exact ⟨below_to HB.out HB1.out, k + 1, by omega, by go_num, fun j hj hj' => by
            by_cases e : j = k
            · subst e; rw [ik_get]; exact HX.out
            · exact HALL.out j hj (by omega)⟩
        case measure => simp [intOf]; omega
      · have HX := Lib.hid hpk; clear hpk
        go_wp2_with fail
        refine (HP.out wr (ik xs k) HB.out).mono ?_
        rintro e w1 ⟨rfl, hB1⟩
        rw [HX.out]
        have HB1 := Lib.hid hB1; clear hB1
        go_wp2_with fail
        go_ret
        exact ⟨ret_int (idxL_at HK.out HALL.out (by rw [ik_get]; exact HX.out)), below_to HB.out HB1.out⟩
    · go_wp2_with fail
      go_ret
      exact ⟨ret_int (idxL_none fun j hj => HALL.out j hj (by have := HN.out; omega)), HB.out⟩

set_option maxHeartbeats 1000000 in
theorem ContainsFuncI_any (A : Option Addr) (xs : List Int) (n c : Nat) (g : FuncId) (cap : Array Value) (p : Int → Bool) (w : World) (hn : n = xs.length) (hA : RI w A xs) (hl : n ≤ 35184372088832)
    (eg : ∀ args w, (callFunc g args).run Tryd.prog w = .ok (.enter g args) w) (hp : PredI Tryd.prog g cap p w) :
    Calls Tryd.prog 47 #[.slice A n c, .func (.func g) #[] cap] w fun e w' => e = .returned (.bool (xs.any p)) ∧ Below w.heap.size w w' := by
  have EG := Lib.hid eg; clear eg
  have HA := Lib.hid hA; have HN := Lib.hid hn; have HP := Lib.hid hp; clear hA hn hp
  go_enter Tryd.func47, Tryd.ntmps47
  go_wp2_with fail
  refine (IndexFuncI_any A xs n c g cap p w HN.out HA.out hl EG.out HP.out).mono ?_
  rintro e w1 ⟨rfl, hB1⟩
  have HB1 := Lib.hid hB1; clear hB1
  go_wp2_with fail
  go_ret
  exact ⟨ret_bool idxL_any, HB1.out⟩
theorem any_tile {t : T4} {hi : Int} : (!t.list.any fun x => !inB x 0 hi) = tileB t hi := by
  simp [T4.list, tileB, Bool.not_or, Bool.and_assoc]
theorem isTile_any (t : T4) (c : Int) (w : World) :
    Calls Tryd.prog 35 #[.agg t.arr, .int .i64 c] w fun e w' => e = .returned (.bool (tileB t (wrap64 (c-1)))) ∧ Below w.heap.size w w' := by
  go_enter Tryd.func35, Tryd.ntmps35
  go_wp2_with fail
  refine namec2 ?_
  intro W1 b1 b2 hz hb0
  refine (ContainsFuncI_any _ t.list 4 4 48 #[.pointer (some ⟨w.heap.size + 1, 0, none⟩)] (fun x => !inB x 0 (wrap64 (c - 1))) W1 rfl (tile_reads b1) (by omega) (enters_of Tryd.func48 (by kernel_rfl) rfl) ?_).mono ?_
  · intro W x hW
    refine (isTile1_any x c _ W (cell_to hW (b2.cell rfl))).mono ?_
    rintro e w' ⟨rfl, rfl⟩
    exact ⟨rfl, Below.refl _ _⟩
  rintro e w1 ⟨rfl, hB1⟩
  have HB0 := Lib.hid hb0; have HB1 := Lib.hid hB1; clear hb0 hB1 hz b1 b2
  go_wp2_with fail
  go_ret
  exact ⟨ret_bool any_tile, below_to HB0.out HB1.out⟩
theorem wrap_m1 (c : Int) (h : inB c 1 6 = true) : wrap64 (c - 1) = c - 1 := by
  obtain ⟨h1, h2⟩ := inB_iff.1 h
  unfold wrap64; omega
/-- what the loop of the program's IsSet has found fine, for any number of colours -/
def OkW (c : Int) (ts : List T4) (k : Nat) : Prop := ∀ j, j < k → tileB (tk ts j) (wrap64 (c - 1)) = true ∧ (0 < j → ltT (tk ts (j - 1)) (tk ts j) = true)
theorem isS_notOk {c : Int} {ts : List T4} {k : Nat} (hk : k < ts.length) (h : tileB (tk ts k) (wrap64 (c - 1)) = false ∨ (0 < k ∧ ltT (tk ts (k - 1)) (tk ts k) = false)) : isS c ts = false := by
  by_cases hc : inB c 1 6 = true
  · refine isS_ok fun ho => ?_
    obtain ⟨h1, h2⟩ := ho k hk
    rw [wrap_m1 c hc] at h
    rcases h with h | ⟨h0, h⟩
    · rw [h] at h1; cases h1
    · rw [h2 h0] at h; cases h
  · exact isS_c (by simpa using hc)
theorem isS_end {c : Int} {ts : List T4} (h : OkW c ts ts.length) : (inB c 1 6 && decide (ts.length ≤ 16)) = isS c ts := by
  by_cases hc : inB c 1 6 = true
  · have : okB c ts = true := (okB_iff c ts).2 fun k hk => by have := h k hk; rwa [wrap_m1 c hc] at this
    simp [isS, this]
  · simp [isS, hc]
set_option maxHeartbeats 2000000 in
theorem IsSet_any (C : Int) (A : Option Addr) (ts : List T4) (n c : Nat) (w : World) (hn : n = ts.length) (hA : RT w A ts) (hl : n ≤ 35184372088832) :
    Calls Tryd.prog 21 #[.agg #[.int .i64 C, .slice A n c]] w fun e w' => e = .returned (.bool (isS C ts)) ∧ Below w.heap.size w w' := by
  have HA := Lib.hid hA; have HN := Lib.hid hn; clear hA hn
  go_enter Tryd.func21, Tryd.ntmps21
  go_wp2_with fail
  refine name1 ?_
  intro W1 b1 hz hb0
  have HB0 := Lib.hid hb0; have HZ := Lib.hid hz; clear hb0 hz
  go_loopw [8] (fun i wr => Below W1.heap.size W1 wr ∧ ∃ k : Nat, k ≤ n ∧ i = .int .i64 k ∧ OkW C ts k) (fun i _ => n - (intOf i).toNat)
  case atStart => exact ⟨Below.refl _ _, 0, by omega, rfl, fun j h => absurd h (by omega)⟩
  case round =>
    obtain ⟨hB, k, hk, rfl, hall⟩ := hrel
    have b1' := b1.below hB b1.lt
    have HE := Lib.hid (below_to HB0.out hB)
    have hT := HA.out.below HE.out
    have HB := Lib.hid hB; have HALL := Lib.hid hall; clear hB hall
    have a0 : wr.cell? ⟨w.heap.size, 0, none⟩ = some (.int .i64 C) := b1'.cell rfl
    have a1 : wr.cell? ⟨w.heap.size, 1, none⟩ = some (.slice A n c) := b1'.cell rfl
    have l1 := b1'.lt
    by_cases hlt : k < n
    · have i1 : (k : Int) < n := by omega
      have HK := Lib.hid (show k < ts.length by have := HN.out; omega)
      cases ht : tileB (tk ts k) (wrap64 (C - 1))
      · have HT := Lib.hid ht; clear ht
        obtain ⟨b, o, hA', hb, h0, h1, h2, h3⟩ := hT k HK.out
        subst hA'
        clear hT
        go_wp2_with fail
        refine name1 ?_
        intro W2 b2 hz2 hb2
        have A0 := cell_to hb2 a0; have A1 := cell_to hb2 a1; have L1 := lt_to hb2 l1; have L2 := lt_to hb2 hb
        have H0 := cell_to hb2 h0; have H1 := cell_to hb2 h1; have H2 := cell_to hb2 h2; have H3 := cell_to hb2 h3
        have c0 : W2.cell? ⟨wr.heap.size, 0, none⟩ = some (.int .i64 ((tk ts k).get 0)) := b2.cell rfl
        have c1 : W2.cell? ⟨wr.heap.size, 1, none⟩ = some (.int .i64 ((tk ts k).get 1)) := b2.cell rfl
        have c2 : W2.cell? ⟨wr.heap.size, 2, none⟩ = some (.int .i64 ((tk ts k).get 2)) := b2.cell rfl
        have c3 : W2.cell? ⟨wr.heap.size, 3, none⟩ = some (.int .i64 ((tk ts k).get 3)) := b2.cell rfl
        have L3 := b2.lt
        have HE2 := Lib.hid (below_to HE.out hb2); have HB2 := Lib.hid (below_to HB.out hb2)
        clear hb2 hz2 b2 a0 a1 l1 h0 h1 h2 h3 hb
        refine wp_region_gro (by kernel_rfl) (by kernel_rfl) ?_
        repeat (first | go_big_quiet_step (((go_at_call 35; exact quiet_call (by have h := isTile_any (tk ts k) C (gro W2 ‹GP›); rw [HT.out] at h; exact h)))) | quiet_step (((go_at_call 35; exact quiet_call (by have h := isTile_any (tk ts k) C (gro W2 ‹GP›); rw [HT.out] at h; exact h)))))
        refine wpQuiet_nil ?_
        intro w1 hB1
        have HB1 := Lib.hid hB1; clear hB1
        go_wp2_with fail
        go_ret
        exact ⟨ret_bool (isS_notOk HK.out (.inl HT.out)).symm, below_to HE2.out HB1.out⟩
      · have HT := Lib.hid ht; clear ht
        cases k with
        | zero =>
          obtain ⟨b, o, hA', hb, h0, h1, h2, h3⟩ := hT 0 HK.out
          simp only [Nat.zero_mul, Nat.add_zero] at h0 h1 h2 h3
          subst hA'
          clear hT
          go_wp2_with fail
          refine name1 ?_
          intro W2 b2 hz2 hb2
          have A0 := cell_to hb2 a0; have A1 := cell_to hb2 a1; have L1 := lt_to hb2 l1; have L2 := lt_to hb2 hb
          have H0 := cell_to hb2 h0; have H1 := cell_to hb2 h1; have H2 := cell_to hb2 h2; have H3 := cell_to hb2 h3
          have c0 : W2.cell? ⟨wr.heap.size, 0, none⟩ = some (.int .i64 ((tk ts 0).get 0)) := b2.cell rfl
          have c1 : W2.cell? ⟨wr.heap.size, 1, none⟩ = some (.int .i64 ((tk ts 0).get 1)) := b2.cell rfl
          have c2 : W2.cell? ⟨wr.heap.size, 2, none⟩ = some (.int .i64 ((tk ts 0).get 2)) := b2.cell rfl
          have c3 : W2.cell? ⟨wr.heap.size, 3, none⟩ = some (.int .i64 ((tk ts 0).get 3)) := b2.cell rfl
          have L3 := b2.lt
          have HE2 := Lib.hid (below_to HE.out hb2); have HB2 := Lib.hid (below_to HB.out hb2)
          clear hb2 hz2 b2 a0 a1 l1 h0 h1 h2 h3 hb
          refine wp_region_gro (by kernel_rfl) (by kernel_rfl) ?_
          repeat (first | go_big_quiet_step (((go_at_call 35; exact quiet_call (by have h := isTile_any (tk ts 0) C (gro W2 ‹GP›); rw [HT.out] at h; exact h)))) | quiet_step (((go_at_call 35; exact quiet_call (by have h := isTile_any (tk ts 0) C (gro W2 ‹GP›); rw [HT.out] at h; exact h)))))
          refine wpQuiet_nil ?_
          intro w1 hB1
          have HB1 := Lib.hid hB1; clear hB1
          go_wp2_with fail
          go_roundw
          case rel => exact ⟨below_to HB2.out HB1.out, 0 + 1, by omega, by go_num, fun j hj => by
              obtain rfl : j = 0 := by omega
              exact ⟨HT.out, fun h => absurd h (by omega)⟩⟩
          case measure => simp [intOf]; omega
        | succ k =>
          obtain ⟨b, o, hA', hb, h0, h1, h2, h3⟩ := hT (k + 1) HK.out
          obtain ⟨b', o', hA'', hb', h0', h1', h2', h3'⟩ := hT k (by have := HK.out; omega)
          subst hA'
          obtain ⟨rfl, rfl⟩ : b = b' ∧ o = o' := by injection hA'' with e; injection e with e1 e2; exact ⟨e1, e2⟩
          clear hT hA'' hb'
          have i0 : (k : Int) < n := by omega
          cases hlT : ltT (tk ts k) (tk ts (k + 1))
          · have HL := Lib.hid hlT
            have hge : 0 ≤ cmpL (tk ts k).list (tk ts (k + 1)).list := by
              have : ¬ cmpL (tk ts k).list (tk ts (k + 1)).list < 0 := fun h => by rw [cmp_lt.1 h] at hlT; cases hlT
              omega
            clear hlT
            go_wp2_with fail
            refine name1 ?_
            intro W2 b2 hz2 hb2
            have A0 := cell_to hb2 a0; have A1 := cell_to hb2 a1; have L1 := lt_to hb2 l1; have L2 := lt_to hb2 hb
            have H0' := cell_to hb2 h0'; have H1' := cell_to hb2 h1'; have H2' := cell_to hb2 h2'; have H3' := cell_to hb2 h3'
            have H0 := cell_to hb2 h0; have H1 := cell_to hb2 h1; have H2 := cell_to hb2 h2; have H3 := cell_to hb2 h3
            have c0 : W2.cell? ⟨wr.heap.size, 0, none⟩ = some (.int .i64 ((tk ts (k + 1)).get 0)) := b2.cell rfl
            have c1 : W2.cell? ⟨wr.heap.size, 1, none⟩ = some (.int .i64 ((tk ts (k + 1)).get 1)) := b2.cell rfl
            have c2 : W2.cell? ⟨wr.heap.size, 2, none⟩ = some (.int .i64 ((tk ts (k + 1)).get 2)) := b2.cell rfl
            have c3 : W2.cell? ⟨wr.heap.size, 3, none⟩ = some (.int .i64 ((tk ts (k + 1)).get 3)) := b2.cell rfl
            have L3 := b2.lt
            have HE2 := Lib.hid (below_to HE.out hb2); have HB2 := Lib.hid (below_to HB.out hb2)
            clear hb2 hz2 b2 a0 a1 l1 h0 h1 h2 h3 hb h0' h1' h2' h3'
            refine wp_region_gro (by kernel_rfl) (by kernel_rfl) ?_
            repeat (first | go_big_quiet_step (((first | (go_at_call 35; exact quiet_call (by have h := isTile_any (tk ts (k + 1)) C (gro W2 ‹GP›); rw [HT.out] at h; exact h)) | (go_at_call 36; exact quiet_call (by have h := compare_any (tk ts k) (tk ts (k + 1)) (gro W2 ‹GP›); exact h))))) | quiet_step (((first | (go_at_call 35; exact quiet_call (by have h := isTile_any (tk ts (k + 1)) C (gro W2 ‹GP›); rw [HT.out] at h; exact h)) | (go_at_call 36; exact quiet_call (by have h := compare_any (tk ts k) (tk ts (k + 1)) (gro W2 ‹GP›); exact h))))))
            refine wpQuiet_nil ?_
            intro w1 hB1
            have HB1 := Lib.hid hB1; clear hB1
            go_wp2_with fail
            go_ret
            exact ⟨ret_bool (isS_notOk HK.out (.inr ⟨by omega, by rw [Nat.add_sub_cancel]; exact HL.out⟩)).symm, below_to HE2.out HB1.out⟩
          · have HL := Lib.hid hlT
            have hge : cmpL (tk ts k).list (tk ts (k + 1)).list < 0 := cmp_lt.2 hlT
            clear hlT
            go_wp2_with fail
            refine name1 ?_
            intro W2 b2 hz2 hb2
            have A0 := cell_to hb2 a0; have A1 := cell_to hb2 a1; have L1 := lt_to hb2 l1; have L2 := lt_to hb2 hb
            have H0' := cell_to hb2 h0'; have H1' := cell_to hb2 h1'; have H2' := cell_to hb2 h2'; have H3' := cell_to hb2 h3'
            have H0 := cell_to hb2 h0; have H1 := cell_to hb2 h1; have H2 := cell_to hb2 h2; have H3 := cell_to hb2 h3
            have c0 : W2.cell? ⟨wr.heap.size, 0, none⟩ = some (.int .i64 ((tk ts (k + 1)).get 0)) := b2.cell rfl
            have c1 : W2.cell? ⟨wr.heap.size, 1, none⟩ = some (.int .i64 ((tk ts (k + 1)).get 1)) := b2.cell rfl
            have c2 : W2.cell? ⟨wr.heap.size, 2, none⟩ = some (.int .i64 ((tk ts (k + 1)).get 2)) := b2.cell rfl
            have c3 : W2.cell? ⟨wr.heap.size, 3, none⟩ = some (.int .i64 ((tk ts (k + 1)).get 3)) := b2.cell rfl
            have L3 := b2.lt
            have HE2 := Lib.hid (below_to HE.out hb2); have HB2 := Lib.hid (below_to HB.out hb2)
            clear hb2 hz2 b2 a0 a1 l1 h0 h1 h2 h3 hb h0' h1' h2' h3'
            refine wp_region_gro (by kernel_rfl) (by kernel_rfl) ?_
            repeat (first | go_big_quiet_step (((first | (go_at_call 35; exact quiet_call (by have h := isTile_any (tk ts (k + 1)) C (gro W2 ‹GP›); rw [HT.out] at h; exact h)) | (go_at_call 36; exact quiet_call (by have h := compare_any (tk ts k) (tk ts (k + 1)) (gro W2 ‹GP›); exact h))))) | quiet_step (((first | (go_at_call 35; exact quiet_call (by have h := isTile_any (tk ts (k + 1)) C (gro W2 ‹GP›); rw [HT.out] at h; exact h)) | (go_at_call 36; exact quiet_call (by have h := compare_any (tk ts k) (tk ts (k + 1)) (gro W2 ‹GP›); exact h))))))
            refine wpQuiet_nil ?_
            intro w1 hB1
            have HB1 := Lib.hid hB1; clear hB1
            go_wp2_with fail
            go_roundw
            case rel => exact ⟨below_to HB2.out HB1.out, k + 1 + 1, by omega, by go_num, fun j hj => by
                by_cases e : j = k + 1
                · subst e; exact ⟨HT.out, fun _ => by rw [Nat.add_sub_cancel]; exact HL.out⟩
                · exact HALL.out j (by omega)⟩
            case measure => simp [intOf]; omega
    · have HK := Lib.hid (show k = ts.length by have := HN.out; omega)
      cases hC : inB C 1 6
      · have HC := Lib.hid hC; clear hC
        go_wp2_with fail
        refine (within_any _ _ _ _).mono ?_
        rintro e w' ⟨rfl, rfl⟩
        rw [HC.out]
        go_wp2_with fail
        go_ret
        exact ⟨ret_bool (isS_c HC.out).symm, HE.out⟩
      · have HC := Lib.hid hC; clear hC
        have HF := Lib.hid (isS_end (c := C) (ts := ts) (by rw [← HK.out]; exact HALL.out))
        by_cases h16 : n ≤ 16
        all_goals
          go_wp2_with fail
          refine (within_any _ _ _ _).mono ?_
          rintro e w' ⟨rfl, rfl⟩
          rw [HC.out]
          go_wp2_with fail
          go_ret
          refine ⟨ret_bool ?_, HE.out⟩
          rw [← HF.out, HC.out, ← HN.out]
          simp; omega
end Go.Proofs.YtbcnddeelefomaaDoor

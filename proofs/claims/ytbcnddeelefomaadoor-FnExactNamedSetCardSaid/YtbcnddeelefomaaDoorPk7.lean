/-
  Parts of the proof, in their order: Law1.
-/
import Derived.Test.YtbcnddeelefomaaDoorPk4
import Derived.Test.YtbcnddeelefomaaDoorPk5
/-
  Contracts of the laws' own helpers: numbers copied, compared; rows marked and looked at again.
-/
namespace Go.Proofs.YtbcnddeelefomaaDoor
open Go Go.RowKit Go.Proofs
set_option linter.unusedVariables false
set_option linter.unusedSimpArgs false


set_option maxHeartbeats 2000000 in
theorem markTileS_any (lo hi : Nat) (v : Value) (n : Nat) (cells : List Value) (k : Int) (w : World) (hO : OW w lo hi 50 4 v n cells) (hk : 0 ≤ k) (hk2 : k ≤ 1000000000000) (hl : n ≤ 35184372088832) :
    Calls Tryd.prog 27 #[v, .int .i64 k] w fun e w' => e = .returned (.int .i64 (k + (n * 4 : Nat))) ∧ OW w' lo hi 50 4 v n (icells (mkI k (n * 4))) ∧ Only lo hi w w' := by
  obtain ⟨A, c, rfl, hf⟩ := hO.form
  have HT := Lib.hid hO.top
  have HF := Lib.hid hf; clear hf hO
  go_enter Tryd.func27, Tryd.ntmps27
  go_wp2
  go_loopw [1, 5, 6] (fun kk i _ wr => Only lo hi w wr ∧ ∃ d : Nat, d ≤ n ∧ i = .int .i64 d ∧ kk = .int .i64 (k + (d * 4 : Nat)) ∧ ((A = none ∧ n = 0 ∧ c = 0) ∨ ∃ g cur, A = some ⟨g, 0, none⟩ ∧ lo ≤ g ∧ g < hi ∧ BK wr g cur 50 ∧ n ≤ c ∧ c ≤ 9223372036854775807 ∧ cur.size = c * 4 ∧ ∀ j, j < d * 4 → cur[j]? = some (.int .i64 (k + (j : Int))))) (fun _ i _ _ => n - (intOf i).toNat)
  case atStart => exact ⟨Only.refl _ _ _, 0, by omega, rfl, by simp, HF.out.imp id fun ⟨g, cur, h1, h2, h3, h4, h5, h6, h7⟩ => ⟨g, cur, h1, h2, h3, h4, h5, h6, h7, fun j h => absurd h (by omega)⟩⟩
  case round =>
    obtain ⟨hB, d, hd, rfl, rfl, hcase⟩ := hrel
    have HB := Lib.hid hB; have HC := Lib.hid hcase; clear hB hcase
    by_cases hlt : d < n
    · rcases HC.out with ⟨_, h0, _⟩ | ⟨g, cur, hA, hg1, hg2, hb, hnc, hcm, hsz, hall⟩
      · exact absurd h0 (by omega)
      · subst hA
        have HALL := Lib.hid hall; have HS := Lib.hid hsz; have HG := Lib.hid (And.intro hg1 hg2); have HBK := Lib.hid hb; clear hall hsz HC hg1 hg2 hb
        go_wp2_with fail
        obtain ⟨wo, rfl⟩ : ∃ wo : World, wo = wr := ⟨_, rfl⟩
        go_loopw [1, 6] (fun kk j wr => Only lo hi w wr ∧ ∃ q : Nat, q ≤ 4 ∧ j = .int .i64 q ∧ kk = .int .i64 (k + (d * 4 + q : Nat)) ∧ ∃ cur, BK wr g cur 50 ∧ cur.size = c * 4 ∧ ∀ j, j < d * 4 + q → cur[j]? = some (.int .i64 (k + (j : Int)))) (fun _ j _ => 4 - (intOf j).toNat)
        case atStart => exact ⟨HB.out, 0, by omega, rfl, rfl, cur, HBK.out, HS.out, fun j h => HALL.out j (by omega)⟩
        case round =>
          obtain ⟨hB2, q, hq, rfl, rfl, cur2, hb2, hsz2, hall2⟩ := hrel
          have HB2 := Lib.hid hB2; have HALL2 := Lib.hid hall2; have HS2 := Lib.hid hsz2; clear hB2 hall2 hsz2
          by_cases hlt2 : q < 4
          · have q4 : (q : Int) < 4 := by omega
            obtain ⟨x0, c0⟩ : ∃ x, wr.cell? ⟨g, d * 4 + q, none⟩ = some x := ⟨_, hb2.cell (Array.getElem?_eq_getElem (by rw [HS2.out]; omega))⟩
            have f0 := hb2.frozen (d * 4 + q)
            go_wp2_with fail
            go_roundw
            case rel => exact ⟨HB2.out.setCell HG.out.1 HG.out.2 _ _, q + 1, by omega, by go_num, int_eq (by omega), _, hb2.set _ _, by rw [Array.size_setIfInBounds, HS2.out], fun j hj => by
                rw [Array.getElem?_setIfInBounds, HS2.out]
                by_cases e : d * 4 + q = j
                · subst e; rw [if_pos rfl, if_pos (by omega)]; exact congrArg some (int_eq (by omega))
                · rw [if_neg e]; exact HALL2.out j (by omega)⟩
            case measure => simp [intOf]; omega
          · have hq4 : q = 4 := by omega
            subst hq4
            go_wp2_with fail
            go_roundw
            case rel => exact ⟨HB2.out, d + 1, by omega, by go_num, int_eq (by omega), .inr ⟨g, cur2, rfl, HG.out.1, HG.out.2, hb2, hnc, hcm, HS2.out, fun j hj => HALL2.out j (by omega)⟩⟩
            case measure => simp [intOf]; omega
    · have hdn : d = n := by omega
      subst hdn
      go_wp2_with fail
      go_ret
      refine ⟨rfl, ?_, HB.out⟩
      rcases HC.out with ⟨rfl, rfl, rfl⟩ | ⟨g, cur, rfl, hg1, hg2, hb, hnc, hcm, hsz, hall⟩
      · exact OW.nil _ _ _ _ _ (Nat.le_trans HT.out HB.out.size)
      · exact OW.marked hb hg1 hg2 (Nat.le_trans HT.out HB.out.size) hnc hcm hsz fun j hj => hall j (by omega)
set_option maxHeartbeats 2000000 in
theorem heldTileS_any (lo hi : Nat) (v : Value) (n : Nat) (k : Int) (w : World) (hO : OW w lo hi 50 4 v n (icells (mkI k (n * 4)))) (hk : 0 ≤ k) (hk2 : k ≤ 1000000000000) (hl : n ≤ 35184372088832) :
    Calls Tryd.prog 28 #[v, .int .i64 k] w fun e w' => e = .returned (.int .i64 (k + (n * 4 : Nat))) ∧ Below w.heap.size w w' := by
  obtain ⟨A, c, rfl, hf⟩ := hO.form
  have HO := Lib.hid hO; have HF := Lib.hid hf; clear hf hO
  go_enter Tryd.func28, Tryd.ntmps28
  go_wp2
  go_loopw [1, 5, 6] (fun kk i _ wr => Below w.heap.size w wr ∧ ∃ d : Nat, d ≤ n ∧ i = .int .i64 d ∧ kk = .int .i64 (k + (d * 4 : Nat))) (fun _ i _ _ => n - (intOf i).toNat)
  case atStart => exact ⟨Below.refl _ _, 0, by omega, rfl, by simp⟩
  case round =>
    obtain ⟨hB, d, hd, rfl, rfl⟩ := hrel
    have HB := Lib.hid hB; clear hB
    by_cases hlt : d < n
    · rcases HF.out with ⟨_, h0, _⟩ | ⟨g, cur, hA, hg1, hg2, hb, hnc, hcm, hsz⟩
      · exact absurd h0 (by omega)
      · subst hA
        clear hsz hb hg1 hg2
        go_wp2_with fail
        obtain ⟨wo, rfl⟩ : ∃ wo : World, wo = wr := ⟨_, rfl⟩
        go_loopw [1, 6] (fun kk j wr => Below w.heap.size w wr ∧ ∃ q : Nat, q ≤ 4 ∧ j = .int .i64 q ∧ kk = .int .i64 (k + (d * 4 + q : Nat))) (fun _ j _ => 4 - (intOf j).toNat)
        case atStart => exact ⟨HB.out, 0, by omega, rfl, rfl⟩
        case round =>
          obtain ⟨hB2, q, hq, rfl, rfl⟩ := hrel
          have HB2 := Lib.hid hB2; clear hB2
          by_cases hlt2 : q < 4
          · have q4 : (q : Int) < 4 := by omega
            have c0 : wr.cell? ⟨g, d * 4 + q, none⟩ = some (.int .i64 (k + ((d * 4 + q : Nat) : Int))) := by
              refine (HO.out.to HB2.out).cell ?_
              rw [icells_get (by rw [mkI_length]; omega), mkI_get (by omega)]
            have hne : (k + ((d * 4 + q : Nat) : Int) != k + ((d * 4 + q : Nat) : Int)) = false := by simp
            go_wp2_with fail
            go_roundw
            case rel => exact ⟨HB2.out, q + 1, by omega, by go_num, int_eq (by omega)⟩
            case measure => simp [intOf]; omega
          · have hq4 : q = 4 := by omega
            subst hq4
            go_wp2_with fail
            go_roundw
            case rel => exact ⟨HB2.out, d + 1, by omega, by go_num, int_eq (by omega)⟩
            case measure => simp [intOf]; omega
    · have hdn : d = n := by omega
      subst hdn
      go_wp2_with fail
      go_ret
      exact ⟨rfl, HB.out⟩
set_option maxHeartbeats 1000000 in
theorem markSet_any (lo hi : Nat) (C : Int) (v : Value) (n : Nat) (cells : List Value) (k : Int) (w : World) (hO : OW w lo hi 50 4 v n cells) (hk : 0 ≤ k) (hk2 : k ≤ 1000000000000) (hl : n ≤ 35184372088832) :
    Calls Tryd.prog 13 #[.agg #[.int .i64 C, v], .int .i64 k] w fun e w' => e = .returned (.int .i64 (k + (n * 4 : Nat))) ∧ OW w' lo hi 50 4 v n (icells (mkI k (n * 4))) ∧ Only lo hi w w' := by
  obtain ⟨A, c, rfl, -⟩ := hO.form
  have HO := Lib.hid hO; clear hO
  go_enter Tryd.func13, Tryd.ntmps13
  go_wp2_with fail
  refine namec1 ?_
  intro W1 b1 hz hb0
  refine (markTileS_any lo hi _ n cells k W1 (HO.out.to hb0) hk hk2 hl).mono ?_
  rintro e w1 ⟨rfl, hO1, hB1⟩
  have HO1 := Lib.hid hO1; have HB1 := Lib.hid ((only_of hb0 lo hi).trans hB1); clear hO1 hB1 hb0 hz b1
  go_wp2_with fail
  go_ret
  exact ⟨rfl, HO1.out, HB1.out⟩
set_option maxHeartbeats 1000000 in
theorem heldSet_any (lo hi : Nat) (C : Int) (v : Value) (n : Nat) (k : Int) (w : World) (hO : OW w lo hi 50 4 v n (icells (mkI k (n * 4)))) (hk : 0 ≤ k) (hk2 : k ≤ 1000000000000) (hl : n ≤ 35184372088832) :
    Calls Tryd.prog 14 #[.agg #[.int .i64 C, v], .int .i64 k] w fun e w' => e = .returned (.int .i64 (k + (n * 4 : Nat))) ∧ Below w.heap.size w w' := by
  obtain ⟨A, c, rfl, -⟩ := hO.form
  have HO := Lib.hid hO; clear hO
  go_enter Tryd.func14, Tryd.ntmps14
  go_wp2_with fail
  refine namec1 ?_
  intro W1 b1 hz hb0
  refine (heldTileS_any lo hi _ n k W1 (HO.out.to hb0) hk hk2 hl).mono ?_
  rintro e w1 ⟨rfl, hB1⟩
  have HB1 := Lib.hid (below_to hb0 hB1); clear hB1 hb0 hz b1
  have hpos : ¬ (k + (n * 4 : Nat) : Int) < 0 := by omega
  go_wp2_with fail
  go_ret
  exact ⟨rfl, HB1.out⟩

/-! the same, how many numbers there are under a name -/
theorem markTileS_m (lo hi : Nat) (v : Value) (n m : Nat) (cells : List Value) (k : Int) (w : World) (hm : m = n * 4) (hO : OW w lo hi 50 4 v n cells) (hk : 0 ≤ k) (hk2 : k ≤ 1000000000000) (hl : n ≤ 35184372088832) :
    Calls Tryd.prog 27 #[v, .int .i64 k] w fun e w' => e = .returned (.int .i64 (k + m)) ∧ OW w' lo hi 50 4 v n (icells (mkI k m)) ∧ Only lo hi w w' := by
  subst hm; exact markTileS_any lo hi v n cells k w hO hk hk2 hl
theorem heldTileS_m (lo hi : Nat) (v : Value) (n m : Nat) (k : Int) (w : World) (hm : m = n * 4) (hO : OW w lo hi 50 4 v n (icells (mkI k m))) (hk : 0 ≤ k) (hk2 : k ≤ 1000000000000) (hl : n ≤ 35184372088832) :
    Calls Tryd.prog 28 #[v, .int .i64 k] w fun e w' => e = .returned (.int .i64 (k + m)) ∧ Below w.heap.size w w' := by
  subst hm; exact heldTileS_any lo hi v n k w hO hk hk2 hl
theorem markSet_m (lo hi : Nat) (C : Int) (v : Value) (n m : Nat) (cells : List Value) (k : Int) (w : World) (hm : m = n * 4) (hO : OW w lo hi 50 4 v n cells) (hk : 0 ≤ k) (hk2 : k ≤ 1000000000000) (hl : n ≤ 35184372088832) :
    Calls Tryd.prog 13 #[.agg #[.int .i64 C, v], .int .i64 k] w fun e w' => e = .returned (.int .i64 (k + m)) ∧ OW w' lo hi 50 4 v n (icells (mkI k m)) ∧ Only lo hi w w' := by
  subst hm; exact markSet_any lo hi C v n cells k w hO hk hk2 hl
theorem heldSet_m (lo hi : Nat) (C : Int) (v : Value) (n m : Nat) (k : Int) (w : World) (hm : m = n * 4) (hO : OW w lo hi 50 4 v n (icells (mkI k m))) (hk : 0 ≤ k) (hk2 : k ≤ 1000000000000) (hl : n ≤ 35184372088832) :
    Calls Tryd.prog 14 #[.agg #[.int .i64 C, v], .int .i64 k] w fun e w' => e = .returned (.int .i64 (k + m)) ∧ Below w.heap.size w w' := by
  subst hm; exact heldSet_any lo hi C v n k w hO hk hk2 hl
end Go.Proofs.YtbcnddeelefomaaDoor

/-
  Parts of the proof, in their order: Law1.
-/
import Derived.Test.YtenlcakpcbmmdaaPk2
import Derived.Test.YtenlcakpcbmmdaaPk3
namespace Go.Proofs.Ytenlcakpcbmmdaa
open Go Go.RowKit Go.Proofs
set_option linter.unusedVariables false
set_option linter.unusedSimpArgs false
theorem info2 : (Try.prog.info? 2).map (fun i => (i.zero, i.size, i.bytes)) = some (some (.int .i64 0), 1, 8) := by kernel_rfl
set_option maxHeartbeats 1000000 in
theorem toInt64S_any (A : Option Addr) (xs : List Int) (n c : Nat) (w : World) (hn : n = xs.length) (hA : RI w A xs) (hl : xs.length ≤ 1048576) :
    Calls Try.prog 20 #[.slice A n c] w fun e w' => ∃ v, e = .returned v ∧ OI w' w.heap.size 2 v xs ∧ Below w.heap.size w w' := by
  subst hn
  have hmk := make_row (P := Try.prog) 34 2 _ 1 8 Try.underlying34 info2 rfl (by decide) xs.length (by omega)
  simp only [Nat.mul_one] at hmk
  have HA := Lib.hid hA; clear hA
  go_enter Try.func20, Try.ntmps20
  go_wp2
  refine name1 ?_
  intro W1 b1 hz hb0
  have HB0 := Lib.hid hb0; have HZ := Lib.hid hz; clear hb0 hz
  go_loopw [4] (fun i wr => Below w.heap.size w wr ∧ ∃ k : Nat, k ≤ xs.length ∧ i = .int .i64 k ∧ ∃ C, BK wr w.heap.size C 2 ∧ C.size = xs.length ∧ ∀ k', k' < k → C[k']? = some (.int .i64 (ik xs k'))) (fun i _ => xs.length - (intOf i).toNat)
  case atStart => exact ⟨HB0.out, 0, by omega, rfl, _, b1, made_size _ _, fun j h => absurd h (by omega)⟩
  case round =>
    obtain ⟨hB, k, hk, rfl, C, b3, hsz, hall⟩ := hrel
    have hT := HA.out.below hB
    have HB := Lib.hid hB; have HC := Lib.hid hall; have HS := Lib.hid hsz; clear hB hall hsz
    by_cases hlt : k < xs.length
    · obtain ⟨b, o, rfl, hb, h0⟩ := hT k hlt
      clear hT
      obtain ⟨x0, c0⟩ : ∃ x, wr.cell? ⟨w.heap.size, k, none⟩ = some x := ⟨_, b3.cell (Array.getElem?_eq_getElem (by rw [HS.out]; omega))⟩
      have f0 := b3.frozen k
      go_wp2
      go_roundw
      case rel => exact ⟨HB.out.setCell (Nat.le_refl _) _, k + 1, by omega, by go_num, _, b3.set k _, by rw [Array.size_setIfInBounds, HS.out], fun j hj => by
          rw [Array.getElem?_setIfInBounds, HS.out]
          by_cases e : k = j
          · subst e; rw [if_pos rfl, if_pos hlt]
          · rw [if_neg e]; exact HC.out j (by omega)⟩
      case measure => simp [intOf]; omega
    · go_wp2
      go_ret
      exact ⟨_, rfl, OI.of_block b3 (Nat.le_refl _) HS.out (Nat.le_refl _) (by omega) fun k' h' => HC.out k' (by omega), HB.out⟩
set_option maxHeartbeats 1000000 in
theorem eqInt64S_any (A A' : Option Addr) (ts us : List Int) (n m c c' : Nat) (w : World) (hn : n = ts.length) (hm : m = us.length) (hA : RI w A ts) (hA' : RI w A' us) (hl : ts.length ≤ 35184372088832) (hl' : us.length ≤ 35184372088832) :
    Calls Try.prog 22 #[.slice A n c, .slice A' m c'] w fun e w' => e = .returned (.bool (decide (ts = us))) ∧ Below w.heap.size w w' := by
  have HA := Lib.hid hA; have HA' := Lib.hid hA'; clear hA hA'
  by_cases hlen : n = m
  · have HL := Lib.hid (show ts.length = us.length by omega); have HN := Lib.hid hn; have HM := Lib.hid hlen
    have h1 : ((n : Int) != m) = false := by simp [hlen]
    have hn0 : n ≤ 35184372088832 := by omega
    clear hlen hn hm
    go_enter Try.func22, Try.ntmps22
    go_wp2
    go_loopw [5] (fun i wr => Below w.heap.size w wr ∧ ∃ k : Nat, k ≤ n ∧ i = .int .i64 k ∧ ∀ j, j < k → ik ts j = ik us j) (fun i _ => n - (intOf i).toNat)
    case atStart => exact ⟨Below.refl _ _, 0, by omega, rfl, fun j h => absurd h (by omega)⟩
    case round =>
      obtain ⟨hB, k, hk, rfl, hall⟩ := hrel
      have hT := HA.out.below hB
      have hT' := HA'.out.below hB
      have HB := Lib.hid hB; have HALL := Lib.hid hall; clear hB hall
      by_cases hlt : k < n
      · obtain ⟨b, o, rfl, hb, h0⟩ := hT k (by have := HN.out; omega)
        obtain ⟨b', o', rfl, hb', h0'⟩ := hT' k (by have := HN.out; have := HL.out; omega)
        have i1 : (k : Int) < n := by omega
        have i2 : (k : Int) < m := by have := HM.out; omega
        clear hT hT'
        by_cases he : ik ts k = ik us k
        · have HE := Lib.hid he; clear he
          have he' : (ik ts k != ik us k) = false := by simp [HE.out]
          go_wp2
          refine wp_region_gro (by kernel_rfl) (by kernel_rfl) ?_
          repeat (first | go_big_quiet_step (fail) | quiet_step (fail))
          refine wpQuiet_nil ?_
          intro w1 hB1
          have HB1 := Lib.hid hB1; clear hB1
          go_wp2
          go_roundw
          case rel => exact ⟨HB.out.trans (HB1.out.mono HB.out.size), k + 1, by omega, by go_num, fun j hj => by
            by_cases e : j = k
            · subst e; exact HE.out
            · exact HALL.out j (by omega)⟩
          case measure => simp [intOf]; omega
        · have HE := Lib.hid he; clear he
          have he' : (ik ts k != ik us k) = true := by simpa using HE.out
          go_wp2
          refine wp_region_gro (by kernel_rfl) (by kernel_rfl) ?_
          repeat (first | go_big_quiet_step (fail) | quiet_step (fail))
          refine wpQuiet_nil ?_
          intro w1 hB1
          have HB1 := Lib.hid hB1; clear hB1
          go_wp2
          go_ret
          exact ⟨ret_bool (by have : ts ≠ us := fun e => HE.out (by rw [e])
                              simp [this]), HB.out.trans (HB1.out.mono HB.out.size)⟩
      · go_wp2
        go_ret
        exact ⟨ret_bool (by have : ts = us := eq_of_ik HL.out fun j hj => HALL.out j (by have := HN.out; omega)
                            simp [this]), HB.out⟩
  · have h1 : ((n : Int) != m) = true := by simp; omega
    have HL := Lib.hid (show ts.length ≠ us.length by omega); clear hlen hn hm
    go_enter Try.func22, Try.ntmps22
    go_wp2
    go_ret
    exact ⟨ret_bool (by have : ts ≠ us := fun e => HL.out (by rw [e])
                        simp [this]), Below.refl _ _⟩
set_option maxHeartbeats 1000000 in
theorem markInt64S_any (lo hi : Nat) {E : TypeId} (v : Value) (n : Nat) (cells : List Value) (k : Int) (w : World) (hO : OW w lo hi E 1 v n cells) (hk : 0 ≤ k) (hk2 : k ≤ 1000000000000) (hl : n ≤ 35184372088832) :
    Calls Try.prog 26 #[v, .int .i64 k] w fun e w' => e = .returned (.int .i64 (k + n)) ∧ OW w' lo hi E 1 v n (icells (mkI k (n * 1))) ∧ Only lo hi w w' := by
  obtain ⟨A, c, rfl, hf⟩ := hO.form
  have HT := Lib.hid hO.top
  have HF := Lib.hid hf; clear hf hO
  go_enter Try.func26, Try.ntmps26
  go_wp2
  go_loopw [1, 5] (fun kk i wr => Only lo hi w wr ∧ ∃ d : Nat, d ≤ n ∧ i = .int .i64 d ∧ kk = .int .i64 (k + d) ∧ ((A = none ∧ n = 0 ∧ c = 0) ∨ ∃ g cur, A = some ⟨g, 0, none⟩ ∧ lo ≤ g ∧ g < hi ∧ BK wr g cur E ∧ n ≤ c ∧ c ≤ 9223372036854775807 ∧ cur.size = c * 1 ∧ ∀ j, j < d → cur[j]? = some (.int .i64 (k + (j : Int))))) (fun _ i _ => n - (intOf i).toNat)
  case atStart => exact ⟨Only.refl _ _ _, 0, by omega, rfl, by simp, HF.out.imp id fun ⟨g, cur, h1, h2, h3, h4, h5, h6, h7⟩ => ⟨g, cur, h1, h2, h3, h4, h5, h6, h7, fun j h => absurd h (by omega)⟩⟩
  case round =>
    obtain ⟨hB, d, hd, rfl, rfl, hcase⟩ := hrel
    have HB := Lib.hid hB; have HC := Lib.hid hcase; clear hB hcase
    by_cases hlt : d < n
    · rcases HC.out with ⟨_, h0, _⟩ | ⟨g, cur, hA, hg1, hg2, hb, hnc, hcm, hsz, hall⟩
      · exact absurd h0 (by omega)
      · subst hA
        have HALL := Lib.hid hall; have HS := Lib.hid hsz; clear hall hsz HC
        obtain ⟨x0, c0⟩ : ∃ x, wr.cell? ⟨g, d, none⟩ = some x := ⟨_, hb.cell (Array.getElem?_eq_getElem (by rw [HS.out]; omega))⟩
        have f0 := hb.frozen d
        have HG := Lib.hid (And.intro hg1 hg2); clear hg1 hg2
        go_wp2
        go_roundw
        case rel => exact ⟨HB.out.setCell HG.out.1 HG.out.2 _ _, d + 1, by omega, by go_num, by rw [show k + (d : Int) + 1 = k + ((d + 1 : Nat) : Int) by omega], .inr ⟨g, _, rfl, HG.out.1, HG.out.2, hb.set d _, hnc, hcm, by rw [Array.size_setIfInBounds, HS.out], fun j hj => by
          rw [Array.getElem?_setIfInBounds, HS.out]
          by_cases e : d = j
          · subst e; rw [if_pos rfl, if_pos (by omega)]
          · rw [if_neg e]; exact HALL.out j (by omega)⟩⟩
        case measure => simp [intOf]; omega
    · have hdn : d = n := by omega
      subst hdn
      go_wp2
      go_ret
      refine ⟨rfl, ?_, HB.out⟩
      rcases HC.out with ⟨rfl, rfl, rfl⟩ | ⟨g, cur, rfl, hg1, hg2, hb, hnc, hcm, hsz, hall⟩
      · exact OW.nil _ _ _ _ _ (Nat.le_trans HT.out HB.out.size)
      · exact OW.marked hb hg1 hg2 (Nat.le_trans HT.out HB.out.size) hnc hcm hsz fun j hj => hall j (by omega)
set_option maxHeartbeats 1000000 in
theorem heldInt64S_any (lo hi : Nat) {E : TypeId} (v : Value) (n : Nat) (k : Int) (w : World) (hO : OW w lo hi E 1 v n (icells (mkI k (n * 1)))) (hk : 0 ≤ k) (hk2 : k ≤ 1000000000000) (hl : n ≤ 35184372088832) :
    Calls Try.prog 27 #[v, .int .i64 k] w fun e w' => e = .returned (.int .i64 (k + n)) ∧ Below w.heap.size w w' := by
  obtain ⟨A, c, rfl, hf⟩ := hO.form
  have HO := Lib.hid hO; have HF := Lib.hid hf; clear hf hO
  go_enter Try.func27, Try.ntmps27
  go_wp2
  go_loopw [1, 5] (fun kk i wr => Below w.heap.size w wr ∧ ∃ d : Nat, d ≤ n ∧ i = .int .i64 d ∧ kk = .int .i64 (k + d)) (fun _ i _ => n - (intOf i).toNat)
  case atStart => exact ⟨Below.refl _ _, 0, by omega, rfl, by simp⟩
  case round =>
    obtain ⟨hB, d, hd, rfl, rfl⟩ := hrel
    have HB := Lib.hid hB; clear hB
    by_cases hlt : d < n
    · rcases HF.out with ⟨_, h0, _⟩ | ⟨g, cur, hA, hg1, hg2, hb, hnc, hcm, hsz⟩
      · exact absurd h0 (by omega)
      · subst hA
        clear hsz hb hg1 hg2
        have c0 : wr.cell? ⟨g, d, none⟩ = some (.int .i64 (k + d)) := by
          refine (HO.out.to HB.out).cell ?_
          rw [icells_get (by rw [mkI_length]; omega), mkI_get (by omega)]
        have hne : (k + (d : Int) != k + d) = false := by simp
        go_wp2
        go_roundw
        case rel => exact ⟨HB.out, d + 1, by omega, by go_num, by rw [show k + (d : Int) + 1 = k + ((d + 1 : Nat) : Int) by omega]⟩
        case measure => simp [intOf]; omega
    · have hdn : d = n := by omega
      subst hdn
      go_wp2
      go_ret
      exact ⟨rfl, HB.out⟩
set_option maxHeartbeats 2000000 in
theorem markTileS_any (lo hi : Nat) (v : Value) (n : Nat) (cells : List Value) (k : Int) (w : World) (hO : OW w lo hi 77 4 v n cells) (hk : 0 ≤ k) (hk2 : k ≤ 1000000000000) (hl : n ≤ 35184372088832) :
    Calls Try.prog 71 #[v, .int .i64 k] w fun e w' => e = .returned (.int .i64 (k + (n * 4 : Nat))) ∧ OW w' lo hi 77 4 v n (icells (mkI k (n * 4))) ∧ Only lo hi w w' := by
  obtain ⟨A, c, rfl, hf⟩ := hO.form
  have HT := Lib.hid hO.top
  have HF := Lib.hid hf; clear hf hO
  go_enter Try.func71, Try.ntmps71
  go_wp2
  go_loopw [1, 5, 6] (fun kk i _ wr => Only lo hi w wr ∧ ∃ d : Nat, d ≤ n ∧ i = .int .i64 d ∧ kk = .int .i64 (k + (d * 4 : Nat)) ∧ ((A = none ∧ n = 0 ∧ c = 0) ∨ ∃ g cur, A = some ⟨g, 0, none⟩ ∧ lo ≤ g ∧ g < hi ∧ BK wr g cur 77 ∧ n ≤ c ∧ c ≤ 9223372036854775807 ∧ cur.size = c * 4 ∧ ∀ j, j < d * 4 → cur[j]? = some (.int .i64 (k + (j : Int))))) (fun _ i _ _ => n - (intOf i).toNat)
  case atStart => exact ⟨Only.refl _ _ _, 0, by omega, rfl, by simp, HF.out.imp id fun ⟨g, cur, h1, h2, h3, h4, h5, h6, h7⟩ => ⟨g, cur, h1, h2, h3, h4, h5, h6, h7, fun j h => absurd h (by omega)⟩⟩
  case round =>
    obtain ⟨hB, d, hd, rfl, rfl, hcase⟩ := hrel
    have HB := Lib.hid hB; have HC := Lib.hid hcase; clear hB hcase
    by_cases hlt : d < n
    · rcases HC.out with ⟨_, h0, _⟩ | ⟨g, cur, hA, hg1, hg2, hb, hnc, hcm, hsz, hall⟩
      · exact absurd h0 (by omega)
      · subst hA
        have HALL := Lib.hid hall; have HS := Lib.hid hsz; have HG := Lib.hid (And.intro hg1 hg2); have HBK := Lib.hid hb; clear hall hsz HC hg1 hg2 hb
        go_wp2_with fail
        obtain ⟨wo, rfl⟩ : ∃ wo : World, wo = wr := ⟨_, rfl⟩
        go_loopw [1, 6] (fun kk j wr => Only lo hi w wr ∧ ∃ q : Nat, q ≤ 4 ∧ j = .int .i64 q ∧ kk = .int .i64 (k + (d * 4 + q : Nat)) ∧ ∃ cur, BK wr g cur 77 ∧ cur.size = c * 4 ∧ ∀ j, j < d * 4 + q → cur[j]? = some (.int .i64 (k + (j : Int)))) (fun _ j _ => 4 - (intOf j).toNat)
        case atStart => exact ⟨HB.out, 0, by omega, rfl, rfl, cur, HBK.out, HS.out, fun j h => HALL.out j (by omega)⟩
        case round =>
          obtain ⟨hB2, q, hq, rfl, rfl, cur2, hb2, hsz2, hall2⟩ := hrel
          have HB2 := Lib.hid hB2; have HALL2 := Lib.hid hall2; have HS2 := Lib.hid hsz2; clear hB2 hall2 hsz2
          by_cases hlt2 : q < 4
          · have q4 : (q : Int) < 4 := by omega
            obtain ⟨x0, c0⟩ : ∃ x, wr.cell? ⟨g, d * 4 + q, none⟩ = some x := ⟨_, hb2.cell (Array.getElem?_eq_getElem (by rw [HS2.out]; omega))⟩
            have f0 := hb2.frozen (d * 4 + q)
            go_wp2_with fail
            go_roundw
            case rel => exact ⟨HB2.out.setCell HG.out.1 HG.out.2 _ _, q + 1, by omega, by go_num, int_eq (by omega), _, hb2.set _ _, by rw [Array.size_setIfInBounds, HS2.out], fun j hj => by
                rw [Array.getElem?_setIfInBounds, HS2.out]
                by_cases e : d * 4 + q = j
                · subst e; rw [if_pos rfl, if_pos (by omega)]; exact congrArg some (int_eq (by omega))
                · rw [if_neg e]; exact HALL2.out j (by omega)⟩
            case measure => simp [intOf]; omega
          · have hq4 : q = 4 := by omega
            subst hq4
            go_wp2_with fail
            go_roundw
            case rel => exact ⟨HB2.out, d + 1, by omega, by go_num, int_eq (by omega), .inr ⟨g, cur2, rfl, HG.out.1, HG.out.2, hb2, hnc, hcm, HS2.out, fun j hj => HALL2.out j (by omega)⟩⟩
            case measure => simp [intOf]; omega
    · have hdn : d = n := by omega
      subst hdn
      go_wp2_with fail
      go_ret
      refine ⟨rfl, ?_, HB.out⟩
      rcases HC.out with ⟨rfl, rfl, rfl⟩ | ⟨g, cur, rfl, hg1, hg2, hb, hnc, hcm, hsz, hall⟩
      · exact OW.nil _ _ _ _ _ (Nat.le_trans HT.out HB.out.size)
      · exact OW.marked hb hg1 hg2 (Nat.le_trans HT.out HB.out.size) hnc hcm hsz fun j hj => hall j (by omega)
set_option maxHeartbeats 1000000 in
theorem markSet_any (lo hi : Nat) (C : Int) (v : Value) (n : Nat) (cells : List Value) (k : Int) (w : World) (hO : OW w lo hi 77 4 v n cells) (hk : 0 ≤ k) (hk2 : k ≤ 1000000000000) (hl : n ≤ 35184372088832) :
    Calls Try.prog 25 #[.agg #[.int .i64 C, v], .int .i64 k] w fun e w' => e = .returned (.int .i64 (k + (n * 4 : Nat))) ∧ OW w' lo hi 77 4 v n (icells (mkI k (n * 4))) ∧ Only lo hi w w' := by
  obtain ⟨A, c, rfl, -⟩ := hO.form
  have HO := Lib.hid hO; clear hO
  go_enter Try.func25, Try.ntmps25
  go_wp2_with fail
  refine namec1 ?_
  intro W1 b1 hz hb0
  refine (markTileS_any lo hi _ n cells k W1 (HO.out.to hb0) hk hk2 hl).mono ?_
  rintro e w1 ⟨rfl, hO1, hB1⟩
  have HO1 := Lib.hid hO1; have HB1 := Lib.hid ((only_of hb0 lo hi).trans hB1); clear hO1 hB1 hb0 hz b1
  go_wp2_with fail
  go_ret
  exact ⟨rfl, HO1.out, HB1.out⟩
theorem markInt64S_m (lo hi : Nat) (v : Value) (n m : Nat) (cells : List Value) (k : Int) (w : World) (hm : m = n * 1) (hO : OW w lo hi 2 1 v n cells) (hk : 0 ≤ k) (hk2 : k ≤ 1000000000000) (hl : n ≤ 35184372088832) :
    Calls Try.prog 26 #[v, .int .i64 k] w fun e w' => e = .returned (.int .i64 (k + m)) ∧ OW w' lo hi 2 1 v n (icells (mkI k m)) ∧ Only lo hi w w' := by
  have h := markInt64S_any lo hi v n cells k w hO hk hk2 hl
  rw [Nat.mul_one] at hm h; subst hm; exact h
theorem markSet_m (lo hi : Nat) (C : Int) (v : Value) (n m : Nat) (cells : List Value) (k : Int) (w : World) (hm : m = n * 4) (hO : OW w lo hi 77 4 v n cells) (hk : 0 ≤ k) (hk2 : k ≤ 1000000000000) (hl : n ≤ 35184372088832) :
    Calls Try.prog 25 #[.agg #[.int .i64 C, v], .int .i64 k] w fun e w' => e = .returned (.int .i64 (k + m)) ∧ OW w' lo hi 77 4 v n (icells (mkI k m)) ∧ Only lo hi w w' := by
  subst hm; exact markSet_any lo hi C v n cells k w hO hk hk2 hl
end Go.Proofs.Ytenlcakpcbmmdaa

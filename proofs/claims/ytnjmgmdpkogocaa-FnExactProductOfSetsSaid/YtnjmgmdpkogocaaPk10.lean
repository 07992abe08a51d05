/-
  Parts of the proof, in their order: Compact.
-/
import Derived.Test.YtnjmgmdpkogocaaPk8
import Derived.Test.YtnjmgmdpkogocaaPk7
namespace Go.Proofs.Ytnjmgmdpkogocaa
open Go Go.RowKit Go.Proofs
set_option linter.unusedVariables false
set_option linter.unusedSimpArgs false
theorem neqT_arr (t u : T4) (w : World) : (binOp .neq 45 (.agg t.arr) (.agg u.arr)).run Try.prog w = .ok (.bool (!decide (t = u))) w := by
  have h := eqT_arr t u w
  rw [run_eql_struct] at h
  rw [run_neq_struct]
  obtain ⟨z, hz⟩ : ∃ z, Op.equalIn 10000 45 (.agg t.arr) (.agg u.arr) = z := ⟨_, rfl⟩
  rw [hz] at h ⊢
  clear hz
  cases hq : z.run Try.prog w with
  | ok b w' =>
    rw [hq] at h
    simp only [Result.andThen] at h ⊢
    injection h with h1 h2
    injection h1 with h1
    rw [h1, h2]
  | _ => rw [hq] at h; simp [Result.andThen] at h
theorem neqT_raw (t u : T4) (w : World) : (binOp .neq 45 (.agg #[.int .i64 (t.get 0), .int .i64 (t.get 1), .int .i64 (t.get 2), .int .i64 (t.get 3)]) (.agg #[.int .i64 (u.get 0), .int .i64 (u.get 1), .int .i64 (u.get 2), .int .i64 (u.get 3)])).run Try.prog w = .ok (.bool (!decide (t = u))) w := neqT_arr t u w
theorem guardN (x y : Operand) (xs ys : Array Value) (w : World) : (eqGuard .neq 45 x y (.agg xs) (.agg ys)).run Try.prog w = .ok () w := run_eqGuard_agg w .neq _ x y xs ys (by kernel_rfl)
theorem dedT_snoc (t u : T4) : ∀ xs : List T4, dedT (xs ++ [u] ++ [t]) = if u = t then dedT (xs ++ [u]) else dedT (xs ++ [u]) ++ [t]
  | [] => by
    simp only [List.nil_append, List.cons_append, dedT]
    split <;> simp_all
  | [x] => by
    have ih := dedT_snoc t u []
    simp only [List.nil_append, List.cons_append] at ih ⊢
    simp only [dedT] at ih ⊢
    by_cases h1 : x = u <;> by_cases h2 : u = t <;> simp_all
  | x :: y :: xs => by
    have ih := dedT_snoc t u (y :: xs)
    simp only [List.cons_append] at ih ⊢
    simp only [dedT]
    by_cases h : x = y
    · rw [if_pos h, if_pos h]; exact ih
    · rw [if_neg h, if_neg h, ih]
      split <;> simp
theorem dedT_step {ts : List T4} {i : Nat} (h : i + 1 < ts.length) : dedT (ts.take (i + 2)) = if tk ts i = tk ts (i + 1) then dedT (ts.take (i + 1)) else dedT (ts.take (i + 1)) ++ [tk ts (i + 1)] := by
  rw [List.take_succ_eq_append_getElem h, List.take_succ_eq_append_getElem (show i < ts.length by omega), tk_at, tk_at]
  exact dedT_snoc _ _ _
theorem dedT_same {ts : List T4} : ∀ {k : Nat}, k ≤ ts.length → (∀ i, i + 1 < k → tk ts i ≠ tk ts (i + 1)) → dedT (ts.take k) = ts.take k
  | 0, _, _ => by simp [dedT]
  | 1, h, _ => by
    cases ts with
    | nil => rfl
    | cons t ts => simp [dedT]
  | k + 2, h, hall => by
    rw [dedT_step (by omega), if_neg (hall k (by omega)), dedT_same (by omega) (fun i hi => hall i (by omega)), List.take_succ_eq_append_getElem (show k + 1 < ts.length by omega), tk_at]
theorem tk_append_left {xs ys : List T4} {i : Nat} (h : i < xs.length) : tk (xs ++ ys) i = tk xs i := by
  simp [tk, List.getD, List.getElem?_append_left h]
theorem tk_append_one {xs : List T4} {t : T4} : tk (xs ++ [t]) xs.length = t := by
  simp [tk, List.getD]
theorem tk_take {ts : List T4} {i k : Nat} (h : i < k) : tk (ts.take k) i = tk ts i := by
  simp [tk, List.getD, List.getElem?_take, h]
theorem cells_of {cur : Array Value} {ts : List T4} (h : cur.toList.take (ts.length * 4) = tcells ts) {i j : Nat} (hi : i < ts.length) (hj : j < 4) : cur[i * 4 + j]? = some (.int .i64 ((tk ts i).get j)) := by
  have h1 := tcells_get hi hj
  rw [← h, List.getElem?_take, if_pos (by omega), Array.getElem?_toList] at h1
  exact h1
theorem take_of_cells {cur : Array Value} {ts : List T4} (h : ∀ i, i < ts.length → ∀ j, j < 4 → cur[i * 4 + j]? = some (.int .i64 ((tk ts i).get j))) : cur.toList.take (ts.length * 4) = tcells ts := by
  refine take_eq_of (tcells_length ts) fun j u hu => ?_
  have hj : j < ts.length * 4 := by rw [← tcells_length ts]; exact (List.getElem?_eq_some_iff.1 hu).1
  have e : j = j / 4 * 4 + j % 4 := by omega
  rw [e, tcells_get (by omega) (by omega)] at hu
  rw [e, Array.getElem?_toList, h _ (by omega) _ (by omega)]
  exact hu
set_option maxHeartbeats 8000000 in
set_option maxRecDepth 100000 in
theorem CompactT_any (g n c base : Nat) (ts : List T4) (w : World) (hO : OT w base 45 (.slice (some ⟨g, 0, none⟩) n c) ts) (hn : n = ts.length) (hl : n ≤ 1000000) :
    Calls Try.prog 111 #[.slice (some ⟨g, 0, none⟩) n c] w fun e w' => ∃ m, e = .returned (.slice (some ⟨g, 0, none⟩) m c) ∧ m = (dedT ts).length ∧ OT w' base 45 (.slice (some ⟨g, 0, none⟩) m c) (dedT ts) ∧ Only g (g + 1) w w' := by
  obtain ⟨cur, hB, hb, hnc, hm, hsz, htk⟩ := OT.block hO hn
  have HN := Lib.hid hn; have HO := Lib.hid hO; have HM := Lib.hid hm
  have hG := guardT; have hG2 := guardN
  have hz := Try.zeroValue45
  clear hn hO hB hm hsz htk
  by_cases h2 : n < 2
  · go_enter Try.func111, Try.ntmps111
    have h2' : (n : Int) < 2 := by omega
    go_wp2_with fail
    go_ret
    have he : dedT ts = ts := by
      have := HN.out
      match ts, this with
      | [], _ => rfl
      | [t], _ => rfl
      | t :: u :: r, h => simp at h; omega
    refine ⟨n, rfl, by rw [he]; exact HN.out, by rw [he]; exact HO.out, Only.refl _ _ _⟩
  · have h2' : ¬ (n : Int) < 2 := by omega
    go_enter Try.func111, Try.ntmps111
    go_wp2_with fail
    go_loopw [3] (fun i wr => Below w.heap.size w wr ∧ ∃ k : Nat, k < n ∧ i = .int .i64 ((k : Int) + 1) ∧ ∀ j, j < k → tk ts j ≠ tk ts (j + 1)) (fun i _ => n - (intOf i).toNat)
    case atStart => exact ⟨Below.refl _ _, 0, by omega, rfl, fun j h => absurd h (by omega)⟩
    case round =>
      obtain ⟨hB, k, hk, rfl, hall⟩ := hrel
      have HB := Lib.hid hB; have HALL := Lib.hid hall; clear hB hall
      by_cases hlt : k + 1 < n
      · have i1 : (k : Int) + 1 < n := by omega
        have i2 : (k : Int) < n := by omega
        obtain ⟨bg, og, eg, hbg, hck, hcp⟩ := (rt_own (OT.to HO.out HB.out) HN.out.symm).cell2 (k := k) (i := k + 1) (by have := HN.out; omega) (by have := HN.out; omega)
        obtain ⟨rfl, rfl⟩ : g = bg ∧ 0 = og := by injection eg with e; injection e with e1 e2; exact ⟨e1, e2⟩
        have c0 := hck 0 (by omega); have c1 := hck 1 (by omega); have c2 := hck 2 (by omega); have c3 := hck 3 (by omega)
        have d0 := hcp 0 (by omega); have d1 := hcp 1 (by omega); have d2 := hcp 2 (by omega); have d3 := hcp 3 (by omega)
        simp only [Nat.zero_add, Nat.add_zero] at c0 c1 c2 c3 d0 d1 d2 d3
        clear hck hcp eg
        cases hd : decide (tk ts (k + 1) = tk ts k)
        · have hE := fun W => eqT_raw (tk ts (k + 1)) (tk ts k) W
          rw [hd] at hE
          have HQ := Lib.hid (of_decide_eq_false hd); clear hd
          go_wp2_with fail
          refine wp_region_gro (by kernel_rfl) (by kernel_rfl) ?_
          repeat (first | go_big_quiet_step (fail) | quiet_step (fail))
          refine wpQuiet_nil ?_
          intro w1 hB1
          have HB1 := Lib.hid (below_to HB.out hB1); clear hB1 hE c0 c1 c2 c3 d0 d1 d2 d3 hbg
          go_wp2_with fail
          go_roundw
          case rel => exact ⟨HB1.out, k + 1, by omega, by go_num, fun j hj => by
              by_cases e : j = k
              · subst e; exact fun e => HQ.out e.symm
              · exact HALL.out j (by omega)⟩
          case measure => (simp [intOf] <;> omega)
        · have hE := fun W => eqT_raw (tk ts (k + 1)) (tk ts k) W
          rw [hd] at hE
          have HQ := Lib.hid (of_decide_eq_true hd); clear hd
          go_wp2_with fail
          refine wp_region_gro (by kernel_rfl) (by kernel_rfl) ?_
          repeat (first | go_big_quiet_step (fail) | quiet_step (fail))
          refine wpQuiet_nil ?_
          intro w1 hB1
          have HB1 := Lib.hid (below_to HB.out hB1); clear hB1 hE c0 c1 c2 c3 d0 d1 d2 d3 hbg
          obtain ⟨K, hK⟩ : ∃ K : Nat, k + 1 = K := ⟨_, rfl⟩
          have hK' : ((k : Int) + 1) = (K : Int) := by omega
          rw [hK']
          obtain ⟨L, hL⟩ : ∃ L : Nat, n - K = L := ⟨_, rfl⟩
          have j1 : (K : Int) ≤ n := by omega
          have j2 : (K : Int) ≤ c := by omega
          have j3 : ¬ c = K := by omega
          have HL := Lib.hid (show n = K + L by omega)
          have L0 := Lib.hid (show 0 < L by omega)
          have HD0 := Lib.hid (show dedT (ts.take (K + 1)) = ts.take K by
            rw [← hK, dedT_step (by have := HN.out; omega), if_pos HQ.out.symm]
            exact dedT_same (by have := HN.out; omega) (fun i hi => HALL.out i (by omega)))
          have HKk := Lib.hid hK
          have HLn := Lib.hid hL
          clear hK hK' hL i1 i2 hlt
          go_wp2_with fail
          rw [HLn.out]
          obtain ⟨cur1, hB2, -, -, -, hs1, ht1⟩ := OT.block (OT.to HO.out HB1.out) HN.out
          have P0 := Lib.hid (show (∀ i, i < K → ∀ j, j < 4 → cur1[i * 4 + j]? = some (.int .i64 ((tk (ts.take K) i).get j))) ∧ (∀ i, K ≤ i → i < n → ∀ j, j < 4 → cur1[i * 4 + j]? = some (.int .i64 ((tk ts i).get j))) from by
            have hh := HL.out; have hn' := HN.out
            rw [hn'] at ht1
            exact ⟨fun i hi j hj => by rw [tk_take hi]; exact cells_of ht1 (by omega) hj, fun i _ hi j hj => cells_of ht1 (by omega) hj⟩)
          have BB := Lib.hid hB2; have SS := Lib.hid hs1; clear hB2 hs1 ht1
          go_loopw [3, 5] (fun i3 i5 wr => ∃ p q : Nat, p < L ∧ i5 = .int .i64 ((p : Int) + 1) ∧ i3 = .int .i64 q ∧ q = (dedT (ts.take (K + p + 1))).length ∧ q ≤ K + p ∧ Only g (g + 1) w wr ∧ ∃ cu, BK wr g cu 45 ∧ cu.size = c * 4 ∧ (∀ i, i < q → ∀ j, j < 4 → cu[i * 4 + j]? = some (.int .i64 ((tk (dedT (ts.take (K + p + 1))) i).get j))) ∧ (∀ i, K + p ≤ i → i < n → ∀ j, j < 4 → cu[i * 4 + j]? = some (.int .i64 ((tk ts i).get j)))) (fun _ i5 _ => L - (intOf i5).toNat)
          case atStart =>
            have hkl : (ts.take K).length = K := by rw [List.length_take]; have := HL.out; have := HN.out; omega
            refine ⟨0, K, L0.out, rfl, rfl, ?_, Nat.le_refl _, only_of HB1.out _ _, cur1, BB.out, SS.out, ?_, P0.out.2⟩
            · rw [Nat.add_zero, HD0.out, hkl]
            · rw [Nat.add_zero, HD0.out]; exact P0.out.1
          case round =>
            obtain ⟨p, q, hp, rfl, rfl, hq, hqk, hon, cu, hBc, hsc, hA, hBs⟩ := hrel
            have HQQ := Lib.hid hq; have ON := Lib.hid hon; have BC := Lib.hid hBc; have SC := Lib.hid hsc; have HA := Lib.hid hA; have HS := Lib.hid hBs
            clear hq hon hBc hsc hA hBs
            by_cases hlt : p + 1 < L
            · have m1 : (p : Int) + 1 < L := by omega
              have m2 : (p : Int) < L := by omega
              have m3 : (q : Int) < n := by have := HL.out; omega
              have m4 : (p : Int) ≤ 1000000 := by have := HL.out; omega
              have gl := BC.out.lt
              have E1 : ∀ j, j < 4 → wr.cell? ⟨g, K * 4 + (p + 1) * 4 + j, none⟩ = some (.int .i64 ((tk ts (K + p + 1)).get j)) := fun j hj => by
                have h := BC.out.cell (HS.out (K + p + 1) (by omega) (by have := HL.out; omega) j hj)
                rw [show K * 4 + (p + 1) * 4 + j = (K + p + 1) * 4 + j by omega]; exact h
              have E2 : ∀ j, j < 4 → wr.cell? ⟨g, K * 4 + p * 4 + j, none⟩ = some (.int .i64 ((tk ts (K + p)).get j)) := fun j hj => by
                have h := BC.out.cell (HS.out (K + p) (by omega) (by have := HL.out; omega) j hj)
                rw [show K * 4 + p * 4 + j = (K + p) * 4 + j by omega]; exact h
              have c0 := E1 0 (by omega); have c1 := E1 1 (by omega); have c2 := E1 2 (by omega); have c3 := E1 3 (by omega)
              have d0 := E2 0 (by omega); have d1 := E2 1 (by omega); have d2 := E2 2 (by omega); have d3 := E2 3 (by omega)
              simp only [Nat.add_zero] at c0 d0
              clear E1 E2
              have HST := Lib.hid (dedT_step (ts := ts) (i := K + p) (by have := HL.out; have := HN.out; omega))
              cases hd : decide (tk ts (K + p + 1) = tk ts (K + p))
              · have hE := fun W => neqT_raw (tk ts (K + p + 1)) (tk ts (K + p)) W
                rw [hd] at hE
                have HQ2 := Lib.hid (of_decide_eq_false hd); clear hd
                go_wp2_with fail
                refine wp_region_gro (by kernel_rfl) (by kernel_rfl) ?_
                repeat (first | go_big_quiet_step (fail) | quiet_step (fail))
                refine wpQuiet_nil ?_
                intro w6 hB6
                have c0' := cell_to hB6 c0; have c1' := cell_to hB6 c1; have c2' := cell_to hB6 c2; have c3' := cell_to hB6 c3
                have B6 := Lib.hid (BC.out.below hB6 BC.out.lt)
                have ON6 := Lib.hid (ON.out.trans (only_of hB6 _ _))
                have gl6 := B6.out.lt
                clear hB6 hE c0 c1 c2 c3 d0 d1 d2 d3 gl
                have hqs : q * 4 + 3 < cu.size := by have := SC.out; have := HL.out; omega
                obtain ⟨x0, y0⟩ : ∃ x, w6.cell? ⟨g, q * 4, none⟩ = some x := ⟨_, B6.out.cell (Array.getElem?_eq_getElem (show q * 4 < cu.size by omega))⟩
                obtain ⟨x1, y1⟩ : ∃ x, w6.cell? ⟨g, q * 4 + 1, none⟩ = some x := ⟨_, B6.out.cell (Array.getElem?_eq_getElem (show q * 4 + 1 < cu.size by omega))⟩
                obtain ⟨x2, y2⟩ : ∃ x, w6.cell? ⟨g, q * 4 + 2, none⟩ = some x := ⟨_, B6.out.cell (Array.getElem?_eq_getElem (show q * 4 + 2 < cu.size by omega))⟩
                obtain ⟨x3, y3⟩ : ∃ x, w6.cell? ⟨g, q * 4 + 3, none⟩ = some x := ⟨_, B6.out.cell (Array.getElem?_eq_getElem (show q * 4 + 3 < cu.size by omega))⟩
                have f0 := B6.out.frozen (q * 4); have f1 := B6.out.frozen (q * 4 + 1); have f2 := B6.out.frozen (q * 4 + 2); have f3 := B6.out.frozen (q * 4 + 3)
                have HQS := Lib.hid hqs; clear hqs
                go_wp2_with fail
                go_roundw
                case rel =>
                  have hst := HST.out
                  rw [if_neg (fun e => HQ2.out e.symm)] at hst
                  have hqq := HQQ.out
                  refine ⟨p + 1, q + 1, hlt, by go_num, by go_num, ?_, by omega, ?_, setT cu (q * 4) (tk ts (K + p + 1)), B6.out.setT (q * 4) (tk ts (K + p + 1)), by rw [setT_size]; exact SC.out, ?_, ?_⟩
                  · rw [show K + (p + 1) + 1 = K + p + 2 by omega, hst, List.length_append, ← hqq]; rfl
                  · exact (((ON6.out.setCell (Nat.le_refl _) (by omega) _ _).setCell (Nat.le_refl _) (by omega) _ _).setCell (Nat.le_refl _) (by omega) _ _).setCell (Nat.le_refl _) (by omega) _ _
                  · intro i hi j hj
                    rw [show K + (p + 1) + 1 = K + p + 2 by omega, hst]
                    by_cases e : i = q
                    · subst e
                      rw [setT_in HQS.out hj]
                      rw [hqq, tk_append_one]
                    · rw [setT_out (by omega), tk_append_left (by omega)]
                      exact HA.out i (by omega) j hj
                  · intro i hi hin j hj
                    rw [setT_out (by omega)]
                    exact HS.out i (by omega) hin j hj
                case measure => (simp [intOf] <;> omega)
              · have hE := fun W => neqT_raw (tk ts (K + p + 1)) (tk ts (K + p)) W
                rw [hd] at hE
                have HQ2 := Lib.hid (of_decide_eq_true hd); clear hd
                go_wp2_with fail
                refine wp_region_gro (by kernel_rfl) (by kernel_rfl) ?_
                repeat (first | go_big_quiet_step (fail) | quiet_step (fail))
                refine wpQuiet_nil ?_
                intro w6 hB6
                have B6 := Lib.hid (BC.out.below hB6 BC.out.lt)
                have ON6 := Lib.hid (ON.out.trans (only_of hB6 _ _))
                clear hB6 hE c0 c1 c2 c3 d0 d1 d2 d3 gl
                go_wp2_with fail
                go_roundw
                case rel =>
                  have hst := HST.out
                  rw [if_pos HQ2.out.symm] at hst
                  refine ⟨p + 1, q, hlt, by go_num, rfl, ?_, by omega, ON6.out, cu, B6.out, SC.out, ?_, fun i hi hin j hj => HS.out i (by omega) hin j hj⟩
                  · rw [show K + (p + 1) + 1 = K + p + 2 by omega, hst]; exact HQQ.out
                  · rw [show K + (p + 1) + 1 = K + p + 2 by omega, hst]; exact HA.out
                case measure => (simp [intOf] <;> omega)
            · have m1 : ¬ ((p : Int) + 1 < L) := by omega
              have m2 : (q : Int) ≤ n := by have := HL.out; omega
              have m3 : (q : Int) ≤ c := by have := HL.out; omega
              have m4 : ¬ c = q := by have := HL.out; omega
              have hDn : ts.take (K + p + 1) = ts := List.take_of_length_le (by have := HL.out; have := HN.out; omega)
              have HDN := Lib.hid hDn; clear hDn
              obtain ⟨cu2, w2, hcl, hb2, hs2, ht2, hk2⟩ := run_clearN (P := Try.prog) 24 45 0 Try.underlying24 hz (q := q * 4) (m := n - q) (c - q) (by have := HL.out; omega) BC.out (by rw [SC.out]; omega)
              have B2 := Lib.hid hb2; have S2 := Lib.hid hs2; have T2 := Lib.hid ht2; have K2 := Lib.hid (ON.out.trans hk2); clear hb2 hs2 ht2 hk2
              go_wp2_with fail
              go_ret
              have hqq := HQQ.out
              rw [HDN.out] at hqq
              have hA := HA.out
              rw [HDN.out] at hA
              refine ⟨q, rfl, hqq, OT.ofBlock B2.out hb hqq (by omega) HM.out (by rw [S2.out, SC.out]) ?_, K2.out⟩
              rw [T2.out, hqq]
              exact take_of_cells (fun i hi j hj => hA i (by omega) j hj)
      · have hkn : k + 1 = n := by omega
        have i1 : ¬ ((k : Int) + 1 < n) := by omega
        go_wp2_with fail
        go_ret
        have he : dedT ts = ts := by
          have h := dedT_same (ts := ts) (k := n) (by have := HN.out; omega) (fun i hi => HALL.out i (by omega))
          rwa [HN.out, List.take_length] at h
        exact ⟨n, rfl, by rw [he]; exact HN.out, by rw [he]; exact OT.to HO.out HB.out, only_of HB.out _ _⟩
end Go.Proofs.Ytnjmgmdpkogocaa

/-
  Parts of the proof, in their order: Sort, Order.
-/
import Derived.Test.YtnjmgmdpkogocaaPk5
import Derived.Test.YtnjmgmdpkogocaaPk3
import Derived.Deep.RegionHeld3
/-
  Contracts: tiles in ascending order, each once, as the reference puts them.
-/
namespace Go.Proofs.Ytnjmgmdpkogocaa
open Go Go.RowKit Go.Proofs
set_option linter.unusedVariables false
set_option linter.unusedSimpArgs false

/-- the place behind the last of the first k tiles that does not come behind t -/
def atGo (t : T4) (out : List T4) : Nat → Nat
  | 0 => 0
  | k + 1 => if ltT t (tk out k) = true then atGo t out k else k + 1
theorem atGo_le (t : T4) (out : List T4) : ∀ k, atGo t out k ≤ k
  | 0 => Nat.le_refl _
  | k + 1 => by
    simp only [atGo]
    split
    · have := atGo_le t out k; omega
    · omega
def insT (t : T4) (out : List T4) : List T4 :=
  if 0 < atGo t out out.length ∧ tk out (atGo t out out.length - 1) = t then out
  else out.take (atGo t out out.length) ++ (t :: out.drop (atGo t out out.length))
def sortK (ts : List T4) : Nat → List T4
  | 0 => []
  | k + 1 => insT (tk ts k) (sortK ts k)
theorem insT_len (t : T4) (out : List T4) : (insT t out).length ≤ out.length + 1 := by
  unfold insT
  have := atGo_le t out out.length
  split
  · omega
  · simp only [List.length_append, List.length_take, List.length_cons, List.length_drop]; omega
theorem sortK_len (ts : List T4) : ∀ k, (sortK ts k).length ≤ k
  | 0 => Nat.le_refl _
  | k + 1 => by
    have h1 := insT_len (tk ts k) (sortK ts k)
    have h2 := sortK_len ts k
    simp only [sortK]; omega
theorem insT_yes {t : T4} {out : List T4} {j : Nat} (hj : atGo t out out.length = j + 1) (h : tk out j = t) : insT t out = out := by
  unfold insT; rw [if_pos]; rw [hj]; exact ⟨by omega, by simpa using h⟩
theorem insT_no {t : T4} {out : List T4} {j : Nat} (hj : atGo t out out.length = j) (h : ¬ (0 < j ∧ tk out (j - 1) = t)) : insT t out = out.take j ++ (t :: out.drop j) := by
  unfold insT; rw [hj, if_neg h]

set_option maxHeartbeats 8000000 in
set_option maxRecDepth 100000 in
theorem l01Sort_any (A : Option Addr) (ts : List T4) (n c : Nat) (w : World) (hn : n = ts.length) (hA : RT w A ts) (hl : n ≤ 1000000) :
    Calls Try.prog 89 #[.slice A n c] w fun e w' => ∃ g ln c', e = .returned (.slice (some ⟨g, 0, none⟩) ln c') ∧ ln = (sortK ts n).length ∧ OW w' w.heap.size w'.heap.size 45 4 (.slice (some ⟨g, 0, none⟩) ln c') ln (tcells (sortK ts n)) ∧ Below w.heap.size w w' := by
  have HA := Lib.hid hA; have HN := Lib.hid hn; clear hA hn
  have hG := guardT
  go_enter Try.func89, Try.ntmps89
  go_wp2_with fail
  refine name1 ?_
  intro W3 b3 hz3 hB3
  have hO := OT.empty (base := w.heap.size) b3 (Nat.le_refl _)
  have HB3 := Lib.hid hB3
  clear hB3 hz3 b3
  go_loopw [3, 4] (fun v i wr => Below w.heap.size w wr ∧ ∃ k : Nat, k ≤ n ∧ i = .int .i64 k ∧ OT wr w.heap.size 45 v (sortK ts k) ∧ ∃ g c', v = .slice (some ⟨g, 0, none⟩) (sortK ts k).length c') (fun _ i _ => n - (intOf i).toNat)
  case atStart => exact ⟨HB3.out, 0, by omega, rfl, hO, _, _, rfl⟩
  case round =>
    obtain ⟨hB, k, hk, rfl, hP, g, c', rfl⟩ := hrel
    have HB4 := Lib.hid hB; clear hB hO
    have hlen := sortK_len ts k
    generalize hout : sortK ts k = out at hP hlen
    have HOUT := Lib.hid hout; clear hout
    generalize hln : out.length = ln at hP hlen
    have HLN := Lib.hid hln; clear hln
    have P4 := Lib.hid (show OT wr w.heap.size 45 (.slice (some ⟨g, 0, none⟩) ln c') out by exact hP); clear hP
    have hcap : ln ≤ c' := le_of (OW.of (show wr.ownsRow w.heap.size 45 4 (.slice (some ⟨g, 0, none⟩) ln c') ln (tcells out) by have := P4.out; unfold OT at this; rw [HLN.out] at this; exact this))
    by_cases hlt : k < n
    · have i1 : (k : Int) < n := by omega
      have HK := Lib.hid (show k < ts.length by have := HN.out; omega)
      obtain ⟨b, o, hAt, hbw, hcw⟩ := HA.out.cellj HK.out
      subst hAt
      have C0 := Lib.hid (hcw 0 (by omega)); have C1 := Lib.hid (hcw 1 (by omega)); have C2 := Lib.hid (hcw 2 (by omega)); have C3 := Lib.hid (hcw 3 (by omega))
      have BW := Lib.hid hbw
      clear hcw hbw
      go_wp2_with fail
      obtain ⟨wo, rfl⟩ : ∃ wo : World, wo = wr := ⟨_, rfl⟩
      go_loopw [5] (fun i w5 => Below wo.heap.size wo w5 ∧ ∃ j : Nat, j ≤ ln ∧ i = .int .i64 j ∧ atGo (tk ts k) out ln = atGo (tk ts k) out j) (fun i _ => (intOf i).toNat)
      case atStart => exact ⟨Below.refl _ _, ln, Nat.le_refl _, rfl, rfl⟩
      case round =>
        obtain ⟨hB5, j, hj, rfl, hat⟩ := hrel
        have HAT := Lib.hid hat; clear hat
        have HE5 := Lib.hid (below_to HB4.out hB5)
        have P5 := Lib.hid (P4.out.to hB5)
        have HB5 := Lib.hid hB5; clear hB5
        cases j with
        | zero =>
          go_wp2_with fail
          refine wp_region_gro (by kernel_rfl) (by kernel_rfl) ?_
          repeat (first | go_big_quiet_step (fail) | quiet_step (fail))
          refine wpQuiet_nil ?_
          intro wa hBa
          have HEa := Lib.hid (below_to HE5.out hBa)
          have Pa := Lib.hid (P5.out.to hBa); clear hBa
          go_wp2_with fail
          refine wp_region_gro (by kernel_rfl) (by kernel_rfl) ?_
          repeat (first | go_big_quiet_step (fail) | quiet_step (fail))
          refine wpQuiet_nil ?_
          intro w6 hB6
          have HE6 := Lib.hid (below_to HEa.out hB6)
          have P6 := Lib.hid (Pa.out.to hB6); clear hB6
          go_wp2_with fail
          have hJ : 0 ≤ ln := by omega
          have hJ2 : ((0 : Nat) : Int) ≤ ln := by omega
          have hJ3 : ((0 : Nat) : Int) ≤ c' := by omega
          have HS := Lib.hid (show [] ++ out.take 0 ++ ([tk ts k] ++ out.drop 0) = sortK ts (k + 1) by rw [sortK, HOUT.out, insT_no (j := 0) (by rw [HLN.out]; exact HAT.out) (by omega)] <;> simp)
          have hV := new_drew w6 (tk ts k).arr 45
          simp only [T4.arr] at hV
          have hW := (Below.refl w6.heap.size w6).drew
          have RV := Lib.hid (by simpa using (rt_own (P6.out.to hV.2.1) HLN.out).drop 0 : RT (w6.alloc (.cells #[.int .i64 ((tk ts k).get 0), .int .i64 ((tk ts k).get 1), .int .i64 ((tk ts k).get 2), .int .i64 ((tk ts k).get 3)] 45)).drew (some ⟨g, (0) * 4, none⟩) (out.drop (0)))
          go_region_held3 (fun w_ => w_.cell? ⟨b, o + k * 4, none⟩ = some (.int .i64 ((tk ts k).get 0)) ∧ w_.cell? ⟨b, o + k * 4 + 1, none⟩ = some (.int .i64 ((tk ts k).get 1)) ∧ w_.cell? ⟨b, o + k * 4 + 2, none⟩ = some (.int .i64 ((tk ts k).get 2)) ∧ w_.cell? ⟨b, o + k * 4 + 3, none⟩ = some (.int .i64 ((tk ts k).get 3)))
            (first | exact ⟨cell_to (below_to HE6.out B67) C0.out, cell_to (below_to HE6.out B67) C1.out, cell_to (below_to HE6.out B67) C2.out, cell_to (below_to HE6.out B67) C3.out⟩ | exact ⟨cell_to (below_to HE6.out hW) C0.out, cell_to (below_to HE6.out hW) C1.out, cell_to (below_to HE6.out hW) C2.out, cell_to (below_to HE6.out hW) C3.out⟩ | exact ⟨cell_to (below_to HE6.out hV.2.1) C0.out, cell_to (below_to HE6.out hV.2.1) C1.out, cell_to (below_to HE6.out hV.2.1) C2.out, cell_to (below_to HE6.out hV.2.1) C3.out⟩ | fail)
            ((refine step_tiles w6.heap.size rfl (.tmp 50) (.tmp 53) 24 45 rfl Try.underlying24 info45 (.slice (some ⟨w6.heap.size, 0, none⟩) 1 1) [tk ts k] (out.drop 0) rfl rfl (by have := HLN.out; simp only [List.length_drop]; omega) RV.out (OT.one hV.1 (Nat.le_refl _)) (by simp) hV.2.1.size (by have := HLN.out; simp only [List.length_drop, List.length_cons, List.length_nil]; omega) ?_; intro g7 n7 c7 w7 hn7 hO7 hG7 _; have N7 := Lib.hid hn7; clear hn7; have B67 := grown_below hV.2.1 hG7 (fun b hb => (by have := own_lo (OT.one hV.1 (Nat.le_refl _)) b hb; omega)); have O7 := Lib.hid hO7; clear hO7 hG7))
          have P7 := Lib.hid (P6.out.to B67)
          have HE7 := Lib.hid (below_to HE6.out B67)
          clear hV hW B67 RV
          go_wp2_with (first
            | (at_builtin; refine app_tiles w7.heap.size rfl (.tmp 55) (.tmp 58) 24 45 rfl Try.underlying24 info45 (.slice (some ⟨w7.heap.size, 0, none⟩) 0 0) [] (out.take 0) rfl rfl (by have := HLN.out; simp only [List.length_take]; omega) (((rt_own (P7.out.to (new_below w7 _)) HLN.out).take 0)) (OT.lit0 w7 _ _ (Nat.le_refl _)) (by simp) (new_below w7 _).size (by have := HLN.out; simp only [List.length_take, List.length_nil]; omega) ?_; intro g8 n8 c8 w8 hn8 hO8 hG8 _; have N8 := Lib.hid hn8; clear hn8; have B78 := grown_below (new_below w7 _) hG8 (fun b hb => (by have := own_lo (OT.lit0 w7 _ 45 (Nat.le_refl _)) b hb; omega)); have O8 := Lib.hid hO8; clear hO8 hG8)
            | (at_builtin; refine app_tiles w7.heap.size rfl (.tmp 59) (.tmp 60) 24 45 rfl Try.underlying24 info45 (.slice (some ⟨g8, 0, none⟩) n8 c8) ([] ++ out.take 0) ([tk ts k] ++ out.drop 0) rfl rfl N7.out (rt_own (O7.out.to B78) N7.out.symm) O8.out (by simp) B78.size (by have := HLN.out; simp only [List.length_append, List.length_take, List.length_drop, List.length_cons, List.length_nil]; omega) ?_; intro g9 n9 c9 w9 hn9 hO9 hG9 _; have N9 := Lib.hid hn9; clear hn9; have B79 := grown_below B78 hG9 (fun b hb => own_lo O8.out b hb); have O9 := Lib.hid hO9; clear hO9 hG9))
          go_roundw
          case rel => exact ⟨below_to HE7.out B79, k + 1, by omega, by go_num, by rw [← HS.out]; exact own_base O9.out HE7.out.size, g9, c9, by rw [← HS.out, N9.out]⟩
          case measure => (simp [intOf] <;> omega)
        | succ j =>
          have j1 : ((j : Nat) : Int) < ln := by omega
          obtain ⟨bg, og, eg, hbg, q0, q1, q2, q3⟩ := (rt_own P5.out HLN.out) j (by rw [HLN.out]; omega)
          obtain ⟨rfl, rfl⟩ : g = bg ∧ 0 = og := by injection eg with e; injection e with e1 e2; exact ⟨e1, e2⟩
          simp only [Nat.zero_add] at q0 q1 q2 q3
          have h0 := cell_to HE5.out C0.out; have h1 := cell_to HE5.out C1.out; have h2 := cell_to HE5.out C2.out; have h3 := cell_to HE5.out C3.out
          simp only [Nat.add_zero] at h0
          have hb := lt_to HE5.out BW.out
          clear eg
          cases hL : ltT (tk ts k) (tk out j)
          · have HL := Lib.hid hL; clear hL
            have HJ := Lib.hid (show atGo (tk ts k) out out.length = j + 1 by rw [HLN.out, HAT.out]; simp only [atGo]; rw [if_neg (by rw [HL.out]; simp)])
            go_wp2_with fail
            refine wp_region_gro (by kernel_rfl) (by kernel_rfl) ?_
            repeat (first | go_big_quiet_step (((go_at_call 94; exact quiet_call (by have h := l01Before_any (tk ts k) (tk out j) (gro wr ‹GP›); rw [HL.out] at h; exact h)))) | quiet_step (((go_at_call 94; exact quiet_call (by have h := l01Before_any (tk ts k) (tk out j) (gro wr ‹GP›); rw [HL.out] at h; exact h)))))
            refine wpQuiet_nil ?_
            intro wa hBa
            have HEa := Lib.hid (below_to HE5.out hBa)
            have Pa := Lib.hid (P5.out.to hBa)
            have q0 := cell_to hBa q0; have q1 := cell_to hBa q1; have q2 := cell_to hBa q2; have q3 := cell_to hBa q3
            have h0 := cell_to hBa h0; have h1 := cell_to hBa h1; have h2 := cell_to hBa h2; have h3 := cell_to hBa h3
            have hb := lt_to hBa hb; have hbg := lt_to hBa hbg
            clear hBa
            cases hd : decide (tk out j = tk ts k)
            · have hE := fun W => eqT_raw (tk out j) (tk ts k) W
              rw [hd] at hE
              have HQ := Lib.hid (of_decide_eq_false hd); clear hd
              go_wp2_with fail
              refine wp_region_gro (by kernel_rfl) (by kernel_rfl) ?_
              repeat (first | go_big_quiet_step (fail) | quiet_step (fail))
              refine wpQuiet_nil ?_
              intro w6 hB6
              have HE6 := Lib.hid (below_to HEa.out hB6)
              have P6 := Lib.hid (Pa.out.to hB6); clear hB6 hE q0 q1 q2 q3 h0 h1 h2 h3 hb hbg
              go_wp2_with fail
              obtain ⟨jj, hj1, hj2⟩ : ∃ jj : Nat, j + 1 = jj ∧ jj = j + 1 := ⟨j + 1, rfl, rfl⟩
              rw [hj1]
              have hjl : jj ≤ ln := by omega
              have HJ2 := Lib.hid hj2; clear hj1 hj2 j1 hj
              by_cases hcj : c' = jj
              · skip
                skip
                have hJ : jj ≤ ln := by omega
                have hJ2 : ((jj : Nat) : Int) ≤ ln := by omega
                have hJ3 : ((jj : Nat) : Int) ≤ c' := by omega
                have HS := Lib.hid (show [] ++ out.take jj ++ ([tk ts k] ++ out.drop jj) = sortK ts (k + 1) by rw [sortK, HOUT.out, insT_no (j := jj) (by rw [HJ.out, HJ2.out]) (fun h => HQ.out (by have h2 := h.2; rw [HJ2.out] at h2; simpa using h2))] <;> simp)
                have hV := new_drew w6 (tk ts k).arr 45
                simp only [T4.arr] at hV
                have hW := (Below.refl w6.heap.size w6).drew
                have RV := Lib.hid (by intro q hq; rw [List.length_drop, HLN.out] at hq; omega : RT (w6.alloc (.cells #[.int .i64 ((tk ts k).get 0), .int .i64 ((tk ts k).get 1), .int .i64 ((tk ts k).get 2), .int .i64 ((tk ts k).get 3)] 45)).drew (some ⟨g, 0, none⟩) (out.drop (jj)))
                go_region_held3 (fun w_ => w_.cell? ⟨b, o + k * 4, none⟩ = some (.int .i64 ((tk ts k).get 0)) ∧ w_.cell? ⟨b, o + k * 4 + 1, none⟩ = some (.int .i64 ((tk ts k).get 1)) ∧ w_.cell? ⟨b, o + k * 4 + 2, none⟩ = some (.int .i64 ((tk ts k).get 2)) ∧ w_.cell? ⟨b, o + k * 4 + 3, none⟩ = some (.int .i64 ((tk ts k).get 3)))
                  (first | exact ⟨cell_to (below_to HE6.out B67) C0.out, cell_to (below_to HE6.out B67) C1.out, cell_to (below_to HE6.out B67) C2.out, cell_to (below_to HE6.out B67) C3.out⟩ | exact ⟨cell_to (below_to HE6.out hW) C0.out, cell_to (below_to HE6.out hW) C1.out, cell_to (below_to HE6.out hW) C2.out, cell_to (below_to HE6.out hW) C3.out⟩ | exact ⟨cell_to (below_to HE6.out hV.2.1) C0.out, cell_to (below_to HE6.out hV.2.1) C1.out, cell_to (below_to HE6.out hV.2.1) C2.out, cell_to (below_to HE6.out hV.2.1) C3.out⟩ | fail)
                  ((refine step_tiles w6.heap.size rfl (.tmp 50) (.tmp 53) 24 45 rfl Try.underlying24 info45 (.slice (some ⟨w6.heap.size, 0, none⟩) 1 1) [tk ts k] (out.drop jj) rfl rfl (by have := HLN.out; simp only [List.length_drop]; omega) RV.out (OT.one hV.1 (Nat.le_refl _)) (by simp) hV.2.1.size (by have := HLN.out; simp only [List.length_drop, List.length_cons, List.length_nil]; omega) ?_; intro g7 n7 c7 w7 hn7 hO7 hG7 _; have N7 := Lib.hid hn7; clear hn7; have B67 := grown_below hV.2.1 hG7 (fun b hb => (by have := own_lo (OT.one hV.1 (Nat.le_refl _)) b hb; omega)); have O7 := Lib.hid hO7; clear hO7 hG7))
                have P7 := Lib.hid (P6.out.to B67)
                have HE7 := Lib.hid (below_to HE6.out B67)
                clear hV hW B67 RV
                go_wp2_with (first
                  | (at_builtin; refine app_tiles w7.heap.size rfl (.tmp 55) (.tmp 58) 24 45 rfl Try.underlying24 info45 (.slice (some ⟨w7.heap.size, 0, none⟩) 0 0) [] (out.take jj) rfl rfl (by have := HLN.out; simp only [List.length_take]; omega) (((rt_own (P7.out.to (new_below w7 _)) HLN.out).take jj)) (OT.lit0 w7 _ _ (Nat.le_refl _)) (by simp) (new_below w7 _).size (by have := HLN.out; simp only [List.length_take, List.length_nil]; omega) ?_; intro g8 n8 c8 w8 hn8 hO8 hG8 _; have N8 := Lib.hid hn8; clear hn8; have B78 := grown_below (new_below w7 _) hG8 (fun b hb => (by have := own_lo (OT.lit0 w7 _ 45 (Nat.le_refl _)) b hb; omega)); have O8 := Lib.hid hO8; clear hO8 hG8)
                  | (at_builtin; refine app_tiles w7.heap.size rfl (.tmp 59) (.tmp 60) 24 45 rfl Try.underlying24 info45 (.slice (some ⟨g8, 0, none⟩) n8 c8) ([] ++ out.take jj) ([tk ts k] ++ out.drop jj) rfl rfl N7.out (rt_own (O7.out.to B78) N7.out.symm) O8.out (by simp) B78.size (by have := HLN.out; simp only [List.length_append, List.length_take, List.length_drop, List.length_cons, List.length_nil]; omega) ?_; intro g9 n9 c9 w9 hn9 hO9 hG9 _; have N9 := Lib.hid hn9; clear hn9; have B79 := grown_below B78 hG9 (fun b hb => own_lo O8.out b hb); have O9 := Lib.hid hO9; clear hO9 hG9))
                go_roundw
                case rel => exact ⟨below_to HE7.out B79, k + 1, by omega, by go_num, by rw [← HS.out]; exact own_base O9.out HE7.out.size, g9, c9, by rw [← HS.out, N9.out]⟩
                case measure => (simp [intOf] <;> omega)
              · have hcn : ¬ jj = c' := fun e => hcj e.symm
                skip
                have hJ : jj ≤ ln := by omega
                have hJ2 : ((jj : Nat) : Int) ≤ ln := by omega
                have hJ3 : ((jj : Nat) : Int) ≤ c' := by omega
                have HS := Lib.hid (show [] ++ out.take jj ++ ([tk ts k] ++ out.drop jj) = sortK ts (k + 1) by rw [sortK, HOUT.out, insT_no (j := jj) (by rw [HJ.out, HJ2.out]) (fun h => HQ.out (by have h2 := h.2; rw [HJ2.out] at h2; simpa using h2))] <;> simp)
                have hV := new_drew w6 (tk ts k).arr 45
                simp only [T4.arr] at hV
                have hW := (Below.refl w6.heap.size w6).drew
                have RV := Lib.hid (by simpa using (rt_own (P6.out.to hV.2.1) HLN.out).drop jj : RT (w6.alloc (.cells #[.int .i64 ((tk ts k).get 0), .int .i64 ((tk ts k).get 1), .int .i64 ((tk ts k).get 2), .int .i64 ((tk ts k).get 3)] 45)).drew (some ⟨g, (jj) * 4, none⟩) (out.drop (jj)))
                go_region_held3 (fun w_ => w_.cell? ⟨b, o + k * 4, none⟩ = some (.int .i64 ((tk ts k).get 0)) ∧ w_.cell? ⟨b, o + k * 4 + 1, none⟩ = some (.int .i64 ((tk ts k).get 1)) ∧ w_.cell? ⟨b, o + k * 4 + 2, none⟩ = some (.int .i64 ((tk ts k).get 2)) ∧ w_.cell? ⟨b, o + k * 4 + 3, none⟩ = some (.int .i64 ((tk ts k).get 3)))
                  (first | exact ⟨cell_to (below_to HE6.out B67) C0.out, cell_to (below_to HE6.out B67) C1.out, cell_to (below_to HE6.out B67) C2.out, cell_to (below_to HE6.out B67) C3.out⟩ | exact ⟨cell_to (below_to HE6.out hW) C0.out, cell_to (below_to HE6.out hW) C1.out, cell_to (below_to HE6.out hW) C2.out, cell_to (below_to HE6.out hW) C3.out⟩ | exact ⟨cell_to (below_to HE6.out hV.2.1) C0.out, cell_to (below_to HE6.out hV.2.1) C1.out, cell_to (below_to HE6.out hV.2.1) C2.out, cell_to (below_to HE6.out hV.2.1) C3.out⟩ | fail)
                  ((refine step_tiles w6.heap.size rfl (.tmp 50) (.tmp 53) 24 45 rfl Try.underlying24 info45 (.slice (some ⟨w6.heap.size, 0, none⟩) 1 1) [tk ts k] (out.drop jj) rfl rfl (by have := HLN.out; simp only [List.length_drop]; omega) RV.out (OT.one hV.1 (Nat.le_refl _)) (by simp) hV.2.1.size (by have := HLN.out; simp only [List.length_drop, List.length_cons, List.length_nil]; omega) ?_; intro g7 n7 c7 w7 hn7 hO7 hG7 _; have N7 := Lib.hid hn7; clear hn7; have B67 := grown_below hV.2.1 hG7 (fun b hb => (by have := own_lo (OT.one hV.1 (Nat.le_refl _)) b hb; omega)); have O7 := Lib.hid hO7; clear hO7 hG7))
                have P7 := Lib.hid (P6.out.to B67)
                have HE7 := Lib.hid (below_to HE6.out B67)
                clear hV hW B67 RV
                go_wp2_with (first
                  | (at_builtin; refine app_tiles w7.heap.size rfl (.tmp 55) (.tmp 58) 24 45 rfl Try.underlying24 info45 (.slice (some ⟨w7.heap.size, 0, none⟩) 0 0) [] (out.take jj) rfl rfl (by have := HLN.out; simp only [List.length_take]; omega) (((rt_own (P7.out.to (new_below w7 _)) HLN.out).take jj)) (OT.lit0 w7 _ _ (Nat.le_refl _)) (by simp) (new_below w7 _).size (by have := HLN.out; simp only [List.length_take, List.length_nil]; omega) ?_; intro g8 n8 c8 w8 hn8 hO8 hG8 _; have N8 := Lib.hid hn8; clear hn8; have B78 := grown_below (new_below w7 _) hG8 (fun b hb => (by have := own_lo (OT.lit0 w7 _ 45 (Nat.le_refl _)) b hb; omega)); have O8 := Lib.hid hO8; clear hO8 hG8)
                  | (at_builtin; refine app_tiles w7.heap.size rfl (.tmp 59) (.tmp 60) 24 45 rfl Try.underlying24 info45 (.slice (some ⟨g8, 0, none⟩) n8 c8) ([] ++ out.take jj) ([tk ts k] ++ out.drop jj) rfl rfl N7.out (rt_own (O7.out.to B78) N7.out.symm) O8.out (by simp) B78.size (by have := HLN.out; simp only [List.length_append, List.length_take, List.length_drop, List.length_cons, List.length_nil]; omega) ?_; intro g9 n9 c9 w9 hn9 hO9 hG9 _; have N9 := Lib.hid hn9; clear hn9; have B79 := grown_below B78 hG9 (fun b hb => own_lo O8.out b hb); have O9 := Lib.hid hO9; clear hO9 hG9))
                go_roundw
                case rel => exact ⟨below_to HE7.out B79, k + 1, by omega, by go_num, by rw [← HS.out]; exact own_base O9.out HE7.out.size, g9, c9, by rw [← HS.out, N9.out]⟩
                case measure => (simp [intOf] <;> omega)
            · have hE := fun W => eqT_raw (tk out j) (tk ts k) W
              rw [hd] at hE
              have HQ := Lib.hid (of_decide_eq_true hd); clear hd
              go_wp2_with fail
              refine wp_region_gro (by kernel_rfl) (by kernel_rfl) ?_
              repeat (first | go_big_quiet_step (fail) | quiet_step (fail))
              refine wpQuiet_nil ?_
              intro w6 hB6
              have HE6 := Lib.hid (below_to HEa.out hB6)
              have P6 := Lib.hid (Pa.out.to hB6); clear hB6 hE q0 q1 q2 q3 h0 h1 h2 h3 hb hbg
              go_wp2_with fail
              go_roundw
              case rel => exact ⟨HE6.out, k + 1, by omega, by go_num, by rw [sortK, HOUT.out, insT_yes HJ.out HQ.out]; exact P6.out, g, c', by rw [sortK, HOUT.out, insT_yes HJ.out HQ.out, HLN.out]⟩
              case measure => (simp [intOf] <;> omega)
          · have HL := Lib.hid hL; clear hL
            go_wp2_with fail
            refine wp_region_gro (by kernel_rfl) (by kernel_rfl) ?_
            repeat (first | go_big_quiet_step (((go_at_call 94; exact quiet_call (by have h := l01Before_any (tk ts k) (tk out j) (gro wr ‹GP›); rw [HL.out] at h; exact h)))) | quiet_step (((go_at_call 94; exact quiet_call (by have h := l01Before_any (tk ts k) (tk out j) (gro wr ‹GP›); rw [HL.out] at h; exact h)))))
            refine wpQuiet_nil ?_
            intro wa hBa
            have HEa := Lib.hid (below_to HB5.out hBa); clear hBa q0 q1 q2 q3 h0 h1 h2 h3 hb hbg
            go_wp2_with fail
            go_roundw
            case rel => exact ⟨HEa.out, j, by omega, by go_num, by rw [HAT.out]; simp only [atGo]; rw [if_pos HL.out]⟩
            case measure => (simp [intOf] <;> omega)
    · have hkn : k = n := by omega
      subst hkn
      go_wp2_with fail
      go_ret
      have hq : wr.ownsRow w.heap.size 45 4 (.slice (some ⟨g, 0, none⟩) ln c') out.length (tcells out) := P4.out
      refine ⟨g, ln, c', rfl, by rw [HOUT.out, HLN.out], ?_, HB4.out⟩
      rw [HOUT.out]
      rw [HLN.out] at hq
      exact OW.of hq
theorem isz26 : (Try.prog.info? 26).map (·.size) = some 2 := by kernel_rfl
set_option maxHeartbeats 1000000 in
theorem l01Made_any (C : Int) (A : Option Addr) (ts : List T4) (n c : Nat) (w : World) (hn : n = ts.length) (hA : RT w A ts) (hl : n ≤ 1000000) :
    Calls Try.prog 52 #[.int .i64 C, .slice A n c] w fun e w' => ∃ g ln c', e = .returned (.agg #[.int .i64 C, .slice (some ⟨g, 0, none⟩) ln c']) ∧ ln = (sortK ts n).length ∧ OW w' w.heap.size w'.heap.size 45 4 (.slice (some ⟨g, 0, none⟩) ln c') ln (tcells (sortK ts n)) ∧ Below w.heap.size w w' := by
  have HA := Lib.hid hA; have HN := Lib.hid hn; clear hA hn
  go_enter Try.func52, Try.ntmps52
  go_wp2_with fail
  refine namec1 ?_
  intro W1 b1 hz hb0
  refine (l01Sort_any A ts n c W1 HN.out (HA.out.below hb0) hl).mono ?_
  rintro e w1 ⟨g, ln, c', rfl, hln, hO, hB1⟩
  have b1' := b1.below hB1 b1.lt
  have hlo := hb0.size
  have hz2 : w.heap.size + 1 ≤ W1.heap.size := by omega
  have HB := Lib.hid (below_to hb0 hB1)
  have HO := Lib.hid hO
  have HL := Lib.hid hln
  have hl0 := b1'.lt
  have a0 : w1.cell? ⟨w.heap.size, 0, none⟩ = some (.int .i64 0) := b1'.cell rfl
  have a1 : w1.cell? ⟨w.heap.size, 1, none⟩ = some (.slice none 0 0) := b1'.cell rfl
  have f0 := b1'.frozen 0
  have f1 := b1'.frozen 1
  clear hO hB1 hz b1 hln
  go_wp2_with fail
  have hbk : BK ((w1.setCell ⟨w.heap.size, 0, none⟩ (.int .i64 C)).setCell ⟨w.heap.size, 1, none⟩ (.slice (some ⟨g, 0, none⟩) ln c')) w.heap.size #[.int .i64 C, .slice (some ⟨g, 0, none⟩) ln c'] 26 := (b1'.set 0 _).set 1 _
  ((try simp only [Exit.inBlock, Exit.then]); refine bodyPost_ret (results_cell_row rfl _ _ _ _ _ _ _ rfl hbk Try.underlying26 rfl isz26) rfl ?_)
  have hK : Only w.heap.size (w.heap.size + 1) w1 ((w1.setCell ⟨w.heap.size, 0, none⟩ (.int .i64 C)).setCell ⟨w.heap.size, 1, none⟩ (.slice (some ⟨g, 0, none⟩) ln c')) :=
    ((Only.refl _ _ _).setCell (Nat.le_refl _) (by omega) _ _).setCell (Nat.le_refl _) (by omega) _ _
  have hO2 := HO.out.only hK (.inr hz2)
  refine ⟨g, ln, c', rfl, HL.out, ⟨own_base hO2.own hlo, fun b hb => Nat.lt_of_lt_of_le (hO2.up b hb) hK.size, Nat.le_refl _⟩, below_only HB.out hK (Nat.le_refl _)⟩
end Go.Proofs.Ytnjmgmdpkogocaa

/-
  Plain laws: the order of tiles; ascending lists; the list that the reference's insertion makes.
-/
namespace Go.Proofs.Ytnjmgmdpkogocaa
open Go Go.RowKit Go.Proofs
set_option linter.unusedVariables false
set_option linter.unusedSimpArgs false

theorem ltT_iff {t u : T4} : ltT t u = true ↔ t.get 0 < u.get 0 ∨ (t.get 0 = u.get 0 ∧ (t.get 1 < u.get 1 ∨ (t.get 1 = u.get 1 ∧ (t.get 2 < u.get 2 ∨ (t.get 2 = u.get 2 ∧ t.get 3 < u.get 3))))) := by
  simp only [ltT]
  repeat' split
  all_goals simp only [decide_eq_true_eq]
  all_goals omega
theorem ltT_trans {t u v : T4} (h1 : ltT t u = true) (h2 : ltT u v = true) : ltT t v = true := by
  rw [ltT_iff] at *; omega
theorem ltT_tri (t u : T4) : ltT t u = true ∨ t = u ∨ ltT u t = true := by
  by_cases h1 : ltT t u = true
  · exact .inl h1
  · by_cases h2 : ltT u t = true
    · exact .inr (.inr h2)
    · refine .inr (.inl (T4.ext_get fun k hk => ?_))
      rw [ltT_iff] at h1 h2
      have : k = 0 ∨ k = 1 ∨ k = 2 ∨ k = 3 := by omega
      rcases this with rfl | rfl | rfl | rfl <;> omega
theorem ltT_asymm {t u : T4} (h1 : ltT t u = true) : ltT u t = false := by
  rw [← Bool.not_eq_true]; intro h2
  have := ltT_trans h1 h2
  rw [ltT_self] at this; cases this
/-- strictly ascending -/
def Asc (ts : List T4) : Prop := ts.Pairwise fun t u => ltT t u = true
/-- one strictly ascending list with the same members -/
theorem asc_unique : ∀ {ts us : List T4}, Asc ts → Asc us → (∀ t, t ∈ ts ↔ t ∈ us) → ts = us
  | [], [], _, _, _ => rfl
  | [], u :: us, _, _, h => by have := (h u).2 List.mem_cons_self; cases this
  | t :: ts, [], _, _, h => by have := (h t).1 List.mem_cons_self; cases this
  | t :: ts, u :: us, h1, h2, h => by
    have h1' := List.pairwise_cons.1 h1; have h2' := List.pairwise_cons.1 h2
    have e : t = u := by
      rcases List.mem_cons.1 ((h t).1 List.mem_cons_self) with e | m1
      · exact e
      · rcases List.mem_cons.1 ((h u).2 List.mem_cons_self) with e | m2
        · exact e.symm
        · have a := h2'.1 t m1
          have b := h1'.1 u m2
          rw [ltT_asymm a] at b; cases b
    subst e
    congr 1
    refine asc_unique h1'.2 h2'.2 fun x => ?_
    constructor
    · intro hx
      rcases List.mem_cons.1 ((h x).1 (List.mem_cons_of_mem _ hx)) with e | m
      · subst e
        have := h1'.1 x hx
        rw [ltT_self] at this; cases this
      · exact m
    · intro hx
      rcases List.mem_cons.1 ((h x).2 (List.mem_cons_of_mem _ hx)) with e | m
      · subst e
        have := h2'.1 x hx
        rw [ltT_self] at this; cases this
      · exact m
theorem tk_at {ts : List T4} {k : Nat} (h : k < ts.length) : ts[k] = tk ts k := by simp [tk, List.getD, List.getElem?_eq_getElem h]
theorem tk_mem {ts : List T4} {k : Nat} (h : k < ts.length) : tk ts k ∈ ts := by rw [← tk_at h]; exact List.getElem_mem h
/-- what atGo says -/
theorem atGo_spec (t : T4) (out : List T4) : ∀ k, k ≤ out.length → (∀ j, atGo t out k ≤ j → j < k → ltT t (tk out j) = true) ∧ (0 < atGo t out k → ltT t (tk out (atGo t out k - 1)) = false)
  | 0, _ => ⟨fun j _ h => absurd h (by omega), fun h => by simp [atGo] at h⟩
  | k + 1, hk => by
    have ih := atGo_spec t out k (by omega)
    simp only [atGo]
    by_cases h : ltT t (tk out k) = true
    · rw [if_pos h]
      refine ⟨fun j h1 h2 => ?_, ih.2⟩
      by_cases e : j = k
      · subst e; exact h
      · exact ih.1 j h1 (by omega)
    · rw [if_neg h]
      exact ⟨fun j h1 h2 => absurd h1 (by omega), fun _ => by simpa using h⟩
theorem insT_asc {t : T4} {out : List T4} (h : Asc out) : Asc (insT t out) := by
  obtain ⟨h1, h2⟩ := atGo_spec t out out.length (Nat.le_refl _)
  have hle := atGo_le t out out.length
  unfold insT
  generalize hj : atGo t out out.length = j at *
  split
  · exact h
  · rename_i hne
    have hd : ∀ u ∈ out.drop j, ltT t u = true := by
      intro u hu
      obtain ⟨i, hi, rfl⟩ := List.mem_iff_getElem.1 hu
      rw [List.length_drop] at hi
      rw [List.getElem_drop, tk_at (by omega)]
      exact h1 _ (by omega) (by omega)
    have ht : ∀ u ∈ out.take j, ltT u t = true := by
      intro u hu
      obtain ⟨i, hi, rfl⟩ := List.mem_iff_getElem.1 hu
      rw [List.length_take] at hi
      rw [List.getElem_take, tk_at (by omega)]
      have hj0 : 0 < j := by omega
      have hlast : ltT (tk out (j - 1)) t = true := by
        rcases ltT_tri (tk out (j - 1)) t with a | a | a
        · exact a
        · exact absurd ⟨hj0, a⟩ hne
        · rw [h2 hj0] at a; cases a
      by_cases e : i = j - 1
      · subst e; exact hlast
      · refine ltT_trans ?_ hlast
        have := (List.pairwise_iff_getElem.1 h) i (j - 1) (by omega) (by omega) (by omega)
        rwa [tk_at (by omega), tk_at (by omega)] at this
    unfold Asc
    rw [List.pairwise_append]
    refine ⟨h.sublist (List.take_sublist _ _), List.pairwise_cons.2 ⟨hd, h.sublist (List.drop_sublist _ _)⟩, ?_⟩
    intro a ha b hb
    rcases List.mem_cons.1 hb with rfl | hb
    · exact ht a ha
    · exact ltT_trans (ht a ha) (hd b hb)
theorem insT_mem {t : T4} {out : List T4} (x : T4) : x ∈ insT t out ↔ x = t ∨ x ∈ out := by
  unfold insT
  have hle := atGo_le t out out.length
  generalize atGo t out out.length = j at *
  split
  · rename_i h
    constructor
    · exact .inr
    · rintro (rfl | h')
      · rw [← h.2]; exact tk_mem (by omega)
      · exact h'
  · rw [List.mem_append, List.mem_cons]
    have : x ∈ out ↔ x ∈ out.take j ∨ x ∈ out.drop j := by rw [← List.mem_append, List.take_append_drop]
    rw [this]
    constructor
    · rintro (a | a | a)
      · exact .inr (.inl a)
      · exact .inl a
      · exact .inr (.inr a)
    · rintro (a | a | a)
      · exact .inr (.inl a)
      · exact .inl a
      · exact .inr (.inr a)
theorem sortK_asc (ts : List T4) : ∀ k, Asc (sortK ts k)
  | 0 => List.Pairwise.nil
  | k + 1 => insT_asc (sortK_asc ts k)
theorem sortK_mem (ts : List T4) (x : T4) : ∀ k, k ≤ ts.length → (x ∈ sortK ts k ↔ x ∈ ts.take k)
  | 0, _ => by simp [sortK]
  | k + 1, hk => by
    simp only [sortK]
    rw [insT_mem, sortK_mem ts x k (by omega), List.take_succ_eq_append_getElem (by omega), tk_at (by omega), List.mem_append, List.mem_singleton]
    exact Or.comm
/-- the ascending list with the members of ts -/
def sortT (ts : List T4) : List T4 := sortK ts ts.length
theorem sortT_asc (ts : List T4) : Asc (sortT ts) := sortK_asc ts _
theorem sortT_mem (ts : List T4) (x : T4) : x ∈ sortT ts ↔ x ∈ ts := by
  unfold sortT; rw [sortK_mem ts x _ (Nat.le_refl _), List.take_length]
theorem sortT_eq {ts us : List T4} (h : Asc us) (hm : ∀ t, t ∈ us ↔ t ∈ ts) : us = sortT ts :=
  asc_unique h (sortT_asc ts) fun t => (hm t).trans (sortT_mem ts t).symm
/-- equal neighbours once -/
def dedT : List T4 → List T4
  | [] => []
  | [t] => [t]
  | t :: u :: ts => if t = u then dedT (u :: ts) else t :: dedT (u :: ts)
theorem dedT_mem (x : T4) : ∀ ts : List T4, x ∈ dedT ts ↔ x ∈ ts
  | [] => Iff.rfl
  | [t] => Iff.rfl
  | t :: u :: ts => by
    have ih := dedT_mem x (u :: ts)
    simp only [dedT]
    split
    · rename_i e
      rw [ih]
      constructor
      · exact List.mem_cons_of_mem _
      · intro h
        rcases List.mem_cons.1 h with rfl | h
        · rw [e]; exact List.mem_cons_self
        · exact h
    · rw [List.mem_cons, List.mem_cons, ih]
theorem dedT_asc : ∀ ts : List T4, ts.Pairwise (fun t u => ltT u t = false) → Asc (dedT ts)
  | [], _ => List.Pairwise.nil
  | [t], _ => List.pairwise_singleton _ _
  | t :: u :: ts, h => by
    have h' := List.pairwise_cons.1 h
    have ih := dedT_asc (u :: ts) h'.2
    simp only [dedT]
    split
    · exact ih
    · rename_i hne
      refine List.pairwise_cons.2 ⟨fun x hx => ?_, ih⟩
      rw [dedT_mem] at hx
      have htu : ltT t u = true := by
        rcases ltT_tri t u with a | a | a
        · exact a
        · exact absurd a hne
        · rw [h'.1 u List.mem_cons_self] at a; cases a
      rcases List.mem_cons.1 hx with rfl | hx
      · exact htu
      · have hux := (List.pairwise_cons.1 h'.2).1 x hx
        rcases ltT_tri u x with a | a | a
        · exact ltT_trans htu a
        · rw [← a]; exact htu
        · rw [hux] at a; cases a
end Go.Proofs.Ytnjmgmdpkogocaa

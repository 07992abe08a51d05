/-
  Contracts: sets that are determined at a corner.
-/
import Derived.Test.YtaidmloaoogmoaaCode
namespace Go.Proofs.Ytaidmloaoogmoaa
open Go Go.RowKit Go.Proofs
set_option linter.unusedVariables false
set_option linter.unusedSimpArgs false

def detB (ts : List T4) (a b : Nat) : Bool := (List.range ts.length).all fun i => (List.range i).all fun k => !(decide ((tk ts i).get a = (tk ts k).get a) && decide ((tk ts i).get b = (tk ts k).get b))
theorem detB_true {ts : List T4} {a b n : Nat} (hn : n = ts.length) (h : ∀ i, i < n → ∀ k, k < i → ¬ ((tk ts i).get a = (tk ts k).get a ∧ (tk ts i).get b = (tk ts k).get b)) : true = detB ts a b := by
  symm
  simp only [detB, List.all_eq_true, List.mem_range, Bool.not_eq_true', Bool.and_eq_false_iff, decide_eq_false_iff_not]
  intro i hi k hk
  have := h i (by omega) k hk
  by_cases e : (tk ts i).get a = (tk ts k).get a
  · exact .inr fun e2 => this ⟨e, e2⟩
  · exact .inl e
theorem detB_false {ts : List T4} {a b i k : Nat} (hi : i < ts.length) (hk : k < i) (h : (tk ts i).get a = (tk ts k).get a ∧ (tk ts i).get b = (tk ts k).get b) : false = detB ts a b := by
  symm
  rw [← Bool.not_eq_true]
  simp only [detB, List.all_eq_true, List.mem_range, Bool.not_eq_true', Bool.and_eq_false_iff, decide_eq_false_iff_not]
  intro H
  rcases H i hi k hk with e | e
  · exact e h.1
  · exact e h.2
/-- what IsDetermined returns -/
def detR (C : Int) (ts : List T4) (corner : Int) : Bool × Int :=
  if isS C ts then if inB corner 0 3 then (detB ts corner.toNat ((corner + 1) % 4).toNat, 0) else (false, 2) else (false, 1)

set_option maxHeartbeats 4000000 in
theorem specDet_any (C : Int) (A : Option Addr) (ts : List T4) (n c : Nat) (corner : Int) (w : World) (hn : n = ts.length) (hA : RT w A ts) (hnc : n ≤ c) (hl : n ≤ 35184372088832) :
    Calls Try.prog 20 #[.agg #[.int .i64 C, .slice A n c], .int .i64 corner] w fun e w' => e = .returned (pairV (detR C ts corner)) ∧ Below w.heap.size w w' := by
  have HA := Lib.hid hA; have HN := Lib.hid hn; clear hA hn
  cases hs : isS C ts
  · have HS := Lib.hid hs; clear hs
    go_enter Try.func20, Try.ntmps20
    go_wp2_with fail
    refine namec1 ?_
    intro W1 b1 hz hb0
    refine (l01Is_any C A ts n c W1 HN.out (HA.out.below hb0) hl).mono ?_
    rintro e w1 ⟨rfl, hB1⟩
    rw [HS.out]
    have HB := Lib.hid (below_to hb0 hB1); clear hb0 hB1 hz b1
    go_wp2_with fail
    go_ret2
    exact ⟨ret_pair (by simp [detR, HS.out]), HB.out⟩
  · have HS := Lib.hid hs; clear hs
    cases hc : inB corner 0 3
    · have HC := Lib.hid hc; clear hc
      go_enter Try.func20, Try.ntmps20
      go_wp2_with fail
      refine namec1 ?_
      intro W1 b1 hz hb0
      refine (l01Is_any C A ts n c W1 HN.out (HA.out.below hb0) hl).mono ?_
      rintro e w1 ⟨rfl, hB1⟩
      rw [HS.out]
      have HB := Lib.hid (below_to hb0 hB1); clear hb0 hB1 hz b1
      go_wp2_with (go_at_call 60; refine (l01In_any _ _ _ _).mono ?_; rintro e w' ⟨rfl, rfl⟩; rw [HC.out])
      go_ret2
      exact ⟨ret_pair (by simp [detR, HS.out, HC.out]), HB.out⟩
    · obtain ⟨hc1, hc2⟩ := inB_iff.1 hc
      obtain ⟨a, rfl⟩ := Int.eq_ofNat_of_zero_le hc1
      have ha : a < 4 := by omega
      have hb : (a + 1) % 4 < 4 := by omega
      generalize hbe : (a + 1) % 4 = b at hb
      have hb' : ((a : Int) + 1) % 4 = (b : Int) := by omega
      have HR := Lib.hid (show detR C ts a = (detB ts a b, 0) by unfold detR; rw [HS.out, hc, hb']; simp)
      have HC := Lib.hid hc; clear hc hbe hc1 hc2
      go_enter Try.func20, Try.ntmps20
      go_wp2_with fail
      refine namec1 ?_
      intro W1 b1 hz hb0
      refine (l01Is_any C A ts n c W1 HN.out (HA.out.below hb0) hl).mono ?_
      rintro e w1 ⟨rfl, hB1⟩
      rw [HS.out]
      have b1' := b1.below hB1 b1.lt
      have HB := Lib.hid (below_to hb0 hB1); clear hb0 hB1 hz b1
      go_wp2_with (go_at_call 60; refine (l01In_any _ _ _ _).mono ?_; rintro e w' ⟨rfl, rfl⟩; rw [HC.out])
      rw [hb']
      clear hb'
      go_loopw [8] (fun i wr => Below w1.heap.size w1 wr ∧ ∃ k : Nat, k ≤ n ∧ i = .int .i64 k ∧ ∀ i', i' < k → ∀ k', k' < i' → ¬ ((tk ts i').get a = (tk ts k').get a ∧ (tk ts i').get b = (tk ts k').get b)) (fun i _ => n - (intOf i).toNat)
      case atStart => exact ⟨Below.refl _ _, 0, by omega, rfl, fun j h => absurd h (by omega)⟩
      case round =>
        obtain ⟨hB1, i, hi, rfl, hall⟩ := hrel
        have HB1 := Lib.hid hB1; have HALL := Lib.hid hall; clear hB1 hall
        have bw := b1'.below HB1.out b1'.lt
        have a0 : wr.cell? ⟨w.heap.size, 0, none⟩ = some (.int .i64 C) := bw.cell rfl
        have a1 : wr.cell? ⟨w.heap.size, 1, none⟩ = some (.slice A n c) := bw.cell rfl
        have l1 := bw.lt
        by_cases hlt : i < n
        · have i1 : (i : Int) < n := by omega
          go_wp2_with fail
          obtain ⟨wo, rfl⟩ : ∃ wo : World, wo = wr := ⟨_, rfl⟩
          go_loopw [9] (fun k wr => Below wo.heap.size wo wr ∧ ∃ k' : Nat, k' ≤ i ∧ k = .int .i64 k' ∧ ∀ k'', k'' < k' → ¬ ((tk ts i).get a = (tk ts k'').get a ∧ (tk ts i).get b = (tk ts k'').get b)) (fun k _ => i - (intOf k).toNat)
          case atStart => exact ⟨Below.refl _ _, 0, by omega, rfl, fun j h => absurd h (by omega)⟩
          case round =>
            obtain ⟨hB2, k, hk, rfl, hall2⟩ := hrel
            have HB2 := Lib.hid hB2; have HALL2 := Lib.hid hall2; clear hB2 hall2
            have bw2 := bw.below HB2.out bw.lt
            have A0 : wr.cell? ⟨w.heap.size, 0, none⟩ = some (.int .i64 C) := bw2.cell rfl
            have A1 : wr.cell? ⟨w.heap.size, 1, none⟩ = some (.slice A n c) := bw2.cell rfl
            have L1 := bw2.lt
            have HBE := Lib.hid (below_to (below_to HB.out HB1.out) HB2.out)
            clear a0 a1 l1
            by_cases hlt2 : k < i
            · have k1 : (k : Int) < n := by omega
              have k2 : (k : Int) < i := by omega
              obtain ⟨bb, o, rfl, hbb, ci, ck⟩ := (HA.out.below HBE.out).cell2 (k := i) (i := k) (by have := HN.out; omega) (by have := HN.out; omega)
              have cia := ci a ha; have cib := ci b hb; have cka := ck a ha; have ckb := ck b hb
              have sa : (a : Int) < 4 := by omega
              have sb : (b : Int) < 4 := by omega
              clear ci ck
              by_cases ea : (tk ts i).get a = (tk ts k).get a
              · have EA := Lib.hid ea; clear ea
                have ea' : ((tk ts i).get a == (tk ts k).get a) = true := by simp [EA.out]
                by_cases eb : (tk ts i).get b = (tk ts k).get b
                · have EB := Lib.hid eb; clear eb
                  have eb' : ((tk ts i).get b == (tk ts k).get b) = true := by simp [EB.out]
                  go_wp2_with fail
                  refine wp_region_gro (by kernel_rfl) (by kernel_rfl) ?_
                  repeat (first | go_big_quiet_step (fail) | quiet_step (fail))
                  refine wpQuiet_nil ?_
                  intro w3 hB3
                  have HB3 := Lib.hid (below_to HBE.out hB3); clear hB3
                  go_wp2_with fail
                  go_ret2
                  exact ⟨ret_pair (by rw [HR.out, ← detB_false (by have := HN.out; omega) hlt2 ⟨EA.out, EB.out⟩]), HB3.out⟩
                · have EB := Lib.hid eb; clear eb
                  have eb' : ((tk ts i).get b == (tk ts k).get b) = false := by simpa using EB.out
                  go_wp2_with fail
                  refine wp_region_gro (by kernel_rfl) (by kernel_rfl) ?_
                  repeat (first | go_big_quiet_step (fail) | quiet_step (fail))
                  refine wpQuiet_nil ?_
                  intro w3 hB3
                  have HB3 := Lib.hid (below_to HB2.out hB3); clear hB3
                  go_wp2_with fail
                  go_roundw
                  case rel => exact ⟨HB3.out, k + 1, by omega, by go_num, fun j hj => by
                      by_cases e : j = k
                      · subst e; exact fun h => EB.out h.2
                      · exact HALL2.out j (by omega)⟩
                  case measure => simp [intOf]; omega
              · have EA := Lib.hid ea; clear ea
                have ea' : ((tk ts i).get a == (tk ts k).get a) = false := by simpa using EA.out
                go_wp2_with fail
                refine wp_region_gro (by kernel_rfl) (by kernel_rfl) ?_
                repeat (first | go_big_quiet_step (fail) | quiet_step (fail))
                refine wpQuiet_nil ?_
                intro w3 hB3
                have HB3 := Lib.hid (below_to HB2.out hB3); clear hB3
                go_wp2_with fail
                go_roundw
                case rel => exact ⟨HB3.out, k + 1, by omega, by go_num, fun j hj => by
                    by_cases e : j = k
                    · subst e; exact fun h => EA.out h.1
                    · exact HALL2.out j (by omega)⟩
                case measure => simp [intOf]; omega
            · go_wp2_with fail
              go_roundw
              case rel => exact ⟨below_to HB1.out HB2.out, i + 1, by omega, by go_num, fun j hj => by
                  by_cases e : j = i
                  · subst e; exact fun k' hk' => HALL2.out k' (by omega)
                  · exact HALL.out j (by omega)⟩
              case measure => simp [intOf]; omega
        · go_wp2_with fail
          go_ret2
          exact ⟨ret_pair (by rw [HR.out, ← detB_true HN.out fun i' h' => HALL.out i' (by omega)]), below_to HB.out HB1.out⟩

set_option maxHeartbeats 400000 in
theorem det1_any (corner : Int) (B : Nat) (w : World) (hc : w.cell? ⟨B, 0, none⟩ = some (.int .i64 corner)) :
    Calls Try.prog 62 #[.pointer (some ⟨B, 0, none⟩)] w fun e w' => e = .returned (.bool (inB corner 0 3)) ∧ Below w.heap.size w w' := by
  go_enter Try.func62, Try.ntmps62
  go_wp2_with (go_at_call 59; refine (within_any _ _ _ _).mono ?_; rintro e w' ⟨rfl, rfl⟩)
  all_goals go_ret
  all_goals exact ⟨rfl, Below.refl _ _⟩

set_option maxHeartbeats 4000000 in
theorem implDet_any (C : Int) (A : Option Addr) (ts : List T4) (n c : Nat) (corner : Int) (w : World) (hn : n = ts.length) (hA : RT w A ts) (hnc : n ≤ c) (hl : n ≤ 35184372088832) :
    Calls Try.prog 21 #[.agg #[.int .i64 C, .slice A n c], .int .i64 corner] w fun e w' => e = .returned (pairV (detR C ts corner)) ∧ Below w.heap.size w w' := by
  have HA := Lib.hid hA; have HN := Lib.hid hn; clear hA hn
  have hcode := fun W1 (h0 : Below w.heap.size w W1) (b2 : BK W1 (w.heap.size + 1) #[.int .i64 corner] 2) =>
    setCode_any C A ts n c 62 #[.pointer (some ⟨w.heap.size + 1, 0, none⟩)] (inB corner 0 3) W1 HN.out (HA.out.below h0) hl (enters_of Try.func62 (by kernel_rfl) rfl)
      (fun _ W hW => det1_any corner _ W (cell_to hW (b2.cell rfl)))
  have HCODE := Lib.hid hcode; clear hcode
  by_cases hok : isS C ts = true ∧ inB corner 0 3 = true
  · obtain ⟨hs, hc⟩ := hok
    obtain ⟨hc1, hc2⟩ := inB_iff.1 hc
    obtain ⟨a, rfl⟩ := Int.eq_ofNat_of_zero_le hc1
    have ha : a < 4 := by omega
    have hb : (a + 1) % 4 < 4 := by omega
    generalize hbe : (a + 1) % 4 = b at hb
    have hb' : ((a : Int) + 1) % 4 = (b : Int) := by omega
    have HR := Lib.hid (show detR C ts a = (detB ts a b, 0) by unfold detR; rw [hs, hc, hb']; simp)
    have HC := Lib.hid (show codeOf (isS C ts) (inB a 0 3) = 0 by rw [hs, hc]; rfl); clear hc hbe hc1 hc2 hs
    go_enter Try.func21, Try.ntmps21
    go_wp2_with fail
    refine namec2 ?_
    intro W1 b1 b2 hz hb0
    refine (HCODE.out W1 hb0 b2).mono ?_
    rintro e w1 ⟨rfl, hB1⟩
    rw [HC.out]
    have b1' := b1.below hB1 b1.lt
    have b2' := b2.below hB1 b2.lt
    have HB := Lib.hid (below_to hb0 hB1); clear hb0 hB1 hz b1 b2
    have c0 : w1.cell? ⟨w.heap.size + 1, 0, none⟩ = some (.int .i64 a) := b2'.cell rfl
    have l0 := b2'.lt
    go_wp2_with fail
    refine wp_region_gro (by kernel_rfl) (by kernel_rfl) ?_
    repeat (first | go_big_quiet_step (fail) | quiet_step (fail))
    refine wpQuiet_nil ?_
    intro w2 hB2
    have b1w := b1'.below hB2 b1'.lt
    have HB2 := Lib.hid (below_to HB.out hB2); clear hB2 b1' b2' l0 c0
    have a0 : w2.cell? ⟨w.heap.size, 0, none⟩ = some (.int .i64 C) := b1w.cell rfl
    have a1 : w2.cell? ⟨w.heap.size, 1, none⟩ = some (.slice A n c) := b1w.cell rfl
    go_wp2_with fail
    rw [hb']
    clear hb' a0 a1
    go_loopw [26] (fun i wr => Below w2.heap.size w2 wr ∧ ∃ k : Nat, k ≤ n ∧ i = .int .i64 k ∧ ∀ i', i' < k → ∀ k', k' < i' → ¬ ((tk ts i').get a = (tk ts k').get a ∧ (tk ts i').get b = (tk ts k').get b)) (fun i _ => n - (intOf i).toNat)
    case atStart => exact ⟨Below.refl _ _, 0, by omega, rfl, fun j h => absurd h (by omega)⟩
    case round =>
      obtain ⟨hB1, i, hi, rfl, hall⟩ := hrel
      have HB1 := Lib.hid hB1; have HALL := Lib.hid hall; clear hB1 hall
      have bw := b1w.below HB1.out b1w.lt
      have a0 : wr.cell? ⟨w.heap.size, 0, none⟩ = some (.int .i64 C) := bw.cell rfl
      have a1 : wr.cell? ⟨w.heap.size, 1, none⟩ = some (.slice A n c) := bw.cell rfl
      have l1 := bw.lt
      by_cases hlt : i < n
      · have i1 : (i : Int) < n := by omega
        have i2 : (i : Int) ≤ c := by omega
        have HE1 := Lib.hid (below_to HB2.out HB1.out)
        have hT := HA.out.below HE1.out
        obtain ⟨bb, o, hA', hbb, h0, h1, h2, h3⟩ := hT i (by have := HN.out; omega)
        subst hA'
        go_wp2_with fail
        refine name1 ?_
        intro W3 b3 hz3 hB3
        have bw3 := bw.below hB3 bw.lt
        have HE3 := Lib.hid (below_to HE1.out hB3)
        have HB3 := Lib.hid (below_to HB1.out hB3)
        have l3 := b3.lt
        clear hB3 hz3 a0 a1 l1 h0 h1 h2 h3 hbb hT
        have a0 : W3.cell? ⟨w.heap.size, 0, none⟩ = some (.int .i64 C) := bw3.cell rfl
        have a1 : W3.cell? ⟨w.heap.size, 1, none⟩ = some (.slice (some ⟨bb, o, none⟩) n c) := bw3.cell rfl
        go_wp2_with fail
        obtain ⟨wo, rfl⟩ : ∃ wo : World, wo = wr := ⟨_, rfl⟩
        have b3a : BK W3 wo.heap.size (tk ts i).arr 67 := b3
        clear b3 a0 a1 bw
        go_loopw [36] (fun k wr => Below W3.heap.size W3 wr ∧ ∃ k' : Nat, k' ≤ i ∧ k = .int .i64 k' ∧ ∀ k'', k'' < k' → ¬ ((tk ts i).get a = (tk ts k'').get a ∧ (tk ts i).get b = (tk ts k'').get b)) (fun k _ => i - (intOf k).toNat)
        case atStart => exact ⟨Below.refl _ _, 0, by omega, rfl, fun j h => absurd h (by omega)⟩
        case round =>
          obtain ⟨hB4, k, hk, rfl, hall2⟩ := hrel
          have HB4 := Lib.hid hB4; have HALL2 := Lib.hid hall2; clear hB4 hall2
          have HE4 := Lib.hid (below_to HE3.out HB4.out)
          have b3b := b3a.below HB4.out l3
          by_cases hlt2 : k < i
          · have k1 : (k : Int) < n := by omega
            have k2 : (k : Int) < i := by omega
            obtain ⟨bb', o', hA', hbb, h0, h1, h2, h3⟩ := (HA.out.below HE4.out) k (by have := HN.out; omega)
            obtain ⟨rfl, rfl⟩ : bb = bb' ∧ o = o' := by injection hA' with e; injection e with e1 e2; exact ⟨e1, e2⟩
            clear hA'
            have sa : (a : Int) < 4 := by omega
            have sb : (b : Int) < 4 := by omega
            by_cases ea : (tk ts i).get a = (tk ts k).get a
            · have EA := Lib.hid ea; clear ea
              have ea' : ((tk ts i).get a == (tk ts k).get a) = true := by simp [EA.out]
              by_cases eb : (tk ts i).get b = (tk ts k).get b
              · have EB := Lib.hid eb; clear eb
                have eb' : ((tk ts i).get b == (tk ts k).get b) = true := by simp [EB.out]
                go_wp2_with fail
                refine name1 ?_
                intro W5 b5 hz5 hB5
                have b5a : BK W5 wr.heap.size (tk ts k).arr 67 := b5
                have b3c := b3b.below hB5 b3b.lt
                have c1 := b3c.cell ((tk ts i).cell a ha); have c2 := b3c.cell ((tk ts i).cell b hb)
                have c3 := b5a.cell ((tk ts k).cell a ha); have c4 := b5a.cell ((tk ts k).cell b hb)
                have l5 := b5a.lt; have l3c := b3c.lt
                have HE5 := Lib.hid (below_to HE4.out hB5); clear hB5 hz5 b5
                go_wp2_with fail
                refine wp_region_gro (by kernel_rfl) (by kernel_rfl) ?_
                repeat (first | go_big_quiet_step (fail) | quiet_step (fail))
                refine wpQuiet_nil ?_
                intro w6 hB6
                have HE6 := Lib.hid (below_to HE5.out hB6); clear hB6
                go_wp2_with fail
                go_ret2
                exact ⟨ret_pair (by rw [HR.out, ← detB_false (by have := HN.out; omega) hlt2 ⟨EA.out, EB.out⟩]), HE6.out⟩
              · have EB := Lib.hid eb; clear eb
                have eb' : ((tk ts i).get b == (tk ts k).get b) = false := by simpa using EB.out
                go_wp2_with fail
                refine name1 ?_
                intro W5 b5 hz5 hB5
                have b5a : BK W5 wr.heap.size (tk ts k).arr 67 := b5
                have b3c := b3b.below hB5 b3b.lt
                have c1 := b3c.cell ((tk ts i).cell a ha); have c2 := b3c.cell ((tk ts i).cell b hb)
                have c3 := b5a.cell ((tk ts k).cell a ha); have c4 := b5a.cell ((tk ts k).cell b hb)
                have l5 := b5a.lt; have l3c := b3c.lt
                have HE5 := Lib.hid (below_to HB4.out hB5); clear hB5 hz5 b5
                go_wp2_with fail
                refine wp_region_gro (by kernel_rfl) (by kernel_rfl) ?_
                repeat (first | go_big_quiet_step (fail) | quiet_step (fail))
                refine wpQuiet_nil ?_
                intro w6 hB6
                have HE6 := Lib.hid (below_to HE5.out hB6); clear hB6
                go_wp2_with fail
                go_roundw
                case rel => exact ⟨HE6.out, k + 1, by omega, by go_num, fun j hj => by
                    by_cases e : j = k
                    · subst e; exact fun h => EB.out h.2
                    · exact HALL2.out j (by omega)⟩
                case measure => simp [intOf]; omega
            · have EA := Lib.hid ea; clear ea
              have ea' : ((tk ts i).get a == (tk ts k).get a) = false := by simpa using EA.out
              go_wp2_with fail
              refine name1 ?_
              intro W5 b5 hz5 hB5
              have b5a : BK W5 wr.heap.size (tk ts k).arr 67 := b5
              have b3c := b3b.below hB5 b3b.lt
              have c1 := b3c.cell ((tk ts i).cell a ha); have c2 := b3c.cell ((tk ts i).cell b hb)
              have c3 := b5a.cell ((tk ts k).cell a ha); have c4 := b5a.cell ((tk ts k).cell b hb)
              have l5 := b5a.lt; have l3c := b3c.lt
              have HE5 := Lib.hid (below_to HB4.out hB5); clear hB5 hz5 b5
              go_wp2_with fail
              refine wp_region_gro (by kernel_rfl) (by kernel_rfl) ?_
              repeat (first | go_big_quiet_step (fail) | quiet_step (fail))
              refine wpQuiet_nil ?_
              intro w6 hB6
              have HE6 := Lib.hid (below_to HE5.out hB6); clear hB6
              go_wp2_with fail
              go_roundw
              case rel => exact ⟨HE6.out, k + 1, by omega, by go_num, fun j hj => by
                  by_cases e : j = k
                  · subst e; exact fun h => EA.out h.1
                  · exact HALL2.out j (by omega)⟩
              case measure => simp [intOf]; omega
          · go_wp2_with fail
            go_roundw
            case rel => exact ⟨below_to HB3.out HB4.out, i + 1, by omega, by go_num, fun j hj => by
                by_cases e : j = i
                · subst e; exact fun k' hk' => HALL2.out k' (by omega)
                · exact HALL.out j (by omega)⟩
            case measure => simp [intOf]; omega
      · go_wp2_with fail
        go_ret2
        exact ⟨ret_pair (by rw [HR.out, ← detB_true HN.out fun i' h' => HALL.out i' (by omega)]), below_to HB2.out HB1.out⟩
  · have HR := Lib.hid (show (false, codeOf (isS C ts) (inB corner 0 3)) = detR C ts corner by
      unfold detR codeOf
      cases hs : isS C ts
      · simp
      · have : inB corner 0 3 = false := by
          cases h : inB corner 0 3
          · rfl
          · exact absurd ⟨hs, h⟩ hok
        simp [this])
    have hne : (codeOf (isS C ts) (inB corner 0 3) != 0) = true := by
      unfold codeOf
      cases hs : isS C ts
      · simp
      · cases hc : inB corner 0 3
        · simp
        · exact absurd ⟨hs, hc⟩ hok
    clear hok
    go_enter Try.func21, Try.ntmps21
    go_wp2_with fail
    refine namec2 ?_
    intro W1 b1 b2 hz hb0
    refine (HCODE.out W1 hb0 b2).mono ?_
    rintro e w1 ⟨rfl, hB1⟩
    have HB := Lib.hid (below_to hb0 hB1); clear hb0 hB1 hz b1 b2
    go_wp2_with fail
    go_ret2
    exact ⟨ret_pair HR.out, HB.out⟩
end Go.Proofs.Ytaidmloaoogmoaa

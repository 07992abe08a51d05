/-
  Contracts: what is a set, in the reference and in the program.
-/
import Derived.Test.YtbcnddeelefomaaDoorLaw0
namespace Go.Proofs.YtbcnddeelefomaaDoor
open Go Go.RowKit Go.Proofs
set_option linter.unusedVariables false
set_option linter.unusedSimpArgs false

theorem isS_of {c : Int} {ts : List T4} (h1 : inB c 1 6 = true) (h2 : ts.length ≤ 16) (h3 : OkS c ts) : isS c ts = true := isS_iff.2 ⟨inB_iff.1 h1, h2, h3⟩
theorem isS_c {c : Int} {ts : List T4} (h1 : inB c 1 6 = false) : isS c ts = false := by simp [isS, h1]
theorem isS_len {c : Int} {ts : List T4} (h1 : 16 < ts.length) : isS c ts = false := by
  have : decide (ts.length ≤ 16) = false := by simp; omega
  simp [isS, this]
theorem isS_ok {c : Int} {ts : List T4} (h : ¬ OkS c ts) : isS c ts = false := by
  have : okB c ts = false := by rw [← Bool.not_eq_true, okB_iff]; exact h
  simp [isS, this]

set_option maxHeartbeats 2000000 in
theorem l01Is_any (C : Int) (A : Option Addr) (ts : List T4) (n c : Nat) (w : World) (hn : n = ts.length) (hA : RT w A ts) (hl : n ≤ 35184372088832) :
    Calls Tryd.prog 18 #[.agg #[.int .i64 C, .slice A n c]] w fun e w' => e = .returned (.bool (isS C ts)) ∧ Below w.heap.size w w' := by
  have HA := Lib.hid hA; have HN := Lib.hid hn; clear hA hn
  cases hC : inB C 1 6
  · have HC := Lib.hid hC; clear hC
    go_enter Tryd.func18, Tryd.ntmps18
    go_wp2_with (go_at_call 30; refine (l01In_any _ _ _ _).mono ?_; rintro e w' ⟨rfl, rfl⟩; rw [HC.out])
    go_ret
    exact ⟨ret_bool (isS_c HC.out).symm, by simpa using (Below.refl _ _).alloc (Nat.le_refl _) _⟩
  · have HC := Lib.hid hC; clear hC
    obtain ⟨hc1, hc2⟩ := inB_iff.1 HC.out
    by_cases h16 : n ≤ 16
    · go_enter Tryd.func18, Tryd.ntmps18
      go_wp2_with (go_at_call 30; refine (l01In_any _ _ _ _).mono ?_; rintro e w' ⟨rfl, rfl⟩; rw [HC.out])
      refine name1 ?_
      intro W1 b1 hz hb0
      have HB0 := Lib.hid hb0; have HZ := Lib.hid hz; clear hb0 hz
      go_loopw [3] (fun i wr => Below W1.heap.size W1 wr ∧ ∃ k : Nat, k ≤ n ∧ i = .int .i64 k ∧ ∀ j, j < k → tileB (tk ts j) (C - 1) = true ∧ (0 < j → ltT (tk ts (j - 1)) (tk ts j) = true)) (fun i _ => n - (intOf i).toNat)
      case atStart => exact ⟨Below.refl _ _, 0, by omega, rfl, fun j h => absurd h (by omega)⟩
      case round =>
        obtain ⟨hB, k, hk, rfl, hall⟩ := hrel
        have b1' := b1.below hB b1.lt
        have HE := Lib.hid (below_to HB0.out hB)
        have hT := HA.out.below HE.out
        have HB := Lib.hid hB; have HALL := Lib.hid hall; clear hB hall
        have a0 : wr.cell? ⟨w.heap.size, 0, none⟩ = some (.int .i64 C) := b1'.cell rfl
        have a1 : wr.cell? ⟨w.heap.size, 1, none⟩ = some (.slice A n c) := b1'.cell rfl
        have l1 := b1'.lt
        have hw1 : wrap64 (C - 1) = C - 1 := by unfold wrap64; omega
        by_cases hlt : k < n
        · have i1 : (k : Int) < n := by omega
          have HK := Lib.hid (show k < ts.length by have := HN.out; omega)
          cases ht : tileB (tk ts k) (C - 1)
          · have HT := Lib.hid (show tileB (tk ts k) (wrap64 (C - 1)) = false by rw [hw1]; exact ht); clear ht hw1
            obtain ⟨b, o, rfl, hb, h0, h1, h2, h3⟩ := hT k HK.out
            clear hT
            go_wp2_with fail
            refine wp_region_gro (by kernel_rfl) (by kernel_rfl) ?_
            repeat (first | go_big_quiet_step (((go_at_call 31; exact quiet_call (by have h := l01Tile_any C (tk ts k) (gro wr ‹GP›); rw [HT.out] at h; exact h)))) | quiet_step (((go_at_call 31; exact quiet_call (by have h := l01Tile_any C (tk ts k) (gro wr ‹GP›); rw [HT.out] at h; exact h)))))
            refine wpQuiet_nil ?_
            intro w1 hB1
            have HB1 := Lib.hid hB1; clear hB1
            go_wp2
            go_ret
            exact ⟨ret_bool (isS_ok fun h => by have := (h k HK.out).1; have h2 := HT.out; rw [show wrap64 (C - 1) = C - 1 by unfold wrap64; omega] at h2; rw [h2] at this; cases this).symm, below_to HE.out HB1.out⟩
          · have HT := Lib.hid (show tileB (tk ts k) (wrap64 (C - 1)) = true by rw [hw1]; exact ht)
            have HT2 := Lib.hid ht
            clear ht hw1
            cases k with
            | zero =>
              obtain ⟨b, o, rfl, hb, h0, h1, h2, h3⟩ := hT 0 HK.out
              simp only [Nat.zero_mul, Nat.add_zero] at h0 h1 h2 h3
              clear hT
              go_wp2_with fail
              refine wp_region_gro (by kernel_rfl) (by kernel_rfl) ?_
              repeat (first | go_big_quiet_step (((go_at_call 31; exact quiet_call (by have h := l01Tile_any C (tk ts 0) (gro wr ‹GP›); rw [HT.out] at h; exact h)))) | quiet_step (((go_at_call 31; exact quiet_call (by have h := l01Tile_any C (tk ts 0) (gro wr ‹GP›); rw [HT.out] at h; exact h)))))
              refine wpQuiet_nil ?_
              intro w1 hB1
              have HB1 := Lib.hid hB1; clear hB1
              go_wp2
              go_roundw
              case rel => exact ⟨below_to HB.out HB1.out, 0 + 1, by omega, by go_num, fun j hj => by
                  obtain rfl : j = 0 := by omega
                  exact ⟨HT2.out, fun h => absurd h (by omega)⟩⟩
              case measure => simp [intOf]; omega
            | succ k =>
              obtain ⟨b, o, hA', hb, h0, h1, h2, h3⟩ := hT (k + 1) HK.out
              obtain ⟨b', o', hA'', hb', h0', h1', h2', h3'⟩ := hT k (by have := HK.out; omega)
              subst hA'
              obtain ⟨rfl, rfl⟩ : b = b' ∧ o = o' := by injection hA'' with e; injection e with e1 e2; exact ⟨e1, e2⟩
              clear hT hA''
              have i0 : (k : Int) < n := by omega
              cases hlT : ltT (tk ts k) (tk ts (k + 1))
              · have HL := Lib.hid hlT; clear hlT
                go_wp2_with fail
                refine wp_region_gro (by kernel_rfl) (by kernel_rfl) ?_
                repeat (first | go_big_quiet_step (((first | (go_at_call 31; exact quiet_call (by have h := l01Tile_any C (tk ts (k + 1)) (gro wr ‹GP›); rw [HT.out] at h; exact h)) | (go_at_call 32; exact quiet_call (by have h := l01Before_any (tk ts k) (tk ts (k + 1)) (gro wr ‹GP›); rw [HL.out] at h; exact h))))) | quiet_step (((first | (go_at_call 31; exact quiet_call (by have h := l01Tile_any C (tk ts (k + 1)) (gro wr ‹GP›); rw [HT.out] at h; exact h)) | (go_at_call 32; exact quiet_call (by have h := l01Before_any (tk ts k) (tk ts (k + 1)) (gro wr ‹GP›); rw [HL.out] at h; exact h))))))
                refine wpQuiet_nil ?_
                intro w1 hB1
                have HB1 := Lib.hid hB1; clear hB1
                go_wp2
                go_ret
                exact ⟨ret_bool (isS_ok fun h => by have := (h (k + 1) HK.out).2 (by omega); rw [Nat.add_sub_cancel, HL.out] at this; cases this).symm, below_to HE.out HB1.out⟩
              · have HL := Lib.hid hlT; clear hlT
                go_wp2_with fail
                refine wp_region_gro (by kernel_rfl) (by kernel_rfl) ?_
                repeat (first | go_big_quiet_step (((first | (go_at_call 31; exact quiet_call (by have h := l01Tile_any C (tk ts (k + 1)) (gro wr ‹GP›); rw [HT.out] at h; exact h)) | (go_at_call 32; exact quiet_call (by have h := l01Before_any (tk ts k) (tk ts (k + 1)) (gro wr ‹GP›); rw [HL.out] at h; exact h))))) | quiet_step (((first | (go_at_call 31; exact quiet_call (by have h := l01Tile_any C (tk ts (k + 1)) (gro wr ‹GP›); rw [HT.out] at h; exact h)) | (go_at_call 32; exact quiet_call (by have h := l01Before_any (tk ts k) (tk ts (k + 1)) (gro wr ‹GP›); rw [HL.out] at h; exact h))))))
                refine wpQuiet_nil ?_
                intro w1 hB1
                have HB1 := Lib.hid hB1; clear hB1
                go_wp2
                go_roundw
                case rel => exact ⟨below_to HB.out HB1.out, k + 1 + 1, by omega, by go_num, fun j hj => by
                    by_cases e : j = k + 1
                    · subst e; exact ⟨HT2.out, fun _ => by rw [Nat.add_sub_cancel]; exact HL.out⟩
                    · exact HALL.out j (by omega)⟩
                case measure => simp [intOf]; omega
        · go_wp2_with fail
          go_ret
          exact ⟨ret_bool (isS_of HC.out (by have := HN.out; omega) fun j hj => HALL.out j (by have := HN.out; omega)).symm, HE.out⟩
    · go_enter Tryd.func18, Tryd.ntmps18
      go_wp2_with (go_at_call 30; refine (l01In_any _ _ _ _).mono ?_; rintro e w' ⟨rfl, rfl⟩; rw [HC.out])
      go_ret
      exact ⟨ret_bool (isS_len (by have := HN.out; omega)).symm, by simpa using (Below.refl _ _).alloc (Nat.le_refl _) _⟩

set_option maxHeartbeats 400000 in
theorem isTile1_any (x c : Int) (B : Nat) (w : World) (hc : w.cell? ⟨B, 0, none⟩ = some (.int .i64 c)) :
    Calls Tryd.prog 48 #[.int .i64 x, .pointer (some ⟨B, 0, none⟩)] w fun e w' => e = .returned (.bool (!inB x 0 (wrap64 (c-1)))) ∧ w = w' := by
  go_enter Tryd.func48, Tryd.ntmps48
  go_wp2_with (go_at_call 37; refine (within_any _ _ _ _).mono ?_; rintro e w' ⟨rfl, rfl⟩)
  all_goals go_ret
  all_goals exact ⟨rfl, rfl⟩
/-- what a predicate on numbers, handed over as a function value, says -/
def PredI (P : Program) (g : FuncId) (cap : Array Value) (p : Int → Bool) (w : World) : Prop :=
  ∀ (W : World) (x : Int), Below w.heap.size w W → Calls P g (#[.int .i64 x] ++ cap) W fun e w' => e = .returned (.bool (p x)) ∧ Below W.heap.size W w'
def PredT (P : Program) (g : FuncId) (cap : Array Value) (p : T4 → Bool) (w : World) : Prop :=
  ∀ (W : World) (t : T4), Below w.heap.size w W → Calls P g (#[.agg t.arr] ++ cap) W fun e w' => e = .returned (.bool (p t)) ∧ Below W.heap.size W w'
/-- the first place from k on at which p holds, or -1 -/
def idxL {α : Type} (p : α → Bool) (xs : List α) : Int := match xs.findIdx? p with | some i => i | none => -1
theorem idxL_at {α : Type} {p : α → Bool} {xs : List α} {k : Nat} (hk : k < xs.length) (h : ∀ j (hj : j < xs.length), j < k → p xs[j] = false) (hp : p xs[k] = true) : (k : Int) = idxL p xs := by
  have : xs.findIdx? p = some k := by
    rw [List.findIdx?_eq_some_iff_getElem]
    exact ⟨hk, hp, fun j hj => by simp [h j (by omega) hj]⟩
  simp [idxL, this]
theorem idxL_none {α : Type} {p : α → Bool} {xs : List α} (h : ∀ j (hj : j < xs.length), p xs[j] = false) : (-1 : Int) = idxL p xs := by
  have : xs.findIdx? p = none := by
    rw [List.findIdx?_eq_none_iff]
    intro x hx
    obtain ⟨j, hj, rfl⟩ := List.getElem_of_mem hx
    exact h j hj
  simp [idxL, this]
theorem idxL_any {α : Type} {p : α → Bool} {xs : List α} : decide (0 ≤ idxL p xs) = xs.any p := by
  unfold idxL
  cases h : xs.findIdx? p with
  | none =>
    rw [List.findIdx?_eq_none_iff] at h
    have : xs.any p = false := by rw [List.any_eq_false]; simpa using h
    simp [this]
  | some i =>
    rw [List.findIdx?_eq_some_iff_getElem] at h
    have : xs.any p = true := List.any_eq_true.2 ⟨_, List.getElem_mem h.1, h.2.1⟩
    simp [this]
theorem ik_get {xs : List Int} {k : Nat} (h : k < xs.length) : xs[k] = ik xs k := by simp [ik, h]
theorem tk_get {xs : List T4} {k : Nat} (h : k < xs.length) : xs[k] = tk xs k := by simp [tk, h]

end Go.Proofs.YtbcnddeelefomaaDoor

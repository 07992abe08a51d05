/-
  Parts of the proof, in their order: Sets, Law1.
-/
import Derived.Test.YtnjmgmdpkogocaaPk3
import Derived.Test.YtnjmgmdpkogocaaPk4
/-
  Contracts: lists of sets; tiles sought in sets.
-/
namespace Go.Proofs.Ytnjmgmdpkogocaa
open Go Go.RowKit Go.Proofs
set_option linter.unusedVariables false
set_option linter.unusedSimpArgs false

structure SetD where
  C : Int
  A : Option Addr
  ts : List T4
  c : Nat
deriving Inhabited
def sk (ss : List SetD) (k : Nat) : SetD := ss.getD k default
theorem sk_get {ss : List SetD} {k : Nat} (h : k < ss.length) : ss[k] = sk ss k := by simp [sk, h]
/-- the sets ss lie in block b -/
def RS (w : World) (b : Nat) (ss : List SetD) : Prop := ∀ k, k < ss.length → w.cell? ⟨b, k * 2, none⟩ = some (.int .i64 (sk ss k).C) ∧ w.cell? ⟨b, k * 2 + 1, none⟩ = some (.slice (sk ss k).A (sk ss k).ts.length (sk ss k).c) ∧ RT w (sk ss k).A (sk ss k).ts ∧ (sk ss k).ts.length ≤ 35184372088832
theorem RS.below {w w' : World} {b : Nat} {ss : List SetD} (h : RS w b ss) (hb : Below w.heap.size w w') : RS w' b ss := fun k hk =>
  let ⟨h1, h2, h3, h4⟩ := h k hk
  ⟨cell_to hb h1, cell_to hb h2, h3.below hb, h4⟩

set_option maxHeartbeats 400000 in
theorem areSets1_any (C : Int) (A : Option Addr) (ts : List T4) (n c : Nat) (w : World) (hn : n = ts.length) (hA : RT w A ts) (hl : n ≤ 35184372088832) :
    Calls Try.prog 98 #[.agg #[.int .i64 C, .slice A n c]] w fun e w' => e = .returned (.bool (!isS C ts)) ∧ Below w.heap.size w w' := by
  have HA := Lib.hid hA; have HN := Lib.hid hn; clear hA hn
  go_enter Try.func98, Try.ntmps98
  go_wp2_with fail
  refine namec1 ?_
  intro W1 b1 hz hb0
  refine (IsSet_any C A ts n c W1 HN.out (HA.out.below hb0) hl).mono ?_
  rintro e w1 ⟨rfl, hB1⟩
  have HB0 := Lib.hid (below_to hb0 hB1); clear hb0 hB1 hz b1
  generalize hrb : isS C ts = rb
  have HRB := Lib.hid hrb; clear hrb
  go_wp2_with fail
  go_ret
  exact ⟨ret_bool (by rw [HRB.out]), HB0.out⟩

set_option maxHeartbeats 1000000 in
theorem IndexFuncS_any (b : Nat) (ss : List SetD) (n c : Nat) (w : World) (hn : n = ss.length) (hA : RS w b ss) (hl : n ≤ 35184372088832) :
    Calls Try.prog 112 #[.slice (some ⟨b, 0, none⟩) n c, .func (.func 98) #[] #[]] w fun e w' => e = .returned (.int .i64 (idxL (fun s => !isS s.C s.ts) ss)) ∧ Below w.heap.size w w' := by
  have eg := enters_of Try.func98 (by kernel_rfl) rfl
  have HA := Lib.hid hA; have HN := Lib.hid hn; clear hA hn
  go_enter Try.func112, Try.ntmps112
  go_wp2_with fail
  go_loopw [8] (fun i wr => Below w.heap.size w wr ∧ ∃ k : Nat, k ≤ n ∧ i = .int .i64 k ∧ ∀ j (hj : j < ss.length), j < k → (!isS ss[j].C ss[j].ts) = false) (fun i _ => n - (intOf i).toNat)
  case atStart => exact ⟨Below.refl _ _, 0, by omega, rfl, fun j _ h => absurd h (by omega)⟩
  case round =>
    obtain ⟨hB, k, hk, rfl, hall⟩ := hrel
    have hT := HA.out.below hB
    have HB := Lib.hid hB; have HALL := Lib.hid hall; clear hB hall
    by_cases hlt : k < n
    · have i1 : (k : Int) < n := by omega
      have HK := Lib.hid (show k < ss.length by have := HN.out; omega)
      obtain ⟨h0, h1, hR, hle⟩ := hT k HK.out
      have HR := Lib.hid hR
      clear hT hR
      cases hpk : !isS (sk ss k).C (sk ss k).ts
      · have HX := Lib.hid hpk; clear hpk
        go_wp2_with fail
        refine (areSets1_any (sk ss k).C (sk ss k).A (sk ss k).ts _ (sk ss k).c wr rfl HR.out hle).mono ?_
        rintro e w1 ⟨rfl, hB1⟩
        rw [HX.out]
        have HB1 := Lib.hid hB1; clear hB1
        go_wp2_with fail
        go_roundw
        case rel => exact ⟨below_to HB.out HB1.out, k + 1, by omega, by go_num, fun j hj hj' => by
            by_cases e : j = k
            · subst e; rw [sk_get]; exact HX.out
            · exact HALL.out j hj (by omega)⟩
        case measure => simp [intOf]; omega
      · have HX := Lib.hid hpk; clear hpk
        go_wp2_with fail
        refine (areSets1_any (sk ss k).C (sk ss k).A (sk ss k).ts _ (sk ss k).c wr rfl HR.out hle).mono ?_
        rintro e w1 ⟨rfl, hB1⟩
        rw [HX.out]
        have HB1 := Lib.hid hB1; clear hB1
        go_wp2_with fail
        go_ret
        exact ⟨ret_int (idxL_at (p := fun s => !isS s.C s.ts) HK.out HALL.out (by rw [sk_get]; exact HX.out)), below_to HB.out HB1.out⟩
    · go_wp2_with fail
      go_ret
      exact ⟨ret_int (idxL_none (p := fun s => !isS s.C s.ts) fun j hj => HALL.out j hj (by have := HN.out; omega)), HB.out⟩

set_option maxHeartbeats 400000 in
theorem areSets_any (b : Nat) (C D : Int) (A A' : Option Addr) (ts us : List T4) (n m c c' : Nat) (E : TypeId) (w : World) (hn : n = ts.length) (hm : m = us.length) (hb : BK w b #[.int .i64 C, .slice A n c, .int .i64 D, .slice A' m c'] E) (hA : RT w A ts) (hA' : RT w A' us) (hl : n ≤ 35184372088832) (hl' : m ≤ 35184372088832) :
    Calls Try.prog 71 #[.slice (some ⟨b, 0, none⟩) 2 2] w fun e w' => e = .returned (.bool (isS C ts && isS D us)) ∧ Below w.heap.size w w' := by
  subst hn hm
  have hS : RS w b [⟨C, A, ts, c⟩, ⟨D, A', us, c'⟩] := by
    intro k hk
    have hk2 : k < 2 := by simpa using hk
    match k, hk2 with
    | 0, _ => exact ⟨hb.cell rfl, hb.cell rfl, hA, hl⟩
    | 1, _ => exact ⟨hb.cell rfl, hb.cell rfl, hA', hl'⟩
  have HS := Lib.hid hS; clear hS hb hA hA'
  have HX := Lib.hid (show (!decide (0 ≤ idxL (fun s : SetD => !isS s.C s.ts) [⟨C, A, ts, c⟩, ⟨D, A', us, c'⟩])) = (isS C ts && isS D us) by rw [idxL_any]; simp)
  go_enter Try.func71, Try.ntmps71
  go_wp2_with fail
  have hcf : ∀ W, Below w.heap.size w W → Calls Try.prog 97 #[.slice (some ⟨b, 0, none⟩) 2 2, .func (.func 98) #[] #[]] W fun e w' => e = .returned (.bool (decide (0 ≤ idxL (fun s : SetD => !isS s.C s.ts) [⟨C, A, ts, c⟩, ⟨D, A', us, c'⟩]))) ∧ Below W.heap.size W w' := by
    intro W hW
    go_enter Try.func97, Try.ntmps97
    go_wp2_with fail
    refine (IndexFuncS_any b _ 2 2 W rfl (HS.out.below hW) (by omega)).mono ?_
    rintro e w1 ⟨rfl, hB1⟩
    have HB1 := Lib.hid hB1; clear hB1
    go_wp2_with fail
    go_ret
    exact ⟨rfl, HB1.out⟩
  refine (hcf w (Below.refl _ _)).mono ?_
  rintro e w1 ⟨rfl, hB1⟩
  have HB1 := Lib.hid hB1; clear hB1 hcf
  generalize decide (0 ≤ idxL (fun s : SetD => !isS s.C s.ts) [⟨C, A, ts, c⟩, ⟨D, A', us, c'⟩]) = rb at HX
  go_wp2_with fail
  go_ret
  exact ⟨ret_bool HX.out, HB1.out⟩

/-- tiles sought -/
def hasT (ts : List T4) (t : T4) : Bool := ts.any fun u => decide (u = t)
theorem hasT_at {ts : List T4} {t : T4} {k : Nat} (hk : k < ts.length) (h : tk ts k = t) : hasT ts t = true :=
  List.any_eq_true.2 ⟨ts[k], List.getElem_mem hk, by rw [tk_get]; simpa using h⟩
theorem hasT_no {ts : List T4} {t : T4} (h : ∀ j, j < ts.length → tk ts j ≠ t) : hasT ts t = false := by
  rw [hasT, List.any_eq_false]
  intro x hx
  obtain ⟨j, hj, rfl⟩ := List.getElem_of_mem hx
  rw [tk_get]
  simpa using h j hj
set_option maxHeartbeats 1000000 in
theorem l01Has_any (C : Int) (A : Option Addr) (ts : List T4) (n c : Nat) (t : T4) (w : World) (hn : n = ts.length) (hA : RT w A ts) (hl : n ≤ 35184372088832) :
    Calls Try.prog 76 #[.agg #[.int .i64 C, .slice A n c], .agg t.arr] w fun e w' => e = .returned (.bool (hasT ts t)) ∧ Below w.heap.size w w' := by
  have HA := Lib.hid hA; have HN := Lib.hid hn; clear hA hn
  have hG := guardT
  go_enter Try.func76, Try.ntmps76
  go_wp2_with fail
  refine name2 ?_
  intro W1 b1 b2 hz hb0
  have HB0 := Lib.hid hb0; clear hb0 hz
  go_loopw [5] (fun i wr => Below W1.heap.size W1 wr ∧ ∃ k : Nat, k ≤ n ∧ i = .int .i64 k ∧ ∀ j, j < k → tk ts j ≠ t) (fun i _ => n - (intOf i).toNat)
  case atStart => exact ⟨Below.refl _ _, 0, by omega, rfl, fun j h => absurd h (by omega)⟩
  case round =>
    obtain ⟨hB, k, hk, rfl, hall⟩ := hrel
    have b1' := b1.below hB b1.lt
    have b2' := b2.below hB b2.lt
    have HE := Lib.hid (below_to HB0.out hB)
    have HB := Lib.hid hB; have HALL := Lib.hid hall; clear hB hall
    have a1 : wr.cell? ⟨w.heap.size, 1, none⟩ = some (.slice A n c) := b1'.cell rfl
    have l1 := b1'.lt
    have l2 := b2'.lt
    have t0 := b2'.cell (t.cell 0 (by omega)); have t1 := b2'.cell (t.cell 1 (by omega)); have t2 := b2'.cell (t.cell 2 (by omega)); have t3 := b2'.cell (t.cell 3 (by omega))
    by_cases hlt : k < n
    · have i1 : (k : Int) < n := by omega
      have HK := Lib.hid (show k < ts.length by have := HN.out; omega)
      obtain ⟨b, o, hA', hb, h0, h1, h2, h3⟩ := (HA.out.below HE.out) k HK.out
      subst hA'
      cases hd : decide (tk ts k = t)
      · have hE := fun W => eqT_raw (tk ts k) t W
        rw [hd] at hE
        have HQ := Lib.hid (of_decide_eq_false hd)
        clear hd
        go_wp2_with fail
        refine wp_region_gro (by kernel_rfl) (by kernel_rfl) ?_
        repeat (first | go_big_quiet_step (fail) | quiet_step (fail))
        refine wpQuiet_nil ?_
        intro w1 hB1
        have HB1 := Lib.hid (below_to HB.out hB1); clear hB1
        clear hE
        go_wp2_with fail
        go_roundw
        case rel => exact ⟨HB1.out, k + 1, by omega, by go_num, fun j hj => by
            by_cases e : j = k
            · subst e; exact HQ.out
            · exact HALL.out j (by omega)⟩
        case measure => simp [intOf]; omega
      · have hE := fun W => eqT_raw (tk ts k) t W
        rw [hd] at hE
        have HQ := Lib.hid (of_decide_eq_true hd)
        clear hd
        go_wp2_with fail
        refine wp_region_gro (by kernel_rfl) (by kernel_rfl) ?_
        repeat (first | go_big_quiet_step (fail) | quiet_step (fail))
        refine wpQuiet_nil ?_
        intro w1 hB1
        have HB1 := Lib.hid (below_to HE.out hB1); clear hB1
        clear hE
        go_wp2_with fail
        go_ret
        exact ⟨ret_bool (hasT_at HK.out HQ.out).symm, HB1.out⟩
    · go_wp2_with fail
      go_ret
      exact ⟨ret_bool (hasT_no fun j hj => HALL.out j (by have := HN.out; omega)).symm, HE.out⟩
set_option maxHeartbeats 1000000 in
theorem IndexT_any (A : Option Addr) (ts : List T4) (n c : Nat) (t : T4) (w : World) (hn : n = ts.length) (hA : RT w A ts) (hl : n ≤ 35184372088832) :
    Calls Try.prog 99 #[.slice A n c, .agg t.arr] w fun e w' => e = .returned (.int .i64 (idxL (fun u => decide (u = t)) ts)) ∧ Below w.heap.size w w' := by
  have HA := Lib.hid hA; have HN := Lib.hid hn; clear hA hn
  have hG := guardT
  go_enter Try.func99, Try.ntmps99
  go_wp2_with fail
  refine name1 ?_
  intro W1 b2 hz hb0
  have HB0 := Lib.hid hb0; clear hb0 hz
  go_loopw [8] (fun i wr => Below W1.heap.size W1 wr ∧ ∃ k : Nat, k ≤ n ∧ i = .int .i64 k ∧ ∀ j (hj : j < ts.length), j < k → decide (ts[j] = t) = false) (fun i _ => n - (intOf i).toNat)
  case atStart => exact ⟨Below.refl _ _, 0, by omega, rfl, fun j _ h => absurd h (by omega)⟩
  case round =>
    obtain ⟨hB, k, hk, rfl, hall⟩ := hrel
    have b2' := b2.below hB b2.lt
    have HE := Lib.hid (below_to HB0.out hB)
    have HB := Lib.hid hB; have HALL := Lib.hid hall; clear hB hall
    have l2 := b2'.lt
    have t0 := b2'.cell (t.cell 0 (by omega)); have t1 := b2'.cell (t.cell 1 (by omega)); have t2 := b2'.cell (t.cell 2 (by omega)); have t3 := b2'.cell (t.cell 3 (by omega))
    by_cases hlt : k < n
    · have i1 : (k : Int) < n := by omega
      have HK := Lib.hid (show k < ts.length by have := HN.out; omega)
      obtain ⟨b, o, hA', hb, h0, h1, h2, h3⟩ := (HA.out.below HE.out) k HK.out
      subst hA'
      cases hd : decide (tk ts k = t)
      · have hE := fun W => eqT_raw t (tk ts k) W
        rw [show decide (t = tk ts k) = false by rw [← hd]; exact decide_eq_decide.2 eq_comm] at hE
        have HQ := Lib.hid hd
        clear hd
        go_wp2_with fail
        refine wp_region_gro (by kernel_rfl) (by kernel_rfl) ?_
        repeat (first | go_big_quiet_step (fail) | quiet_step (fail))
        refine wpQuiet_nil ?_
        intro w1 hB1
        have HB1 := Lib.hid (below_to HB.out hB1); clear hB1
        clear hE
        go_wp2_with fail
        go_roundw
        case rel => exact ⟨HB1.out, k + 1, by omega, by go_num, fun j hj hj' => by
            by_cases e : j = k
            · subst e; rw [tk_get]; exact HQ.out
            · exact HALL.out j hj (by omega)⟩
        case measure => simp [intOf]; omega
      · have hE := fun W => eqT_raw t (tk ts k) W
        rw [show decide (t = tk ts k) = true by rw [← hd]; exact decide_eq_decide.2 eq_comm] at hE
        have HQ := Lib.hid hd
        clear hd
        go_wp2_with fail
        refine wp_region_gro (by kernel_rfl) (by kernel_rfl) ?_
        repeat (first | go_big_quiet_step (fail) | quiet_step (fail))
        refine wpQuiet_nil ?_
        intro w1 hB1
        have HB1 := Lib.hid (below_to HE.out hB1); clear hB1
        clear hE
        go_wp2_with fail
        go_ret
        exact ⟨ret_int (idxL_at (p := fun u => decide (u = t)) HK.out HALL.out (by rw [tk_get]; exact HQ.out)), HB1.out⟩
    · go_wp2_with fail
      go_ret
      exact ⟨ret_int (idxL_none (p := fun u => decide (u = t)) fun j hj => HALL.out j hj (by have := HN.out; omega)), HE.out⟩
set_option maxHeartbeats 400000 in
theorem ContainsT_any (A : Option Addr) (ts : List T4) (n c : Nat) (t : T4) (w : World) (hn : n = ts.length) (hA : RT w A ts) (hl : n ≤ 35184372088832) :
    Calls Try.prog 79 #[.slice A n c, .agg t.arr] w fun e w' => e = .returned (.bool (hasT ts t)) ∧ Below w.heap.size w w' := by
  have HA := Lib.hid hA; have HN := Lib.hid hn; clear hA hn
  have q0 := t.cell 0 (by omega); have q1 := t.cell 1 (by omega); have q2 := t.cell 2 (by omega); have q3 := t.cell 3 (by omega)
  go_enter Try.func79, Try.ntmps79
  go_wp2_with fail
  refine namec1 ?_
  intro W1 b2 hz hb0
  have HB0 := Lib.hid hb0; clear hb0 hz q0 q1 q2 q3
  refine (IndexT_any A ts n c t W1 HN.out (HA.out.below HB0.out) hl).mono ?_
  rintro e w1 ⟨rfl, hB1⟩
  have HB1 := Lib.hid (below_to HB0.out hB1); clear hB1
  go_wp2_with fail
  go_ret
  exact ⟨ret_bool idxL_any, HB1.out⟩
end Go.Proofs.Ytnjmgmdpkogocaa

/-
  Contracts of the laws' own helpers: numbers copied, compared; rows marked and looked at again.
-/
namespace Go.Proofs.Ytnjmgmdpkogocaa
open Go Go.RowKit Go.Proofs
set_option linter.unusedVariables false
set_option linter.unusedSimpArgs false

theorem info2 : (Try.prog.info? 2).map (fun i => (i.zero, i.size, i.bytes)) = some (some (.int .i64 0), 1, 8) := by kernel_rfl
set_option maxHeartbeats 1000000 in
theorem toInt64S_any (A : Option Addr) (xs : List Int) (n c : Nat) (w : World) (hn : n = xs.length) (hA : RI w A xs) (hl : xs.length ≤ 1048576) :
    Calls Try.prog 40 #[.slice A n c] w fun e w' => ∃ v, e = .returned v ∧ OI w' w.heap.size 2 v xs ∧ Below w.heap.size w w' := by
  subst hn
  have hmk := make_row (P := Try.prog) 48 2 _ 1 8 Try.underlying48 info2 rfl (by decide) xs.length (by omega)
  simp only [Nat.mul_one] at hmk
  have HA := Lib.hid hA; clear hA
  go_enter Try.func40, Try.ntmps40
  go_wp2
  refine name1 ?_
  intro W1 b1 hz hb0
  have HB0 := Lib.hid hb0; have HZ := Lib.hid hz; clear hb0 hz
  go_loopw [4] (fun i wr => Below w.heap.size w wr ∧ ∃ k : Nat, k ≤ xs.length ∧ i = .int .i64 k ∧ ∃ C, BK wr w.heap.size C 2 ∧ C.size = xs.length ∧ ∀ k', k' < k → C[k']? = some (.int .i64 (ik xs k'))) (fun i _ => xs.length - (intOf i).toNat)
  case atStart => exact ⟨HB0.out, 0, by omega, rfl, _, b1, made_size _ _, fun j h => absurd h (by omega)⟩
  case round =>
    obtain ⟨hB, k, hk, rfl, C, b3, hsz, hall⟩ := hrel
    have hT := HA.out.below hB
    have HB := Lib.hid hB; have HC := Lib.hid hall; have HS := Lib.hid hsz; clear hB hall hsz
    by_cases hlt : k < xs.length
    · obtain ⟨b, o, rfl, hb, h0⟩ := hT k hlt
      clear hT
      obtain ⟨x0, c0⟩ : ∃ x, wr.cell? ⟨w.heap.size, k, none⟩ = some x := ⟨_, b3.cell (Array.getElem?_eq_getElem (by rw [HS.out]; omega))⟩
      have f0 := b3.frozen k
      go_wp2
      go_roundw
      case rel => exact ⟨HB.out.setCell (Nat.le_refl _) _, k + 1, by omega, by go_num, _, b3.set k _, by rw [Array.size_setIfInBounds, HS.out], fun j hj => by
          rw [Array.getElem?_setIfInBounds, HS.out]
          by_cases e : k = j
          · subst e; rw [if_pos rfl, if_pos hlt]
          · rw [if_neg e]; exact HC.out j (by omega)⟩
      case measure => simp [intOf]; omega
    · go_wp2
      go_ret
      exact ⟨_, rfl, OI.of_block b3 (Nat.le_refl _) HS.out (Nat.le_refl _) (by omega) fun k' h' => HC.out k' (by omega), HB.out⟩
set_option maxHeartbeats 1000000 in
theorem eqInt64S_any (A A' : Option Addr) (ts us : List Int) (n m c c' : Nat) (w : World) (hn : n = ts.length) (hm : m = us.length) (hA : RI w A ts) (hA' : RI w A' us) (hl : ts.length ≤ 35184372088832) (hl' : us.length ≤ 35184372088832) :
    Calls Try.prog 42 #[.slice A n c, .slice A' m c'] w fun e w' => e = .returned (.bool (decide (ts = us))) ∧ Below w.heap.size w w' := by
  have HA := Lib.hid hA; have HA' := Lib.hid hA'; clear hA hA'
  by_cases hlen : n = m
  · have HL := Lib.hid (show ts.length = us.length by omega); have HN := Lib.hid hn; have HM := Lib.hid hlen
    have h1 : ((n : Int) != m) = false := by simp [hlen]
    have hn0 : n ≤ 35184372088832 := by omega
    clear hlen hn hm
    go_enter Try.func42, Try.ntmps42
    go_wp2
    go_loopw [5] (fun i wr => Below w.heap.size w wr ∧ ∃ k : Nat, k ≤ n ∧ i = .int .i64 k ∧ ∀ j, j < k → ik ts j = ik us j) (fun i _ => n - (intOf i).toNat)
    case atStart => exact ⟨Below.refl _ _, 0, by omega, rfl, fun j h => absurd h (by omega)⟩
    case round =>
      obtain ⟨hB, k, hk, rfl, hall⟩ := hrel
      have hT := HA.out.below hB
      have hT' := HA'.out.below hB
      have HB := Lib.hid hB; have HALL := Lib.hid hall; clear hB hall
      by_cases hlt : k < n
      · obtain ⟨b, o, rfl, hb, h0⟩ := hT k (by have := HN.out; omega)
        obtain ⟨b', o', rfl, hb', h0'⟩ := hT' k (by have := HN.out; have := HL.out; omega)
        have i1 : (k : Int) < n := by omega
        have i2 : (k : Int) < m := by have := HM.out; omega
        clear hT hT'
        by_cases he : ik ts k = ik us k
        · have HE := Lib.hid he; clear he
          have he' : (ik ts k != ik us k) = false := by simp [HE.out]
          go_wp2
          refine wp_region_gro (by kernel_rfl) (by kernel_rfl) ?_
          repeat (first | go_big_quiet_step (fail) | quiet_step (fail))
          refine wpQuiet_nil ?_
          intro w1 hB1
          have HB1 := Lib.hid hB1; clear hB1
          go_wp2
          go_roundw
          case rel => exact ⟨HB.out.trans (HB1.out.mono HB.out.size), k + 1, by omega, by go_num, fun j hj => by
            by_cases e : j = k
            · subst e; exact HE.out
            · exact HALL.out j (by omega)⟩
          case measure => simp [intOf]; omega
        · have HE := Lib.hid he; clear he
          have he' : (ik ts k != ik us k) = true := by simpa using HE.out
          go_wp2
          refine wp_region_gro (by kernel_rfl) (by kernel_rfl) ?_
          repeat (first | go_big_quiet_step (fail) | quiet_step (fail))
          refine wpQuiet_nil ?_
          intro w1 hB1
          have HB1 := Lib.hid hB1; clear hB1
          go_wp2
          go_ret
          exact ⟨ret_bool (by have : ts ≠ us := fun e => HE.out (by rw [e])
                              simp [this]), HB.out.trans (HB1.out.mono HB.out.size)⟩
      · go_wp2
        go_ret
        exact ⟨ret_bool (by have : ts = us := eq_of_ik HL.out fun j hj => HALL.out j (by have := HN.out; omega)
                            simp [this]), HB.out⟩
  · have h1 : ((n : Int) != m) = true := by simp; omega
    have HL := Lib.hid (show ts.length ≠ us.length by omega); clear hlen hn hm
    go_enter Try.func42, Try.ntmps42
    go_wp2
    go_ret
    exact ⟨ret_bool (by have : ts ≠ us := fun e => HL.out (by rw [e])
                        simp [this]), Below.refl _ _⟩
set_option maxHeartbeats 1000000 in
theorem markInt64S_any (lo hi : Nat) {E : TypeId} (v : Value) (n : Nat) (cells : List Value) (k : Int) (w : World) (hO : OW w lo hi E 1 v n cells) (hk : 0 ≤ k) (hk2 : k ≤ 1000000000000) (hl : n ≤ 35184372088832) :
    Calls Try.prog 43 #[v, .int .i64 k] w fun e w' => e = .returned (.int .i64 (k + n)) ∧ OW w' lo hi E 1 v n (icells (mkI k (n * 1))) ∧ Only lo hi w w' := by
  obtain ⟨A, c, rfl, hf⟩ := hO.form
  have HT := Lib.hid hO.top
  have HF := Lib.hid hf; clear hf hO
  go_enter Try.func43, Try.ntmps43
  go_wp2
  go_loopw [1, 5] (fun kk i wr => Only lo hi w wr ∧ ∃ d : Nat, d ≤ n ∧ i = .int .i64 d ∧ kk = .int .i64 (k + d) ∧ ((A = none ∧ n = 0 ∧ c = 0) ∨ ∃ g cur, A = some ⟨g, 0, none⟩ ∧ lo ≤ g ∧ g < hi ∧ BK wr g cur E ∧ n ≤ c ∧ c ≤ 9223372036854775807 ∧ cur.size = c * 1 ∧ ∀ j, j < d → cur[j]? = some (.int .i64 (k + (j : Int))))) (fun _ i _ => n - (intOf i).toNat)
  case atStart => exact ⟨Only.refl _ _ _, 0, by omega, rfl, by simp, HF.out.imp id fun ⟨g, cur, h1, h2, h3, h4, h5, h6, h7⟩ => ⟨g, cur, h1, h2, h3, h4, h5, h6, h7, fun j h => absurd h (by omega)⟩⟩
  case round =>
    obtain ⟨hB, d, hd, rfl, rfl, hcase⟩ := hrel
    have HB := Lib.hid hB; have HC := Lib.hid hcase; clear hB hcase
    by_cases hlt : d < n
    · rcases HC.out with ⟨_, h0, _⟩ | ⟨g, cur, hA, hg1, hg2, hb, hnc, hcm, hsz, hall⟩
      · exact absurd h0 (by omega)
      · subst hA
        have HALL := Lib.hid hall; have HS := Lib.hid hsz; clear hall hsz HC
        obtain ⟨x0, c0⟩ : ∃ x, wr.cell? ⟨g, d, none⟩ = some x := ⟨_, hb.cell (Array.getElem?_eq_getElem (by rw [HS.out]; omega))⟩
        have f0 := hb.frozen d
        have HG := Lib.hid (And.intro hg1 hg2); clear hg1 hg2
        go_wp2
        go_roundw
        case rel => exact ⟨HB.out.setCell HG.out.1 HG.out.2 _ _, d + 1, by omega, by go_num, by rw [show k + (d : Int) + 1 = k + ((d + 1 : Nat) : Int) by omega], .inr ⟨g, _, rfl, HG.out.1, HG.out.2, hb.set d _, hnc, hcm, by rw [Array.size_setIfInBounds, HS.out], fun j hj => by
          rw [Array.getElem?_setIfInBounds, HS.out]
          by_cases e : d = j
          · subst e; rw [if_pos rfl, if_pos (by omega)]
          · rw [if_neg e]; exact HALL.out j (by omega)⟩⟩
        case measure => simp [intOf]; omega
    · have hdn : d = n := by omega
      subst hdn
      go_wp2
      go_ret
      refine ⟨rfl, ?_, HB.out⟩
      rcases HC.out with ⟨rfl, rfl, rfl⟩ | ⟨g, cur, rfl, hg1, hg2, hb, hnc, hcm, hsz, hall⟩
      · exact OW.nil _ _ _ _ _ (Nat.le_trans HT.out HB.out.size)
      · exact OW.marked hb hg1 hg2 (Nat.le_trans HT.out HB.out.size) hnc hcm hsz fun j hj => hall j (by omega)
set_option maxHeartbeats 1000000 in
theorem heldInt64S_any (lo hi : Nat) {E : TypeId} (v : Value) (n : Nat) (k : Int) (w : World) (hO : OW w lo hi E 1 v n (icells (mkI k (n * 1)))) (hk : 0 ≤ k) (hk2 : k ≤ 1000000000000) (hl : n ≤ 35184372088832) :
    Calls Try.prog 88 #[v, .int .i64 k] w fun e w' => e = .returned (.int .i64 (k + n)) ∧ Below w.heap.size w w' := by
  obtain ⟨A, c, rfl, hf⟩ := hO.form
  have HO := Lib.hid hO; have HF := Lib.hid hf; clear hf hO
  go_enter Try.func88, Try.ntmps88
  go_wp2
  go_loopw [1, 5] (fun kk i wr => Below w.heap.size w wr ∧ ∃ d : Nat, d ≤ n ∧ i = .int .i64 d ∧ kk = .int .i64 (k + d)) (fun _ i _ => n - (intOf i).toNat)
  case atStart => exact ⟨Below.refl _ _, 0, by omega, rfl, by simp⟩
  case round =>
    obtain ⟨hB, d, hd, rfl, rfl⟩ := hrel
    have HB := Lib.hid hB; clear hB
    by_cases hlt : d < n
    · rcases HF.out with ⟨_, h0, _⟩ | ⟨g, cur, hA, hg1, hg2, hb, hnc, hcm, hsz⟩
      · exact absurd h0 (by omega)
      · subst hA
        clear hsz hb hg1 hg2
        have c0 : wr.cell? ⟨g, d, none⟩ = some (.int .i64 (k + d)) := by
          refine (HO.out.to HB.out).cell ?_
          rw [icells_get (by rw [mkI_length]; omega), mkI_get (by omega)]
        have hne : (k + (d : Int) != k + d) = false := by simp
        go_wp2
        go_roundw
        case rel => exact ⟨HB.out, d + 1, by omega, by go_num, by rw [show k + (d : Int) + 1 = k + ((d + 1 : Nat) : Int) by omega]⟩
        case measure => simp [intOf]; omega
    · have hdn : d = n := by omega
      subst hdn
      go_wp2
      go_ret
      exact ⟨rfl, HB.out⟩

set_option maxHeartbeats 2000000 in
theorem markTileS_any (lo hi : Nat) (v : Value) (n : Nat) (cells : List Value) (k : Int) (w : World) (hO : OW w lo hi 45 4 v n cells) (hk : 0 ≤ k) (hk2 : k ≤ 1000000000000) (hl : n ≤ 35184372088832) :
    Calls Try.prog 19 #[v, .int .i64 k] w fun e w' => e = .returned (.int .i64 (k + (n * 4 : Nat))) ∧ OW w' lo hi 45 4 v n (icells (mkI k (n * 4))) ∧ Only lo hi w w' := by
  obtain ⟨A, c, rfl, hf⟩ := hO.form
  have HT := Lib.hid hO.top
  have HF := Lib.hid hf; clear hf hO
  go_enter Try.func19, Try.ntmps19
  go_wp2
  go_loopw [1, 5, 6] (fun kk i _ wr => Only lo hi w wr ∧ ∃ d : Nat, d ≤ n ∧ i = .int .i64 d ∧ kk = .int .i64 (k + (d * 4 : Nat)) ∧ ((A = none ∧ n = 0 ∧ c = 0) ∨ ∃ g cur, A = some ⟨g, 0, none⟩ ∧ lo ≤ g ∧ g < hi ∧ BK wr g cur 45 ∧ n ≤ c ∧ c ≤ 9223372036854775807 ∧ cur.size = c * 4 ∧ ∀ j, j < d * 4 → cur[j]? = some (.int .i64 (k + (j : Int))))) (fun _ i _ _ => n - (intOf i).toNat)
  case atStart => exact ⟨Only.refl _ _ _, 0, by omega, rfl, by simp, HF.out.imp id fun ⟨g, cur, h1, h2, h3, h4, h5, h6, h7⟩ => ⟨g, cur, h1, h2, h3, h4, h5, h6, h7, fun j h => absurd h (by omega)⟩⟩
  case round =>
    obtain ⟨hB, d, hd, rfl, rfl, hcase⟩ := hrel
    have HB := Lib.hid hB; have HC := Lib.hid hcase; clear hB hcase
    by_cases hlt : d < n
    · rcases HC.out with ⟨_, h0, _⟩ | ⟨g, cur, hA, hg1, hg2, hb, hnc, hcm, hsz, hall⟩
      · exact absurd h0 (by omega)
      · subst hA
        have HALL := Lib.hid hall; have HS := Lib.hid hsz; have HG := Lib.hid (And.intro hg1 hg2); have HBK := Lib.hid hb; clear hall hsz HC hg1 hg2 hb
        go_wp2_with fail
        obtain ⟨wo, rfl⟩ : ∃ wo : World, wo = wr := ⟨_, rfl⟩
        go_loopw [1, 6] (fun kk j wr => Only lo hi w wr ∧ ∃ q : Nat, q ≤ 4 ∧ j = .int .i64 q ∧ kk = .int .i64 (k + (d * 4 + q : Nat)) ∧ ∃ cur, BK wr g cur 45 ∧ cur.size = c * 4 ∧ ∀ j, j < d * 4 + q → cur[j]? = some (.int .i64 (k + (j : Int)))) (fun _ j _ => 4 - (intOf j).toNat)
        case atStart => exact ⟨HB.out, 0, by omega, rfl, rfl, cur, HBK.out, HS.out, fun j h => HALL.out j (by omega)⟩
        case round =>
          obtain ⟨hB2, q, hq, rfl, rfl, cur2, hb2, hsz2, hall2⟩ := hrel
          have HB2 := Lib.hid hB2; have HALL2 := Lib.hid hall2; have HS2 := Lib.hid hsz2; clear hB2 hall2 hsz2
          by_cases hlt2 : q < 4
          · have q4 : (q : Int) < 4 := by omega
            obtain ⟨x0, c0⟩ : ∃ x, wr.cell? ⟨g, d * 4 + q, none⟩ = some x := ⟨_, hb2.cell (Array.getElem?_eq_getElem (by rw [HS2.out]; omega))⟩
            have f0 := hb2.frozen (d * 4 + q)
            go_wp2_with fail
            go_roundw
            case rel => exact ⟨HB2.out.setCell HG.out.1 HG.out.2 _ _, q + 1, by omega, by go_num, int_eq (by omega), _, hb2.set _ _, by rw [Array.size_setIfInBounds, HS2.out], fun j hj => by
                rw [Array.getElem?_setIfInBounds, HS2.out]
                by_cases e : d * 4 + q = j
                · subst e; rw [if_pos rfl, if_pos (by omega)]; exact congrArg some (int_eq (by omega))
                · rw [if_neg e]; exact HALL2.out j (by omega)⟩
            case measure => simp [intOf]; omega
          · have hq4 : q = 4 := by omega
            subst hq4
            go_wp2_with fail
            go_roundw
            case rel => exact ⟨HB2.out, d + 1, by omega, by go_num, int_eq (by omega), .inr ⟨g, cur2, rfl, HG.out.1, HG.out.2, hb2, hnc, hcm, HS2.out, fun j hj => HALL2.out j (by omega)⟩⟩
            case measure => simp [intOf]; omega
    · have hdn : d = n := by omega
      subst hdn
      go_wp2_with fail
      go_ret
      refine ⟨rfl, ?_, HB.out⟩
      rcases HC.out with ⟨rfl, rfl, rfl⟩ | ⟨g, cur, rfl, hg1, hg2, hb, hnc, hcm, hsz, hall⟩
      · exact OW.nil _ _ _ _ _ (Nat.le_trans HT.out HB.out.size)
      · exact OW.marked hb hg1 hg2 (Nat.le_trans HT.out HB.out.size) hnc hcm hsz fun j hj => hall j (by omega)
set_option maxHeartbeats 2000000 in
theorem heldTileS_any (lo hi : Nat) (v : Value) (n : Nat) (k : Int) (w : World) (hO : OW w lo hi 45 4 v n (icells (mkI k (n * 4)))) (hk : 0 ≤ k) (hk2 : k ≤ 1000000000000) (hl : n ≤ 35184372088832) :
    Calls Try.prog 59 #[v, .int .i64 k] w fun e w' => e = .returned (.int .i64 (k + (n * 4 : Nat))) ∧ Below w.heap.size w w' := by
  obtain ⟨A, c, rfl, hf⟩ := hO.form
  have HO := Lib.hid hO; have HF := Lib.hid hf; clear hf hO
  go_enter Try.func59, Try.ntmps59
  go_wp2
  go_loopw [1, 5, 6] (fun kk i _ wr => Below w.heap.size w wr ∧ ∃ d : Nat, d ≤ n ∧ i = .int .i64 d ∧ kk = .int .i64 (k + (d * 4 : Nat))) (fun _ i _ _ => n - (intOf i).toNat)
  case atStart => exact ⟨Below.refl _ _, 0, by omega, rfl, by simp⟩
  case round =>
    obtain ⟨hB, d, hd, rfl, rfl⟩ := hrel
    have HB := Lib.hid hB; clear hB
    by_cases hlt : d < n
    · rcases HF.out with ⟨_, h0, _⟩ | ⟨g, cur, hA, hg1, hg2, hb, hnc, hcm, hsz⟩
      · exact absurd h0 (by omega)
      · subst hA
        clear hsz hb hg1 hg2
        go_wp2_with fail
        obtain ⟨wo, rfl⟩ : ∃ wo : World, wo = wr := ⟨_, rfl⟩
        go_loopw [1, 6] (fun kk j wr => Below w.heap.size w wr ∧ ∃ q : Nat, q ≤ 4 ∧ j = .int .i64 q ∧ kk = .int .i64 (k + (d * 4 + q : Nat))) (fun _ j _ => 4 - (intOf j).toNat)
        case atStart => exact ⟨HB.out, 0, by omega, rfl, rfl⟩
        case round =>
          obtain ⟨hB2, q, hq, rfl, rfl⟩ := hrel
          have HB2 := Lib.hid hB2; clear hB2
          by_cases hlt2 : q < 4
          · have q4 : (q : Int) < 4 := by omega
            have c0 : wr.cell? ⟨g, d * 4 + q, none⟩ = some (.int .i64 (k + ((d * 4 + q : Nat) : Int))) := by
              refine (HO.out.to HB2.out).cell ?_
              rw [icells_get (by rw [mkI_length]; omega), mkI_get (by omega)]
            have hne : (k + ((d * 4 + q : Nat) : Int) != k + ((d * 4 + q : Nat) : Int)) = false := by simp
            go_wp2_with fail
            go_roundw
            case rel => exact ⟨HB2.out, q + 1, by omega, by go_num, int_eq (by omega)⟩
            case measure => simp [intOf]; omega
          · have hq4 : q = 4 := by omega
            subst hq4
            go_wp2_with fail
            go_roundw
            case rel => exact ⟨HB2.out, d + 1, by omega, by go_num, int_eq (by omega)⟩
            case measure => simp [intOf]; omega
    · have hdn : d = n := by omega
      subst hdn
      go_wp2_with fail
      go_ret
      exact ⟨rfl, HB.out⟩
set_option maxHeartbeats 1000000 in
theorem markSet_any (lo hi : Nat) (C : Int) (v : Value) (n : Nat) (cells : List Value) (k : Int) (w : World) (hO : OW w lo hi 45 4 v n cells) (hk : 0 ≤ k) (hk2 : k ≤ 1000000000000) (hl : n ≤ 35184372088832) :
    Calls Try.prog 20 #[.agg #[.int .i64 C, v], .int .i64 k] w fun e w' => e = .returned (.int .i64 (k + (n * 4 : Nat))) ∧ OW w' lo hi 45 4 v n (icells (mkI k (n * 4))) ∧ Only lo hi w w' := by
  obtain ⟨A, c, rfl, -⟩ := hO.form
  have HO := Lib.hid hO; clear hO
  go_enter Try.func20, Try.ntmps20
  go_wp2_with fail
  refine namec1 ?_
  intro W1 b1 hz hb0
  refine (markTileS_any lo hi _ n cells k W1 (HO.out.to hb0) hk hk2 hl).mono ?_
  rintro e w1 ⟨rfl, hO1, hB1⟩
  have HO1 := Lib.hid hO1; have HB1 := Lib.hid ((only_of hb0 lo hi).trans hB1); clear hO1 hB1 hb0 hz b1
  go_wp2_with fail
  go_ret
  exact ⟨rfl, HO1.out, HB1.out⟩
set_option maxHeartbeats 1000000 in
theorem heldSet_any (lo hi : Nat) (C : Int) (v : Value) (n : Nat) (k : Int) (w : World) (hO : OW w lo hi 45 4 v n (icells (mkI k (n * 4)))) (hk : 0 ≤ k) (hk2 : k ≤ 1000000000000) (hl : n ≤ 35184372088832) :
    Calls Try.prog 21 #[.agg #[.int .i64 C, v], .int .i64 k] w fun e w' => e = .returned (.int .i64 (k + (n * 4 : Nat))) ∧ Below w.heap.size w w' := by
  obtain ⟨A, c, rfl, -⟩ := hO.form
  have HO := Lib.hid hO; clear hO
  go_enter Try.func21, Try.ntmps21
  go_wp2_with fail
  refine namec1 ?_
  intro W1 b1 hz hb0
  refine (heldTileS_any lo hi _ n k W1 (HO.out.to hb0) hk hk2 hl).mono ?_
  rintro e w1 ⟨rfl, hB1⟩
  have HB1 := Lib.hid (below_to hb0 hB1); clear hB1 hb0 hz b1
  have hpos : ¬ (k + (n * 4 : Nat) : Int) < 0 := by omega
  go_wp2_with fail
  go_ret
  exact ⟨rfl, HB1.out⟩

/-! the same, how many numbers there are under a name -/
theorem markInt64S_m (lo hi : Nat) (v : Value) (n m : Nat) (cells : List Value) (k : Int) (w : World) (hm : m = n * 1) (hO : OW w lo hi 2 1 v n cells) (hk : 0 ≤ k) (hk2 : k ≤ 1000000000000) (hl : n ≤ 35184372088832) :
    Calls Try.prog 43 #[v, .int .i64 k] w fun e w' => e = .returned (.int .i64 (k + m)) ∧ OW w' lo hi 2 1 v n (icells (mkI k m)) ∧ Only lo hi w w' := by
  have h := markInt64S_any lo hi v n cells k w hO hk hk2 hl
  rw [Nat.mul_one] at hm h; subst hm; exact h
theorem heldInt64S_m (lo hi : Nat) (v : Value) (n m : Nat) (k : Int) (w : World) (hm : m = n * 1) (hO : OW w lo hi 2 1 v n (icells (mkI k m))) (hk : 0 ≤ k) (hk2 : k ≤ 1000000000000) (hl : n ≤ 35184372088832) :
    Calls Try.prog 88 #[v, .int .i64 k] w fun e w' => e = .returned (.int .i64 (k + m)) ∧ Below w.heap.size w w' := by
  have h := heldInt64S_any lo hi v n k w (by rw [← hm]; exact hO) hk hk2 hl
  rw [Nat.mul_one] at hm; subst hm; exact h
theorem markTileS_m (lo hi : Nat) (v : Value) (n m : Nat) (cells : List Value) (k : Int) (w : World) (hm : m = n * 4) (hO : OW w lo hi 45 4 v n cells) (hk : 0 ≤ k) (hk2 : k ≤ 1000000000000) (hl : n ≤ 35184372088832) :
    Calls Try.prog 19 #[v, .int .i64 k] w fun e w' => e = .returned (.int .i64 (k + m)) ∧ OW w' lo hi 45 4 v n (icells (mkI k m)) ∧ Only lo hi w w' := by
  subst hm; exact markTileS_any lo hi v n cells k w hO hk hk2 hl
theorem heldTileS_m (lo hi : Nat) (v : Value) (n m : Nat) (k : Int) (w : World) (hm : m = n * 4) (hO : OW w lo hi 45 4 v n (icells (mkI k m))) (hk : 0 ≤ k) (hk2 : k ≤ 1000000000000) (hl : n ≤ 35184372088832) :
    Calls Try.prog 59 #[v, .int .i64 k] w fun e w' => e = .returned (.int .i64 (k + m)) ∧ Below w.heap.size w w' := by
  subst hm; exact heldTileS_any lo hi v n k w hO hk hk2 hl
theorem markSet_m (lo hi : Nat) (C : Int) (v : Value) (n m : Nat) (cells : List Value) (k : Int) (w : World) (hm : m = n * 4) (hO : OW w lo hi 45 4 v n cells) (hk : 0 ≤ k) (hk2 : k ≤ 1000000000000) (hl : n ≤ 35184372088832) :
    Calls Try.prog 20 #[.agg #[.int .i64 C, v], .int .i64 k] w fun e w' => e = .returned (.int .i64 (k + m)) ∧ OW w' lo hi 45 4 v n (icells (mkI k m)) ∧ Only lo hi w w' := by
  subst hm; exact markSet_any lo hi C v n cells k w hO hk hk2 hl
theorem heldSet_m (lo hi : Nat) (C : Int) (v : Value) (n m : Nat) (k : Int) (w : World) (hm : m = n * 4) (hO : OW w lo hi 45 4 v n (icells (mkI k m))) (hk : 0 ≤ k) (hk2 : k ≤ 1000000000000) (hl : n ≤ 35184372088832) :
    Calls Try.prog 21 #[.agg #[.int .i64 C, v], .int .i64 k] w fun e w' => e = .returned (.int .i64 (k + m)) ∧ Below w.heap.size w w' := by
  subst hm; exact heldSet_any lo hi C v n k w hO hk hk2 hl
end Go.Proofs.Ytnjmgmdpkogocaa

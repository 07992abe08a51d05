/-
  Contracts: lists of sets; tiles sought in sets.
-/
import Derived.Test.YtaidmloaoogmoaaCode
import Derived.Test.YtaidmloaoogmoaaEqT
import Derived.Test.YtaidmloaoogmoaaOwn
namespace Go.Proofs.Ytaidmloaoogmoaa
open Go Go.RowKit Go.Proofs
set_option linter.unusedVariables false
set_option linter.unusedSimpArgs false

structure SetD where
  C : Int
  A : Option Addr
  ts : List T4
  c : Nat
deriving Inhabited
def sk (ss : List SetD) (k : Nat) : SetD := ss.getD k default
theorem sk_get {ss : List SetD} {k : Nat} (h : k < ss.length) : ss[k] = sk ss k := by simp [sk, h]
/-- the sets ss lie in block b -/
def RS (w : World) (b : Nat) (ss : List SetD) : Prop := ∀ k, k < ss.length → w.cell? ⟨b, k * 2, none⟩ = some (.int .i64 (sk ss k).C) ∧ w.cell? ⟨b, k * 2 + 1, none⟩ = some (.slice (sk ss k).A (sk ss k).ts.length (sk ss k).c) ∧ RT w (sk ss k).A (sk ss k).ts ∧ (sk ss k).ts.length ≤ 35184372088832
theorem RS.below {w w' : World} {b : Nat} {ss : List SetD} (h : RS w b ss) (hb : Below w.heap.size w w') : RS w' b ss := fun k hk =>
  let ⟨h1, h2, h3, h4⟩ := h k hk
  ⟨cell_to hb h1, cell_to hb h2, h3.below hb, h4⟩

set_option maxHeartbeats 400000 in
theorem areSets1_any (C : Int) (A : Option Addr) (ts : List T4) (n c : Nat) (w : World) (hn : n = ts.length) (hA : RT w A ts) (hl : n ≤ 35184372088832) :
    Calls Try.prog 99 #[.agg #[.int .i64 C, .slice A n c]] w fun e w' => e = .returned (.bool (!isS C ts)) ∧ Below w.heap.size w w' := by
  have HA := Lib.hid hA; have HN := Lib.hid hn; clear hA hn
  go_enter Try.func99, Try.ntmps99
  go_wp2_with fail
  refine namec1 ?_
  intro W1 b1 hz hb0
  refine (IsSet_any C A ts n c W1 HN.out (HA.out.below hb0) hl).mono ?_
  rintro e w1 ⟨rfl, hB1⟩
  have HB0 := Lib.hid (below_to hb0 hB1); clear hb0 hB1 hz b1
  generalize hrb : isS C ts = rb
  have HRB := Lib.hid hrb; clear hrb
  go_wp2_with fail
  go_ret
  exact ⟨ret_bool (by rw [HRB.out]), HB0.out⟩

set_option maxHeartbeats 1000000 in
theorem IndexFuncS_any (b : Nat) (ss : List SetD) (n c : Nat) (w : World) (hn : n = ss.length) (hA : RS w b ss) (hl : n ≤ 35184372088832) :
    Calls Try.prog 106 #[.slice (some ⟨b, 0, none⟩) n c, .func (.func 99) #[] #[]] w fun e w' => e = .returned (.int .i64 (idxL (fun s => !isS s.C s.ts) ss)) ∧ Below w.heap.size w w' := by
  have eg := enters_of Try.func99 (by kernel_rfl) rfl
  have HA := Lib.hid hA; have HN := Lib.hid hn; clear hA hn
  go_enter Try.func106, Try.ntmps106
  go_wp2_with fail
  go_loopw [8] (fun i wr => Below w.heap.size w wr ∧ ∃ k : Nat, k ≤ n ∧ i = .int .i64 k ∧ ∀ j (hj : j < ss.length), j < k → (!isS ss[j].C ss[j].ts) = false) (fun i _ => n - (intOf i).toNat)
  case atStart => exact ⟨Below.refl _ _, 0, by omega, rfl, fun j _ h => absurd h (by omega)⟩
  case round =>
    obtain ⟨hB, k, hk, rfl, hall⟩ := hrel
    have hT := HA.out.below hB
    have HB := Lib.hid hB; have HALL := Lib.hid hall; clear hB hall
    by_cases hlt : k < n
    · have i1 : (k : Int) < n := by omega
      have HK := Lib.hid (show k < ss.length by have := HN.out; omega)
      obtain ⟨h0, h1, hR, hle⟩ := hT k HK.out
      have HR := Lib.hid hR
      clear hT hR
      cases hpk : !isS (sk ss k).C (sk ss k).ts
      · have HX := Lib.hid hpk; clear hpk
        go_wp2_with fail
        refine (areSets1_any (sk ss k).C (sk ss k).A (sk ss k).ts _ (sk ss k).c wr rfl HR.out hle).mono ?_
        rintro e w1 ⟨rfl, hB1⟩
        rw [HX.out]
        have HB1 := Lib.hid hB1; clear hB1
        go_wp2_with fail
        go_roundw
        case rel => exact ⟨below_to HB.out HB1.out, k + 1, by omega, by go_num, fun j hj hj' => by
            by_cases e : j = k
            · subst e; rw [sk_get]; exact HX.out
            · exact HALL.out j hj (by omega)⟩
        case measure => simp [intOf]; omega
      · have HX := Lib.hid hpk; clear hpk
        go_wp2_with fail
        refine (areSets1_any (sk ss k).C (sk ss k).A (sk ss k).ts _ (sk ss k).c wr rfl HR.out hle).mono ?_
        rintro e w1 ⟨rfl, hB1⟩
        rw [HX.out]
        have HB1 := Lib.hid hB1; clear hB1
        go_wp2_with fail
        go_ret
        exact ⟨ret_int (idxL_at (p := fun s => !isS s.C s.ts) HK.out HALL.out (by rw [sk_get]; exact HX.out)), below_to HB.out HB1.out⟩
    · go_wp2_with fail
      go_ret
      exact ⟨ret_int (idxL_none (p := fun s => !isS s.C s.ts) fun j hj => HALL.out j hj (by have := HN.out; omega)), HB.out⟩

set_option maxHeartbeats 400000 in
theorem areSets_any (b : Nat) (C D : Int) (A A' : Option Addr) (ts us : List T4) (n m c c' : Nat) (E : TypeId) (w : World) (hn : n = ts.length) (hm : m = us.length) (hb : BK w b #[.int .i64 C, .slice A n c, .int .i64 D, .slice A' m c'] E) (hA : RT w A ts) (hA' : RT w A' us) (hl : n ≤ 35184372088832) (hl' : m ≤ 35184372088832) :
    Calls Try.prog 66 #[.slice (some ⟨b, 0, none⟩) 2 2] w fun e w' => e = .returned (.bool (isS C ts && isS D us)) ∧ Below w.heap.size w w' := by
  subst hn hm
  have hS : RS w b [⟨C, A, ts, c⟩, ⟨D, A', us, c'⟩] := by
    intro k hk
    have hk2 : k < 2 := by simpa using hk
    match k, hk2 with
    | 0, _ => exact ⟨hb.cell rfl, hb.cell rfl, hA, hl⟩
    | 1, _ => exact ⟨hb.cell rfl, hb.cell rfl, hA', hl'⟩
  have HS := Lib.hid hS; clear hS hb hA hA'
  have HX := Lib.hid (show (!decide (0 ≤ idxL (fun s : SetD => !isS s.C s.ts) [⟨C, A, ts, c⟩, ⟨D, A', us, c'⟩])) = (isS C ts && isS D us) by rw [idxL_any]; simp)
  go_enter Try.func66, Try.ntmps66
  go_wp2_with fail
  have hcf : ∀ W, Below w.heap.size w W → Calls Try.prog 98 #[.slice (some ⟨b, 0, none⟩) 2 2, .func (.func 99) #[] #[]] W fun e w' => e = .returned (.bool (decide (0 ≤ idxL (fun s : SetD => !isS s.C s.ts) [⟨C, A, ts, c⟩, ⟨D, A', us, c'⟩]))) ∧ Below W.heap.size W w' := by
    intro W hW
    go_enter Try.func98, Try.ntmps98
    go_wp2_with fail
    refine (IndexFuncS_any b _ 2 2 W rfl (HS.out.below hW) (by omega)).mono ?_
    rintro e w1 ⟨rfl, hB1⟩
    have HB1 := Lib.hid hB1; clear hB1
    go_wp2_with fail
    go_ret
    exact ⟨rfl, HB1.out⟩
  refine (hcf w (Below.refl _ _)).mono ?_
  rintro e w1 ⟨rfl, hB1⟩
  have HB1 := Lib.hid hB1; clear hB1 hcf
  generalize decide (0 ≤ idxL (fun s : SetD => !isS s.C s.ts) [⟨C, A, ts, c⟩, ⟨D, A', us, c'⟩]) = rb at HX
  go_wp2_with fail
  go_ret
  exact ⟨ret_bool HX.out, HB1.out⟩

/-- tiles sought -/
def hasT (ts : List T4) (t : T4) : Bool := ts.any fun u => decide (u = t)
theorem hasT_at {ts : List T4} {t : T4} {k : Nat} (hk : k < ts.length) (h : tk ts k = t) : hasT ts t = true :=
  List.any_eq_true.2 ⟨ts[k], List.getElem_mem hk, by rw [tk_get]; simpa using h⟩
theorem hasT_no {ts : List T4} {t : T4} (h : ∀ j, j < ts.length → tk ts j ≠ t) : hasT ts t = false := by
  rw [hasT, List.any_eq_false]
  intro x hx
  obtain ⟨j, hj, rfl⟩ := List.getElem_of_mem hx
  rw [tk_get]
  simpa using h j hj
set_option maxHeartbeats 1000000 in
theorem l01Has_any (C : Int) (A : Option Addr) (ts : List T4) (n c : Nat) (t : T4) (w : World) (hn : n = ts.length) (hA : RT w A ts) (hl : n ≤ 35184372088832) :
    Calls Try.prog 65 #[.agg #[.int .i64 C, .slice A n c], .agg t.arr] w fun e w' => e = .returned (.bool (hasT ts t)) ∧ Below w.heap.size w w' := by
  have HA := Lib.hid hA; have HN := Lib.hid hn; clear hA hn
  have hG := guardT
  go_enter Try.func65, Try.ntmps65
  go_wp2_with fail
  refine name2 ?_
  intro W1 b1 b2 hz hb0
  have HB0 := Lib.hid hb0; clear hb0 hz
  go_loopw [5] (fun i wr => Below W1.heap.size W1 wr ∧ ∃ k : Nat, k ≤ n ∧ i = .int .i64 k ∧ ∀ j, j < k → tk ts j ≠ t) (fun i _ => n - (intOf i).toNat)
  case atStart => exact ⟨Below.refl _ _, 0, by omega, rfl, fun j h => absurd h (by omega)⟩
  case round =>
    obtain ⟨hB, k, hk, rfl, hall⟩ := hrel
    have b1' := b1.below hB b1.lt
    have b2' := b2.below hB b2.lt
    have HE := Lib.hid (below_to HB0.out hB)
    have HB := Lib.hid hB; have HALL := Lib.hid hall; clear hB hall
    have a1 : wr.cell? ⟨w.heap.size, 1, none⟩ = some (.slice A n c) := b1'.cell rfl
    have l1 := b1'.lt
    have l2 := b2'.lt
    have t0 := b2'.cell (t.cell 0 (by omega)); have t1 := b2'.cell (t.cell 1 (by omega)); have t2 := b2'.cell (t.cell 2 (by omega)); have t3 := b2'.cell (t.cell 3 (by omega))
    by_cases hlt : k < n
    · have i1 : (k : Int) < n := by omega
      have HK := Lib.hid (show k < ts.length by have := HN.out; omega)
      obtain ⟨b, o, hA', hb, h0, h1, h2, h3⟩ := (HA.out.below HE.out) k HK.out
      subst hA'
      cases hd : decide (tk ts k = t)
      · have hE := fun W => eqT_raw (tk ts k) t W
        rw [hd] at hE
        have HQ := Lib.hid (of_decide_eq_false hd)
        clear hd
        go_wp2_with fail
        refine wp_region_gro (by kernel_rfl) (by kernel_rfl) ?_
        repeat (first | go_big_quiet_step (fail) | quiet_step (fail))
        refine wpQuiet_nil ?_
        intro w1 hB1
        have HB1 := Lib.hid (below_to HB.out hB1); clear hB1
        clear hE
        go_wp2_with fail
        go_roundw
        case rel => exact ⟨HB1.out, k + 1, by omega, by go_num, fun j hj => by
            by_cases e : j = k
            · subst e; exact HQ.out
            · exact HALL.out j (by omega)⟩
        case measure => simp [intOf]; omega
      · have hE := fun W => eqT_raw (tk ts k) t W
        rw [hd] at hE
        have HQ := Lib.hid (of_decide_eq_true hd)
        clear hd
        go_wp2_with fail
        refine wp_region_gro (by kernel_rfl) (by kernel_rfl) ?_
        repeat (first | go_big_quiet_step (fail) | quiet_step (fail))
        refine wpQuiet_nil ?_
        intro w1 hB1
        have HB1 := Lib.hid (below_to HE.out hB1); clear hB1
        clear hE
        go_wp2_with fail
        go_ret
        exact ⟨ret_bool (hasT_at HK.out HQ.out).symm, HB1.out⟩
    · go_wp2_with fail
      go_ret
      exact ⟨ret_bool (hasT_no fun j hj => HALL.out j (by have := HN.out; omega)).symm, HE.out⟩
set_option maxHeartbeats 1000000 in
theorem IndexT_any (A : Option Addr) (ts : List T4) (n c : Nat) (t : T4) (w : World) (hn : n = ts.length) (hA : RT w A ts) (hl : n ≤ 35184372088832) :
    Calls Try.prog 100 #[.slice A n c, .agg t.arr] w fun e w' => e = .returned (.int .i64 (idxL (fun u => decide (u = t)) ts)) ∧ Below w.heap.size w w' := by
  have HA := Lib.hid hA; have HN := Lib.hid hn; clear hA hn
  have hG := guardT
  go_enter Try.func100, Try.ntmps100
  go_wp2_with fail
  refine name1 ?_
  intro W1 b2 hz hb0
  have HB0 := Lib.hid hb0; clear hb0 hz
  go_loopw [8] (fun i wr => Below W1.heap.size W1 wr ∧ ∃ k : Nat, k ≤ n ∧ i = .int .i64 k ∧ ∀ j (hj : j < ts.length), j < k → decide (ts[j] = t) = false) (fun i _ => n - (intOf i).toNat)
  case atStart => exact ⟨Below.refl _ _, 0, by omega, rfl, fun j _ h => absurd h (by omega)⟩
  case round =>
    obtain ⟨hB, k, hk, rfl, hall⟩ := hrel
    have b2' := b2.below hB b2.lt
    have HE := Lib.hid (below_to HB0.out hB)
    have HB := Lib.hid hB; have HALL := Lib.hid hall; clear hB hall
    have l2 := b2'.lt
    have t0 := b2'.cell (t.cell 0 (by omega)); have t1 := b2'.cell (t.cell 1 (by omega)); have t2 := b2'.cell (t.cell 2 (by omega)); have t3 := b2'.cell (t.cell 3 (by omega))
    by_cases hlt : k < n
    · have i1 : (k : Int) < n := by omega
      have HK := Lib.hid (show k < ts.length by have := HN.out; omega)
      obtain ⟨b, o, hA', hb, h0, h1, h2, h3⟩ := (HA.out.below HE.out) k HK.out
      subst hA'
      cases hd : decide (tk ts k = t)
      · have hE := fun W => eqT_raw t (tk ts k) W
        rw [show decide (t = tk ts k) = false by rw [← hd]; exact decide_eq_decide.2 eq_comm] at hE
        have HQ := Lib.hid hd
        clear hd
        go_wp2_with fail
        refine wp_region_gro (by kernel_rfl) (by kernel_rfl) ?_
        repeat (first | go_big_quiet_step (fail) | quiet_step (fail))
        refine wpQuiet_nil ?_
        intro w1 hB1
        have HB1 := Lib.hid (below_to HB.out hB1); clear hB1
        clear hE
        go_wp2_with fail
        go_roundw
        case rel => exact ⟨HB1.out, k + 1, by omega, by go_num, fun j hj hj' => by
            by_cases e : j = k
            · subst e; rw [tk_get]; exact HQ.out
            · exact HALL.out j hj (by omega)⟩
        case measure => simp [intOf]; omega
      · have hE := fun W => eqT_raw t (tk ts k) W
        rw [show decide (t = tk ts k) = true by rw [← hd]; exact decide_eq_decide.2 eq_comm] at hE
        have HQ := Lib.hid hd
        clear hd
        go_wp2_with fail
        refine wp_region_gro (by kernel_rfl) (by kernel_rfl) ?_
        repeat (first | go_big_quiet_step (fail) | quiet_step (fail))
        refine wpQuiet_nil ?_
        intro w1 hB1
        have HB1 := Lib.hid (below_to HE.out hB1); clear hB1
        clear hE
        go_wp2_with fail
        go_ret
        exact ⟨ret_int (idxL_at (p := fun u => decide (u = t)) HK.out HALL.out (by rw [tk_get]; exact HQ.out)), HB1.out⟩
    · go_wp2_with fail
      go_ret
      exact ⟨ret_int (idxL_none (p := fun u => decide (u = t)) fun j hj => HALL.out j hj (by have := HN.out; omega)), HE.out⟩
set_option maxHeartbeats 400000 in
theorem ContainsT_any (A : Option Addr) (ts : List T4) (n c : Nat) (t : T4) (w : World) (hn : n = ts.length) (hA : RT w A ts) (hl : n ≤ 35184372088832) :
    Calls Try.prog 67 #[.slice A n c, .agg t.arr] w fun e w' => e = .returned (.bool (hasT ts t)) ∧ Below w.heap.size w w' := by
  have HA := Lib.hid hA; have HN := Lib.hid hn; clear hA hn
  have q0 := t.cell 0 (by omega); have q1 := t.cell 1 (by omega); have q2 := t.cell 2 (by omega); have q3 := t.cell 3 (by omega)
  go_enter Try.func67, Try.ntmps67
  go_wp2_with fail
  refine namec1 ?_
  intro W1 b2 hz hb0
  have HB0 := Lib.hid hb0; clear hb0 hz q0 q1 q2 q3
  refine (IndexT_any A ts n c t W1 HN.out (HA.out.below HB0.out) hl).mono ?_
  rintro e w1 ⟨rfl, hB1⟩
  have HB1 := Lib.hid (below_to HB0.out hB1); clear hB1
  go_wp2_with fail
  go_ret
  exact ⟨ret_bool idxL_any, HB1.out⟩
end Go.Proofs.Ytaidmloaoogmoaa

/-
  Parts of the proof, in their order: Sets, Clone, Sides, ExtS, P4, QSpecL01Told, PTold, QSpecL01In, QSpecSetOf, QImplSetOf1, QImplTile90AtImplSetOf1, QImplTile54AtImplSetOf1, QImplWithin, QImplSetOf, PSetOf, Law1, LawSetOf, Open, Law2, OpenT.
-/
import Derived.Test.YtnjmgmdpkogocaaPk1
import Derived.Lib.SliceRun
import Derived.IntWalk
import Derived.Deep.RegionHeld3
import Derived.Test.YtnjmgmdpkogocaaWMore
import Derived.ProofKit
import Derived.OpenShut
import Derived.ShutString
import Derived.ChangeOld
import Derived.SizedLaws
import Derived.ChangeSlices
import Derived.Deep.Slices
namespace Go.Proofs.Ytnjmgmdpkogocaa
open Go Go.RowKit Go.Proofs
set_option linter.unusedVariables false
set_option linter.unusedSimpArgs false
structure SetD where
  C : Int
  A : Option Addr
  ts : List T4
  c : Nat
deriving Inhabited
def sk (ss : List SetD) (k : Nat) : SetD := ss.getD k default
def RS (w : World) (b : Nat) (ss : List SetD) : Prop := ∀ k, k < ss.length → w.cell? ⟨b, k * 2, none⟩ = some (.int .i64 (sk ss k).C) ∧ w.cell? ⟨b, k * 2 + 1, none⟩ = some (.slice (sk ss k).A (sk ss k).ts.length (sk ss k).c) ∧ RT w (sk ss k).A (sk ss k).ts ∧ (sk ss k).ts.length ≤ 35184372088832
theorem RS.below {w w' : World} {b : Nat} {ss : List SetD} (h : RS w b ss) (hb : Below w.heap.size w w') : RS w' b ss := fun k hk =>
  let ⟨h1, h2, h3, h4⟩ := h k hk
  ⟨cell_to hb h1, cell_to hb h2, h3.below hb, h4⟩
def hasT (ts : List T4) (t : T4) : Bool := ts.any fun u => decide (u = t)
theorem hasT_at {ts : List T4} {t : T4} {k : Nat} (hk : k < ts.length) (h : tk ts k = t) : hasT ts t = true :=
  List.any_eq_true.2 ⟨ts[k], List.getElem_mem hk, by rw [tk_get]; simpa using h⟩
theorem hasT_no {ts : List T4} {t : T4} (h : ∀ j, j < ts.length → tk ts j ≠ t) : hasT ts t = false := by
  rw [hasT, List.any_eq_false]
  intro x hx
  obtain ⟨j, hj, rfl⟩ := List.getElem_of_mem hx
  rw [tk_get]
  simpa using h j hj
set_option maxHeartbeats 1000000 in
theorem l01Has_any (C : Int) (A : Option Addr) (ts : List T4) (n c : Nat) (t : T4) (w : World) (hn : n = ts.length) (hA : RT w A ts) (hl : n ≤ 35184372088832) :
    Calls Try.prog 76 #[.agg #[.int .i64 C, .slice A n c], .agg t.arr] w fun e w' => e = .returned (.bool (hasT ts t)) ∧ Below w.heap.size w w' := by
  have HA := Lib.hid hA; have HN := Lib.hid hn; clear hA hn
  have hG := guardT
  go_enter Try.func76, Try.ntmps76
  go_wp2_with fail
  refine name2 ?_
  intro W1 b1 b2 hz hb0
  have HB0 := Lib.hid hb0; clear hb0 hz
  go_loopw [5] (fun i wr => Below W1.heap.size W1 wr ∧ ∃ k : Nat, k ≤ n ∧ i = .int .i64 k ∧ ∀ j, j < k → tk ts j ≠ t) (fun i _ => n - (intOf i).toNat)
  case atStart => exact ⟨Below.refl _ _, 0, by omega, rfl, fun j h => absurd h (by omega)⟩
  case round =>
    obtain ⟨hB, k, hk, rfl, hall⟩ := hrel
    have b1' := b1.below hB b1.lt
    have b2' := b2.below hB b2.lt
    have HE := Lib.hid (below_to HB0.out hB)
    have HB := Lib.hid hB; have HALL := Lib.hid hall; clear hB hall
    have a1 : wr.cell? ⟨w.heap.size, 1, none⟩ = some (.slice A n c) := b1'.cell rfl
    have l1 := b1'.lt
    have l2 := b2'.lt
    have t0 := b2'.cell (t.cell 0 (by omega)); have t1 := b2'.cell (t.cell 1 (by omega)); have t2 := b2'.cell (t.cell 2 (by omega)); have t3 := b2'.cell (t.cell 3 (by omega))
    by_cases hlt : k < n
    · have i1 : (k : Int) < n := by omega
      have HK := Lib.hid (show k < ts.length by have := HN.out; omega)
      obtain ⟨b, o, hA', hb, h0, h1, h2, h3⟩ := (HA.out.below HE.out) k HK.out
      subst hA'
      cases hd : decide (tk ts k = t)
      · have hE := fun W => eqT_raw (tk ts k) t W
        rw [hd] at hE
        have HQ := Lib.hid (of_decide_eq_false hd)
        clear hd
        go_wp2_with fail
        refine wp_region_gro (by kernel_rfl) (by kernel_rfl) ?_
        repeat (first | go_big_quiet_step (fail) | quiet_step (fail))
        refine wpQuiet_nil ?_
        intro w1 hB1
        have HB1 := Lib.hid (below_to HB.out hB1); clear hB1
        clear hE
        go_wp2_with fail
        go_roundw
        case rel => exact ⟨HB1.out, k + 1, by omega, by go_num, fun j hj => by
            by_cases e : j = k
            · subst e; exact HQ.out
            · exact HALL.out j (by omega)⟩
        case measure => simp [intOf]; omega
      · have hE := fun W => eqT_raw (tk ts k) t W
        rw [hd] at hE
        have HQ := Lib.hid (of_decide_eq_true hd)
        clear hd
        go_wp2_with fail
        refine wp_region_gro (by kernel_rfl) (by kernel_rfl) ?_
        repeat (first | go_big_quiet_step (fail) | quiet_step (fail))
        refine wpQuiet_nil ?_
        intro w1 hB1
        have HB1 := Lib.hid (below_to HE.out hB1); clear hB1
        clear hE
        go_wp2_with fail
        go_ret
        exact ⟨ret_bool (hasT_at HK.out HQ.out).symm, HB1.out⟩
    · go_wp2_with fail
      go_ret
      exact ⟨ret_bool (hasT_no fun j hj => HALL.out j (by have := HN.out; omega)).symm, HE.out⟩
set_option maxHeartbeats 1000000 in
theorem IndexT_any (A : Option Addr) (ts : List T4) (n c : Nat) (t : T4) (w : World) (hn : n = ts.length) (hA : RT w A ts) (hl : n ≤ 35184372088832) :
    Calls Try.prog 99 #[.slice A n c, .agg t.arr] w fun e w' => e = .returned (.int .i64 (idxL (fun u => decide (u = t)) ts)) ∧ Below w.heap.size w w' := by
  have HA := Lib.hid hA; have HN := Lib.hid hn; clear hA hn
  have hG := guardT
  go_enter Try.func99, Try.ntmps99
  go_wp2_with fail
  refine name1 ?_
  intro W1 b2 hz hb0
  have HB0 := Lib.hid hb0; clear hb0 hz
  go_loopw [8] (fun i wr => Below W1.heap.size W1 wr ∧ ∃ k : Nat, k ≤ n ∧ i = .int .i64 k ∧ ∀ j (hj : j < ts.length), j < k → decide (ts[j] = t) = false) (fun i _ => n - (intOf i).toNat)
  case atStart => exact ⟨Below.refl _ _, 0, by omega, rfl, fun j _ h => absurd h (by omega)⟩
  case round =>
    obtain ⟨hB, k, hk, rfl, hall⟩ := hrel
    have b2' := b2.below hB b2.lt
    have HE := Lib.hid (below_to HB0.out hB)
    have HB := Lib.hid hB; have HALL := Lib.hid hall; clear hB hall
    have l2 := b2'.lt
    have t0 := b2'.cell (t.cell 0 (by omega)); have t1 := b2'.cell (t.cell 1 (by omega)); have t2 := b2'.cell (t.cell 2 (by omega)); have t3 := b2'.cell (t.cell 3 (by omega))
    by_cases hlt : k < n
    · have i1 : (k : Int) < n := by omega
      have HK := Lib.hid (show k < ts.length by have := HN.out; omega)
      obtain ⟨b, o, hA', hb, h0, h1, h2, h3⟩ := (HA.out.below HE.out) k HK.out
      subst hA'
      cases hd : decide (tk ts k = t)
      · have hE := fun W => eqT_raw t (tk ts k) W
        rw [show decide (t = tk ts k) = false by rw [← hd]; exact decide_eq_decide.2 eq_comm] at hE
        have HQ := Lib.hid hd
        clear hd
        go_wp2_with fail
        refine wp_region_gro (by kernel_rfl) (by kernel_rfl) ?_
        repeat (first | go_big_quiet_step (fail) | quiet_step (fail))
        refine wpQuiet_nil ?_
        intro w1 hB1
        have HB1 := Lib.hid (below_to HB.out hB1); clear hB1
        clear hE
        go_wp2_with fail
        go_roundw
        case rel => exact ⟨HB1.out, k + 1, by omega, by go_num, fun j hj hj' => by
            by_cases e : j = k
            · subst e; rw [tk_get]; exact HQ.out
            · exact HALL.out j hj (by omega)⟩
        case measure => simp [intOf]; omega
      · have hE := fun W => eqT_raw t (tk ts k) W
        rw [show decide (t = tk ts k) = true by rw [← hd]; exact decide_eq_decide.2 eq_comm] at hE
        have HQ := Lib.hid hd
        clear hd
        go_wp2_with fail
        refine wp_region_gro (by kernel_rfl) (by kernel_rfl) ?_
        repeat (first | go_big_quiet_step (fail) | quiet_step (fail))
        refine wpQuiet_nil ?_
        intro w1 hB1
        have HB1 := Lib.hid (below_to HE.out hB1); clear hB1
        clear hE
        go_wp2_with fail
        go_ret
        exact ⟨ret_int (idxL_at (p := fun u => decide (u = t)) HK.out HALL.out (by rw [tk_get]; exact HQ.out)), HB1.out⟩
    · go_wp2_with fail
      go_ret
      exact ⟨ret_int (idxL_none (p := fun u => decide (u = t)) fun j hj => HALL.out j hj (by have := HN.out; omega)), HE.out⟩
set_option maxHeartbeats 400000 in
theorem ContainsT_any (A : Option Addr) (ts : List T4) (n c : Nat) (t : T4) (w : World) (hn : n = ts.length) (hA : RT w A ts) (hl : n ≤ 35184372088832) :
    Calls Try.prog 79 #[.slice A n c, .agg t.arr] w fun e w' => e = .returned (.bool (hasT ts t)) ∧ Below w.heap.size w w' := by
  have HA := Lib.hid hA; have HN := Lib.hid hn; clear hA hn
  have q0 := t.cell 0 (by omega); have q1 := t.cell 1 (by omega); have q2 := t.cell 2 (by omega); have q3 := t.cell 3 (by omega)
  go_enter Try.func79, Try.ntmps79
  go_wp2_with fail
  refine namec1 ?_
  intro W1 b2 hz hb0
  have HB0 := Lib.hid hb0; clear hb0 hz q0 q1 q2 q3
  refine (IndexT_any A ts n c t W1 HN.out (HA.out.below HB0.out) hl).mono ?_
  rintro e w1 ⟨rfl, hB1⟩
  have HB1 := Lib.hid (below_to HB0.out hB1); clear hB1
  go_wp2_with fail
  go_ret
  exact ⟨ret_bool idxL_any, HB1.out⟩
end Go.Proofs.Ytnjmgmdpkogocaa
namespace Go.Proofs.Ytnjmgmdpkogocaa
open Go Go.RowKit Go.Proofs
set_option linter.unusedVariables false
set_option linter.unusedSimpArgs false
set_option maxHeartbeats 1000000 in
set_option maxRecDepth 100000 in
theorem CloneT_any (ad : Addr) (ts : List T4) (n c : Nat) (w : World) (hn : n = ts.length) (hA : RT w (some ad) ts) (hl : n ≤ 1000000) :
    Calls Try.prog 72 #[.slice (some ad) n c] w fun e w' => ∃ g c', e = .returned (.slice (some ⟨g, 0, none⟩) n c') ∧ OT w' w.heap.size 45 (.slice (some ⟨g, 0, none⟩) n c') ts ∧ Below w.heap.size w w' := by
  have HA := Lib.hid hA; have HN := Lib.hid hn; clear hA hn
  have hEQ := fun w => Lib.run_eql_slice_nil (P := Try.prog) w 24 45 (some ad) n c 0 0 Try.underlying24
  simp only [Option.isNone_some] at hEQ
  go_enter Try.func72, Try.ntmps72
  go_wp2_with (at_builtin; refine app_tiles w.heap.size rfl (.tmp 5) (.tmp 6) 24 45 rfl Try.underlying24 info45 (.slice (some ⟨w.heap.size, 0, none⟩) 0 0) [] ts rfl rfl HN.out (HA.out.below (new_below w _)) (OT.lit0 w _ _ (Nat.le_refl _)) (by simp) (new_below w _).size (by have := HN.out; simp only [List.length_nil]; omega) ?_; intro g n1 c1 w1 hn1 hO hG _; have HB := Lib.hid (grown_below (new_below w _) hG (fun b hb => (by have := own_lo (OT.lit0 w _ 45 (Nat.le_refl _)) b hb; omega))); have HO := Lib.hid hO; have HN1 := Lib.hid hn1; clear hO hG hn1)
  go_ret
  have h1 : n1 = n := by have := HN1.out; have := HN.out; simp at *; omega
  subst h1
  exact ⟨g, c1, rfl, by simpa using HO.out, HB.out⟩
end Go.Proofs.Ytnjmgmdpkogocaa
namespace Go.Proofs.Ytnjmgmdpkogocaa
open Go Go.RowKit Go.Proofs
set_option linter.unusedVariables false
set_option linter.unusedSimpArgs false
theorem iszT : (Try.prog.info? 45).map (·.size) = some 4 := by kernel_rfl
set_option maxHeartbeats 2000000 in
set_option maxRecDepth 100000 in
theorem sides_any (x0 x1 x2 x3 ya yb yc yd : Int) (a b c d : Nat) (w : World) (ia : (a : Int) < 4) (ib : (b : Int) < 4) (ic : (c : Int) < 4) (id : (d : Int) < 4)
    (ga : (#[.int .i64 x0, .int .i64 x1, .int .i64 x2, .int .i64 x3] : Array Value)[a]? = some (.int .i64 ya)) (gb : (#[.int .i64 x0, .int .i64 x1, .int .i64 x2, .int .i64 x3] : Array Value)[b]? = some (.int .i64 yb))
    (gc : (#[.int .i64 x0, .int .i64 x1, .int .i64 x2, .int .i64 x3] : Array Value)[c]? = some (.int .i64 yc)) (gd : (#[.int .i64 x0, .int .i64 x1, .int .i64 x2, .int .i64 x3] : Array Value)[d]? = some (.int .i64 yd)) :
    Calls Try.prog 66 #[.agg #[.int .i64 x0, .int .i64 x1, .int .i64 x2, .int .i64 x3], .int .i64 a, .int .i64 b, .int .i64 c, .int .i64 d] w fun e w' => e = .returned (.agg #[.int .i64 ya, .int .i64 yb, .int .i64 yc, .int .i64 yd]) ∧ Below w.heap.size w w' := by
  have GA := Lib.hid ga; have GB := Lib.hid gb; have GC := Lib.hid gc; have GD := Lib.hid gd
  clear ga gb gc gd
  go_enter Try.func66, Try.ntmps66
  go_wp2_with fail
  refine name2 ?_
  intro W b1 b2 hz hb0
  have HB := Lib.hid hb0; have HZ := Lib.hid hz; clear hb0 hz
  have q0 : W.cell? ⟨w.heap.size, a, none⟩ = some (.int .i64 ya) := b1.cell GA.out
  have q1 : W.cell? ⟨w.heap.size, b, none⟩ = some (.int .i64 yb) := b1.cell GB.out
  have q2 : W.cell? ⟨w.heap.size, c, none⟩ = some (.int .i64 yc) := b1.cell GC.out
  have q3 : W.cell? ⟨w.heap.size, d, none⟩ = some (.int .i64 yd) := b1.cell GD.out
  have l1 := b1.lt
  have z0 : W.cell? ⟨w.heap.size + 1, 0, none⟩ = some (.int .i64 0) := b2.cell rfl
  have z1 : W.cell? ⟨w.heap.size + 1, 1, none⟩ = some (.int .i64 0) := b2.cell rfl
  have z2 : W.cell? ⟨w.heap.size + 1, 2, none⟩ = some (.int .i64 0) := b2.cell rfl
  have z3 : W.cell? ⟨w.heap.size + 1, 3, none⟩ = some (.int .i64 0) := b2.cell rfl
  have f0 := b2.frozen 0; have f1 := b2.frozen 1; have f2 := b2.frozen 2; have f3 := b2.frozen 3
  have l2 := b2.lt
  go_wp2_with fail
  have hW := (Below.refl W.heap.size W).drew
  have hK : ∀ v0 v1 v2 v3, Only (w.heap.size + 1) (w.heap.size + 2) W ((((W.setCell ⟨w.heap.size + 1, 0, none⟩ v0).setCell ⟨w.heap.size + 1, 1, none⟩ v1).setCell ⟨w.heap.size + 1, 2, none⟩ v2).setCell ⟨w.heap.size + 1, 3, none⟩ v3) := fun v0 v1 v2 v3 =>
    ((((Only.refl _ _ _).setCell (Nat.le_refl _) (by omega) _ _).setCell (Nat.le_refl _) (by omega) _ _).setCell (Nat.le_refl _) (by omega) _ _).setCell (Nat.le_refl _) (by omega) _ _
  have hX : ∀ v0 v1 v2 v3, BK ((((W.setCell ⟨w.heap.size + 1, 0, none⟩ v0).setCell ⟨w.heap.size + 1, 1, none⟩ v1).setCell ⟨w.heap.size + 1, 2, none⟩ v2).setCell ⟨w.heap.size + 1, 3, none⟩ v3).drew w.heap.size #[.int .i64 x0, .int .i64 x1, .int .i64 x2, .int .i64 x3] 45 := by
    intro v0 v1 v2 v3
    have b := b1.only (hK v0 v1 v2 v3) (.inl (by omega))
    exact b.below ((Below.refl _ _).drew) b.lt
  go_region_held3 (fun w_ => w_.cell? ⟨w.heap.size, a, none⟩ = some (.int .i64 ya) ∧ w_.cell? ⟨w.heap.size, b, none⟩ = some (.int .i64 yb) ∧ w_.cell? ⟨w.heap.size, c, none⟩ = some (.int .i64 yc) ∧ w_.cell? ⟨w.heap.size, d, none⟩ = some (.int .i64 yd))
    (first | exact ⟨b1.cell GA.out, b1.cell GB.out, b1.cell GC.out, b1.cell GD.out⟩ | exact ⟨(b1.below hW b1.lt).cell GA.out, (b1.below hW b1.lt).cell GB.out, (b1.below hW b1.lt).cell GC.out, (b1.below hW b1.lt).cell GD.out⟩ | exact ⟨(hX _ _ _ _).cell GA.out, (hX _ _ _ _).cell GB.out, (hX _ _ _ _).cell GC.out, (hX _ _ _ _).cell GD.out⟩ | fail)
    (fail)
  go_wp2_with fail
  have hbk : BK ((((W.setCell ⟨w.heap.size + 1, 0, none⟩ (.int .i64 ya)).setCell ⟨w.heap.size + 1, 1, none⟩ (.int .i64 yb)).setCell ⟨w.heap.size + 1, 2, none⟩ (.int .i64 yc)).setCell ⟨w.heap.size + 1, 3, none⟩ (.int .i64 yd)).drew (w.heap.size + 1) #[.int .i64 ya, .int .i64 yb, .int .i64 yc, .int .i64 yd] 45 := by
    have h := (((b2.set 0 (.int .i64 ya)).set 1 (.int .i64 yb)).set 2 (.int .i64 yc)).set 3 (.int .i64 yd)
    exact h.below ((Below.refl _ _).drew) h.lt
  ((try simp only [Exit.inBlock, Exit.then]); refine bodyPost_ret (results_cell_row rfl _ _ _ _ _ _ _ rfl hbk Try.underlying45 rfl iszT) rfl ?_)
  exact ⟨rfl, below_to (below_only HB.out (hK _ _ _ _) (by omega)) ((Below.refl _ _).drew)⟩
end Go.Proofs.Ytnjmgmdpkogocaa
namespace Go.Proofs.Ytnjmgmdpkogocaa
open Go Go.RowKit Go.Proofs Go.Proofs.YtnjmgmdpkogocaaW.PrintWords Go.Proofs.Ytnjmgmdpkogocaa.Q
set_option linter.unusedVariables false
set_option linter.unusedSimpArgs false
theorem R_of_OT {w : World} {base : Nat} {e : TypeId} {v : Value} {ts : List T4} (h : OT w base e v ts) : Kd.R k45 e w base (fun _ => True) v (ts.map toS) := by
  refine ⟨fun _ _ => trivial, tcells ts, ?_, ?_, fun j p hp => ?_⟩
  · rw [List.length_map]; exact h
  · rw [tcells_length, List.length_map]; rfl
  · have hj := (List.getElem?_eq_some_iff.1 hp).1
    rw [List.length_map] at hj
    have hp' : p = toS (tk ts j) := by
      rw [List.getElem?_map, List.getElem?_eq_getElem hj] at hp
      simp only [Option.map_some, Option.some.injEq] at hp
      rw [← hp]; simp [tk, List.getD, List.getElem?_eq_getElem hj]
    subst hp'
    have e4 : k45.sz = 4 := rfl
    have hc : ((tcells ts).drop (j * 4)).take 4 = [.int .i64 (toS (tk ts j)).f0, .int .i64 (toS (tk ts j)).f1, .int .i64 (toS (tk ts j)).f2, .int .i64 (toS (tk ts j)).f3] := by
      apply List.ext_getElem?
      intro i
      rw [List.getElem?_take, List.getElem?_drop]
      match i with
      | 0 => rw [if_pos (by omega), tcells_get hj (by omega)]; rfl
      | 1 => rw [if_pos (by omega), tcells_get hj (by omega)]; rfl
      | 2 => rw [if_pos (by omega), tcells_get hj (by omega)]; rfl
      | 3 => rw [if_pos (by omega), tcells_get hj (by omega)]; rfl
      | i + 4 => rw [if_neg (by omega)]; simp
    rw [e4, hc]
    exact k45_mk w (toS (tk ts j))
theorem R_of_OW {w : World} {base hi : Nat} {e : TypeId} {v : Value} {ts : List T4} {n : Nat} (h : OW w base hi e 4 v n (tcells ts)) (hn : n = ts.length) : Kd.R k45 e w base (fun _ => True) v (ts.map toS) := by
  subst hn
  exact R_of_OT h.own
theorem ow_of_RT {w : World} {base : Nat} {e : TypeId} {v : Value} {ts : List T4} {ok : Nat → Prop} (h : Kd.R k45 e w base ok v (ts.map toS)) : OW w base w.heap.size e 4 v ts.length (tcells ts) := by
  obtain ⟨-, inner, ho, hr⟩ := h
  have e4 : k45.sz = 4 := rfl
  rw [List.length_map, e4] at ho
  have hl : inner.length = ts.length * 4 := by have := hr.1; rw [List.length_map, e4] at this; exact this
  have : inner = tcells ts := by
    apply List.ext_getElem?
    intro j
    by_cases hj : j < ts.length * 4
    · obtain ⟨q, r, rfl, hr4⟩ : ∃ q r, j = q * 4 + r ∧ r < 4 := ⟨j / 4, j % 4, by omega, by omega⟩
      have hq : q < ts.length := by omega
      have h2 := hr.2 q (toS (tk ts q)) (by rw [List.getElem?_map, List.getElem?_eq_getElem hq]; simp [tk, List.getD, List.getElem?_eq_getElem hq])
      have h3 := k45_open (k45.K_of_M h2)
      rw [e4] at h3
      have h4 : inner[q * 4 + r]? = ((inner.drop (q * 4)).take 4)[r]? := by rw [List.getElem?_take, if_pos hr4, List.getElem?_drop]
      rw [h4, h3, tcells_get hq hr4]
      have : r = 0 ∨ r = 1 ∨ r = 2 ∨ r = 3 := by omega
      rcases this with rfl | rfl | rfl | rfl <;> rfl
    · rw [List.getElem?_eq_none (by omega), List.getElem?_eq_none (by rw [tcells_length]; omega)]
  subst this
  exact OW.of ho
end Go.Proofs.Ytnjmgmdpkogocaa
namespace Go.Proofs.Ytnjmgmdpkogocaa.Q
open Go Go.RowKit Go.Proofs Go.Proofs.YtnjmgmdpkogocaaW.PrintWords Go.Proofs.Ytnjmgmdpkogocaa
set_option linter.unusedVariables false
set_option linter.unusedSimpArgs false
def lim6 (n : Nat) : Bool := decide (n ≤ 1000000)
def spec_l01Made.f (a0 : Int) (l1 : List STile) : Option (Int × List STile) := if lim6 l1.length = true then some (a0, (sortT (l1.map toT)).map toS) else none
theorem spec_l01Made.calls (a0 : Int) (A1 : Option Addr) (c1 : Nat) (l1 : List STile) (r1 : Int) (r2 : List STile) (w : World) (hr1 : Kd.C k45 w A1 l1.length l1) (hc1 : l1.length ≤ c1) (h : spec_l01Made.f a0 l1 = some (r1, r2)) :
    Calls Try.prog 52 #[.int .i64 a0, .slice A1 l1.length c1] w fun e w' => ∃ v1_ : Value, e = .returned (.agg #[.int .i64 r1, v1_]) ∧ Kd.R k45 45 w' w.heap.size (fun _ => True) v1_ r2 ∧ Below w.heap.size w w' := by
  unfold spec_l01Made.f at h
  split at h
  · rename_i hl
    obtain ⟨rfl, rfl⟩ := Prod.mk.inj (Option.some.inj h)
    refine (l01Made_any a0 A1 (l1.map toT) _ c1 w (by simp) (rt_of_C hr1) (by simpa [lim6] using hl)).mono ?_
    rintro e w' ⟨g, ln, c', rfl, hln, hO, hB⟩
    have e1 : sortK (l1.map toT) l1.length = sortT (l1.map toT) := by unfold sortT; rw [List.length_map]
    rw [e1] at hln hO
    exact ⟨_, rfl, R_of_OW hO hln, hB⟩
  · cases h
def spec_l01Flipped.f (a0_0 : Int) (l0_1 : List STile) : Option (Int × List STile) := if lim6 l0_1.length = true then some (a0_0, (sortT ((l0_1.map toT).map (sidesT 0 3 2 1))).map toS) else none
theorem spec_l01Flipped.calls (a0_0 : Int) (A0_1 : Option Addr) (c0_1 : Nat) (l0_1 : List STile) (r1 : Int) (r2 : List STile) (w : World) (hr0_1 : Kd.C k45 w A0_1 l0_1.length l0_1) (hc0_1 : l0_1.length ≤ c0_1) (h : spec_l01Flipped.f a0_0 l0_1 = some (r1, r2)) :
    Calls Try.prog 64 #[.agg #[.int .i64 a0_0, .slice A0_1 l0_1.length c0_1]] w fun e w' => ∃ v1_ : Value, e = .returned (.agg #[.int .i64 r1, v1_]) ∧ Kd.R k45 45 w' w.heap.size (fun _ => True) v1_ r2 ∧ Below w.heap.size w w' := by
  unfold spec_l01Flipped.f at h
  split at h
  · rename_i hl
    obtain ⟨rfl, rfl⟩ := Prod.mk.inj (Option.some.inj h)
    refine (l01Flipped_any a0_0 A0_1 (l0_1.map toT) _ c0_1 w (by simp) (rt_of_C hr0_1) (by simpa [lim6] using hl)).mono ?_
    rintro e w' ⟨g, ln, c', rfl, hln, hO, hB⟩
    exact ⟨_, rfl, R_of_OW hO hln, hB⟩
  · cases h
def spec_l01Mirrored.f (a0_0 : Int) (l0_1 : List STile) : Option (Int × List STile) := if lim6 l0_1.length = true then some (a0_0, (sortT ((l0_1.map toT).map (sidesT 2 1 0 3))).map toS) else none
theorem spec_l01Mirrored.calls (a0_0 : Int) (A0_1 : Option Addr) (c0_1 : Nat) (l0_1 : List STile) (r1 : Int) (r2 : List STile) (w : World) (hr0_1 : Kd.C k45 w A0_1 l0_1.length l0_1) (hc0_1 : l0_1.length ≤ c0_1) (h : spec_l01Mirrored.f a0_0 l0_1 = some (r1, r2)) :
    Calls Try.prog 67 #[.agg #[.int .i64 a0_0, .slice A0_1 l0_1.length c0_1]] w fun e w' => ∃ v1_ : Value, e = .returned (.agg #[.int .i64 r1, v1_]) ∧ Kd.R k45 45 w' w.heap.size (fun _ => True) v1_ r2 ∧ Below w.heap.size w w' := by
  unfold spec_l01Mirrored.f at h
  split at h
  · rename_i hl
    obtain ⟨rfl, rfl⟩ := Prod.mk.inj (Option.some.inj h)
    refine (l01Mirrored_any a0_0 A0_1 (l0_1.map toT) _ c0_1 w (by simp) (rt_of_C hr0_1) (by simpa [lim6] using hl)).mono ?_
    rintro e w' ⟨g, ln, c', rfl, hln, hO, hB⟩
    exact ⟨_, rfl, R_of_OW hO hln, hB⟩
  · cases h
def spec_l01Turned.f (a0_0 : Int) (l0_1 : List STile) : Option (Int × List STile) := if lim6 l0_1.length = true then some (a0_0, (sortT ((l0_1.map toT).map (sidesT 3 0 1 2))).map toS) else none
theorem spec_l01Turned.calls (a0_0 : Int) (A0_1 : Option Addr) (c0_1 : Nat) (l0_1 : List STile) (r1 : Int) (r2 : List STile) (w : World) (hr0_1 : Kd.C k45 w A0_1 l0_1.length l0_1) (hc0_1 : l0_1.length ≤ c0_1) (h : spec_l01Turned.f a0_0 l0_1 = some (r1, r2)) :
    Calls Try.prog 61 #[.agg #[.int .i64 a0_0, .slice A0_1 l0_1.length c0_1]] w fun e w' => ∃ v1_ : Value, e = .returned (.agg #[.int .i64 r1, v1_]) ∧ Kd.R k45 45 w' w.heap.size (fun _ => True) v1_ r2 ∧ Below w.heap.size w w' := by
  unfold spec_l01Turned.f at h
  split at h
  · rename_i hl
    obtain ⟨rfl, rfl⟩ := Prod.mk.inj (Option.some.inj h)
    refine (l01Turned_any a0_0 A0_1 (l0_1.map toT) _ c0_1 w (by simp) (rt_of_C hr0_1) (by simpa [lim6] using hl)).mono ?_
    rintro e w' ⟨g, ln, c', rfl, hln, hO, hB⟩
    exact ⟨_, rfl, R_of_OW hO hln, hB⟩
  · cases h
def spec_l01Transposed.f (a0_0 : Int) (l0_1 : List STile) : Option (Int × List STile) := if lim6 l0_1.length = true then some (a0_0, (sortT ((l0_1.map toT).map (sidesT 1 0 3 2))).map toS) else none
theorem spec_l01Transposed.calls (a0_0 : Int) (A0_1 : Option Addr) (c0_1 : Nat) (l0_1 : List STile) (r1 : Int) (r2 : List STile) (w : World) (hr0_1 : Kd.C k45 w A0_1 l0_1.length l0_1) (hc0_1 : l0_1.length ≤ c0_1) (h : spec_l01Transposed.f a0_0 l0_1 = some (r1, r2)) :
    Calls Try.prog 69 #[.agg #[.int .i64 a0_0, .slice A0_1 l0_1.length c0_1]] w fun e w' => ∃ v1_ : Value, e = .returned (.agg #[.int .i64 r1, v1_]) ∧ Kd.R k45 45 w' w.heap.size (fun _ => True) v1_ r2 ∧ Below w.heap.size w w' := by
  unfold spec_l01Transposed.f at h
  split at h
  · rename_i hl
    obtain ⟨rfl, rfl⟩ := Prod.mk.inj (Option.some.inj h)
    refine (l01Transposed_any a0_0 A0_1 (l0_1.map toT) _ c0_1 w (by simp) (rt_of_C hr0_1) (by simpa [lim6] using hl)).mono ?_
    rintro e w' ⟨g, ln, c', rfl, hln, hO, hB⟩
    exact ⟨_, rfl, R_of_OW hO hln, hB⟩
  · cases h
def impl_Tile_sides.f (a0_0 a0_1 a0_2 a0_3 a1 a2 a3 a4 : Int) : Option (Int × Int × Int × Int) :=
  if a1 = 0 ∧ a2 = 3 ∧ a3 = 2 ∧ a4 = 1 then some (a0_0, a0_3, a0_2, a0_1) else if a1 = 2 ∧ a2 = 1 ∧ a3 = 0 ∧ a4 = 3 then some (a0_2, a0_1, a0_0, a0_3) else
  if a1 = 3 ∧ a2 = 0 ∧ a3 = 1 ∧ a4 = 2 then some (a0_3, a0_0, a0_1, a0_2) else if a1 = 1 ∧ a2 = 0 ∧ a3 = 3 ∧ a4 = 2 then some (a0_1, a0_0, a0_3, a0_2) else none
theorem impl_Tile_sides.calls (a0_0 a0_1 a0_2 a0_3 a1 a2 a3 a4 : Int) (r1 r2 r3 r4 : Int) (w : World) (h : impl_Tile_sides.f a0_0 a0_1 a0_2 a0_3 a1 a2 a3 a4 = some (r1, r2, r3, r4)) :
    Calls Try.prog 66 #[.agg #[.int .i64 a0_0, .int .i64 a0_1, .int .i64 a0_2, .int .i64 a0_3], .int .i64 a1, .int .i64 a2, .int .i64 a3, .int .i64 a4] w fun e w' => e = .returned (.agg #[.int .i64 r1, .int .i64 r2, .int .i64 r3, .int .i64 r4]) ∧ Below w.heap.size w w' := by
  unfold impl_Tile_sides.f at h
  split at h
  · rename_i hq
    obtain ⟨rfl, rfl, rfl, rfl⟩ := hq
    simp only [Option.some.injEq, Prod.mk.injEq] at h
    obtain ⟨rfl, rfl, rfl, rfl⟩ := h
    exact sides_any a0_0 a0_1 a0_2 a0_3 _ _ _ _ 0 3 2 1 w (by decide) (by decide) (by decide) (by decide) rfl rfl rfl rfl
  · skip
    split at h
    · rename_i hq
      obtain ⟨rfl, rfl, rfl, rfl⟩ := hq
      simp only [Option.some.injEq, Prod.mk.injEq] at h
      obtain ⟨rfl, rfl, rfl, rfl⟩ := h
      exact sides_any a0_0 a0_1 a0_2 a0_3 _ _ _ _ 2 1 0 3 w (by decide) (by decide) (by decide) (by decide) rfl rfl rfl rfl
    · skip
      split at h
      · rename_i hq
        obtain ⟨rfl, rfl, rfl, rfl⟩ := hq
        simp only [Option.some.injEq, Prod.mk.injEq] at h
        obtain ⟨rfl, rfl, rfl, rfl⟩ := h
        exact sides_any a0_0 a0_1 a0_2 a0_3 _ _ _ _ 3 0 1 2 w (by decide) (by decide) (by decide) (by decide) rfl rfl rfl rfl
      · skip
        split at h
        · rename_i hq
          obtain ⟨rfl, rfl, rfl, rfl⟩ := hq
          simp only [Option.some.injEq, Prod.mk.injEq] at h
          obtain ⟨rfl, rfl, rfl, rfl⟩ := h
          exact sides_any a0_0 a0_1 a0_2 a0_3 _ _ _ _ 1 0 3 2 w (by decide) (by decide) (by decide) (by decide) rfl rfl rfl rfl
        · cases h
def impl_limited.f (a0 : Int) (l1 : List STile) : Option (Int × List STile × Int) := if lim6 l1.length = true then some ((limR a0 (l1.map toT)).1.1, (limR a0 (l1.map toT)).1.2.map toS, (limR a0 (l1.map toT)).2) else none
theorem impl_limited.calls (a0 : Int) (A1 : Option Addr) (c1 : Nat) (l1 : List STile) (r1 : Int) (r2 : List STile) (r3 : Int) (w : World) (hr1 : Kd.C k45 w A1 l1.length l1) (hc1 : l1.length ≤ c1) (h : impl_limited.f a0 l1 = some (r1, r2, r3)) :
    Calls Try.prog 57 #[.int .i64 a0, .slice A1 l1.length c1] w fun e w' => ∃ v1_ : Value, e = .returned (.tuple #[.agg #[.int .i64 r1, v1_], .int .i64 r3]) ∧ Kd.R k45 45 w' w.heap.size (fun _ => True) v1_ r2 ∧ Below w.heap.size w w' := by
  unfold impl_limited.f at h
  split at h
  · rename_i hl
    simp only [Option.some.injEq, Prod.mk.injEq] at h
    obtain ⟨rfl, rfl, rfl⟩ := h
    refine (limited_any a0 A1 (l1.map toT) _ c1 w (by simp) (rt_of_C hr1) (by simpa [lim6] using hl)).mono ?_
    rintro e w' ⟨v, xc, xs, code, hR, rfl, hO, hB⟩
    rw [hR]
    exact ⟨_, rfl, R_of_OW hO rfl, hB⟩
  · cases h
def spec_l01Has.f (a0_0 : Int) (l0_1 : List STile) (a1_0 a1_1 a1_2 a1_3 : Int) : Option Bool := if inLim l0_1.length = true then some (hasT (l0_1.map toT) ⟨a1_0, a1_1, a1_2, a1_3⟩) else none
theorem spec_l01Has.calls (a0_0 : Int) (A0_1 : Option Addr) (c0_1 : Nat) (l0_1 : List STile) (a1_0 a1_1 a1_2 a1_3 : Int) (r : Bool) (w : World) (hr0_1 : Kd.C k45 w A0_1 l0_1.length l0_1) (hc0_1 : l0_1.length ≤ c0_1) (h : spec_l01Has.f a0_0 l0_1 a1_0 a1_1 a1_2 a1_3 = some r) :
    Calls Try.prog 76 #[.agg #[.int .i64 a0_0, .slice A0_1 l0_1.length c0_1], .agg #[.int .i64 a1_0, .int .i64 a1_1, .int .i64 a1_2, .int .i64 a1_3]] w fun e w' => e = .returned (.bool r) ∧ Below w.heap.size w w' := by
  unfold spec_l01Has.f at h
  split at h
  · rename_i hl
    obtain rfl := Option.some.inj h
    exact l01Has_any a0_0 A0_1 (l0_1.map toT) _ c0_1 ⟨a1_0, a1_1, a1_2, a1_3⟩ w (by simp) (rt_of_C hr0_1) (by simpa [inLim] using hl)
  · cases h
def slices_Contains_impl_Tile_impl_Tile.f (l0 : List STile) (a1_0 a1_1 a1_2 a1_3 : Int) : Option Bool := if inLim l0.length = true then some (hasT (l0.map toT) ⟨a1_0, a1_1, a1_2, a1_3⟩) else none
theorem slices_Contains_impl_Tile_impl_Tile.calls (A0 : Option Addr) (c0 : Nat) (l0 : List STile) (a1_0 a1_1 a1_2 a1_3 : Int) (r : Bool) (w : World) (hr0 : Kd.C k45 w A0 l0.length l0) (hc0 : l0.length ≤ c0) (h : slices_Contains_impl_Tile_impl_Tile.f l0 a1_0 a1_1 a1_2 a1_3 = some r) :
    Calls Try.prog 79 #[.slice A0 l0.length c0, .agg #[.int .i64 a1_0, .int .i64 a1_1, .int .i64 a1_2, .int .i64 a1_3]] w fun e w' => e = .returned (.bool r) ∧ Below w.heap.size w w' := by
  unfold slices_Contains_impl_Tile_impl_Tile.f at h
  split at h
  · rename_i hl
    obtain rfl := Option.some.inj h
    exact ContainsT_any A0 (l0.map toT) _ c0 ⟨a1_0, a1_1, a1_2, a1_3⟩ w (by simp) (rt_of_C hr0) (by simpa [inLim] using hl)
  · cases h
theorem CloneNil_any (c : Nat) (w : World) : Calls Try.prog 72 #[.slice none 0 c] w fun e w' => e = .returned (.slice none 0 0) ∧ Below w.heap.size w w' := by
  have hEQ := fun w => Lib.run_eql_slice_nil (P := Try.prog) w 24 45 none 0 c 0 0 Try.underlying24
  simp only [Option.isNone_none] at hEQ
  go_enter Try.func72, Try.ntmps72
  go_wp2_with fail
  go_ret
  exact ⟨rfl, Below.refl _ _⟩
def slices_Clone_impl_Tile_impl_Tile.f (l0 : List STile) : Option (List STile) := if lim6 l0.length = true then some l0 else none
theorem slices_Clone_impl_Tile_impl_Tile.calls (A0 : Option Addr) (c0 : Nat) (l0 : List STile) (r : List STile) (w : World) (hr0 : Kd.C k45 w A0 l0.length l0) (hc0 : l0.length ≤ c0) (h : slices_Clone_impl_Tile_impl_Tile.f l0 = some r) :
    Calls Try.prog 72 #[.slice A0 l0.length c0] w fun e w' => ∃ v, e = .returned v ∧ Kd.R k45 45 w' w.heap.size (fun _ => True) v r ∧ Below w.heap.size w w' := by
  unfold slices_Clone_impl_Tile_impl_Tile.f at h
  split at h
  · rename_i hl
    obtain rfl := Option.some.inj h
    cases A0 with
    | none =>
      have hn : l0.length = 0 := by
        rcases Nat.eq_zero_or_pos l0.length with h0 | h0
        · exact h0
        · obtain ⟨ad, e, -⟩ := hr0.2.2 h0
          cases e
      obtain rfl := List.eq_nil_of_length_eq_zero hn
      refine (CloneNil_any c0 w).mono ?_
      rintro e w' ⟨rfl, hB⟩
      exact ⟨_, rfl, Kd.R_nil _ _ _ _ _, hB⟩
    | some ad =>
      refine (CloneT_any ad (l0.map toT) _ c0 w (by simp) (rt_of_C hr0) (by simpa [lim6] using hl)).mono ?_
      rintro e w' ⟨g, c', rfl, hO, hB⟩
      have := R_of_OT hO
      rw [map_toST] at this
      exact ⟨_, rfl, this, hB⟩
  · cases h
end Go.Proofs.Ytnjmgmdpkogocaa.Q
namespace Go.Proofs.Ytnjmgmdpkogocaa
open Go Go.RowKit Go.Proofs Go.Proofs.YtnjmgmdpkogocaaW.PrintWords Go.Proofs.YtnjmgmdpkogocaaW.PrintMore Go.Proofs.Ytnjmgmdpkogocaa.Q
set_option linter.unusedVariables false
set_option linter.unusedSimpArgs false
theorem wrap_succ (m : Nat) (h : m < 1000000000) : wrap64 ((m : Int) + 1) = ((m + 1 : Nat) : Int) := by unfold wrap64; omega
theorem rdT_get (l : List STile) (i : Nat) (h : i < l.length) : rd_T45 l (i : Int) = l[i] := by simp [rd_T45, List.getD, List.getElem?_eq_getElem h]
def flat (r : (Int × List T4) × Int) : Int × List STile × Int := (r.1.1, r.1.2.map toS, r.2)
theorem limited_f (C : Int) (l : List STile) (h : l.length ≤ 1000000) : impl_limited.f C l = some (flat (limR C (l.map toT))) := by
  unfold impl_limited.f flat
  rw [if_pos (by simpa [lim6] using h)]
end Go.Proofs.Ytnjmgmdpkogocaa
namespace Go.Proofs.Ytnjmgmdpkogocaa.Q
open Go.RowKit Go.Proofs.YtnjmgmdpkogocaaW.PrintWords Go.Proofs.YtnjmgmdpkogocaaW.PrintLast Go.Proofs.YtnjmgmdpkogocaaW.PrintMore
attribute [local go_sem] max2_int min2_int max_two min_two max_three min_three max_four min_four
set_option linter.unusedVariables false
set_option linter.unusedSimpArgs false
def spec_l01Told.f (a0_0 : Int) (l0_1 : List (S45)) : Option (Int × (List (S45)) × Int) := if a0_0 > 6 then (some (0, ([] : List (S45)), 3)) else (if (l0_1.length : Int) > 16 then (some (0, ([] : List (S45)), 3)) else (some (a0_0, l0_1, 0)))
set_option maxHeartbeats 8000000 in
set_option maxRecDepth 100000 in
theorem spec_l01Told.calls (a0_0 : Int) (P0_1_ : Nat → Prop) (u9000_ : Value) (l0_1 : List (S45)) (r1 : Int) (r2 : List (S45)) (r3 : Int) (w0 w : World) (hB : Below w0.heap.size w0 w) (ho0_1 : Kd.R k45 45 w w0.heap.size P0_1_ u9000_ l0_1) (h : spec_l01Told.f a0_0 l0_1 = some (r1, r2, r3)) :
  Calls Try.prog 51 #[.agg #[.int .i64 a0_0, u9000_]] w fun e w' => ∃ v1_ : Value, e = .returned (.tuple #[.agg #[.int .i64 r1, v1_], .int .i64 r3]) ∧ Kd.R k45 45 w' w0.heap.size (fun k_ => (P0_1_ k_ ∨ w.heap.size ≤ k_)) v1_ r2 ∧ Below w0.heap.size w0 w' ∧ Kept w w' (fun k_ => P0_1_ k_) := by
 have hu26 := Try.underlying26
 have HO0_1 := Aside0.mk (show Kd.R k45 45 w w0.heap.size (fun k_ => (P0_1_ k_ ∨ w.heap.size ≤ k_)) u9000_ l0_1 from Kd.R_mono ho0_1 (fun k_ hk => (.inl hk)))
 have HK := Aside0.mk (Kept.refl w (fun k_ => P0_1_ k_))
 have HW0 := Aside0.mk hB.size
 have HB := Aside0.mk hB
 clear hB
 have H : (if a0_0 > 6 then (some (0, ([] : List (S45)), 3)) else (if (l0_1.length : Int) > 16 then (some (0, ([] : List (S45)), 3)) else (some (a0_0, l0_1, 0)))) = some (r1, r2, r3) := h
 clear h
 by_cases c2 : a0_0 > 6
 ·rw [if_pos c2] at H
  have c2b0 : decide (6 < a0_0) = true := decide_eq_true c2
  clear c2
  simp only [Option.some.injEq, Prod.mk.injEq] at H
  obtain ⟨rfl, rfl, rfl⟩ := H
  obtain ⟨Ao3, co3, eo3⟩ := Kd.R_slice HO0_1.out
  subst eo3
  go_enter Try.func51, Try.ntmps51
  go_wp2_with (first | ((with_reducible refine gate_dst (N := 1) rfl ?_); (try (refine gate_guard (by rfl) ?_; dsimp only)); refine box_event ?hg (N := 1) ?hd (cs := #[.int .i64 a0_0, .slice Ao3 l0_1.length co3]) (t := 26) ?hr ?_; (case hd => rfl); (case hg => rfl); (case hr => first | (go_simp; done) | (go_simp; rfl)); intro gb101 hg w4 hbox hb; have n0_ := Aside0.mk (Kd.R_below (by (with_reducible repeat (first | apply Kd.R_alloc | apply Kd.R_drewN | apply Kd.R_drew)); exact HO0_1.out) hb); have n1_ := Aside0.mk (Kept.below (S := (fun k_ => P0_1_ k_)) (by repeat (first | (with_reducible first | exact HK.out | apply Kept.alloc | apply Kept.drewN | apply Kept.drew) | exact HK.out)) hb); have n2_ := Aside0.mk (below_step (by repeat (first | (with_reducible first | exact HB.out | apply below_alloc | apply pw_below_drewN | apply below_drew1) | exact HB.out)) hb); have n3_ := Aside0.mk (hbox); have n4_ := Aside0.mk ((by rw [hg]; exact (by first | exact HK.out.1 | exact (show Kept w _ (fun k_ => P0_1_ k_) from by repeat (first | (with_reducible first | exact HK.out | apply Kept.alloc | apply Kept.drewN | apply Kept.drew) | exact HK.out)).1) : w.heap.size ≤ gb101)); have n5_ := Aside0.mk ((by rw [hg]; exact (below_size (by repeat (first | (with_reducible first | exact HB.out | apply below_alloc | apply pw_below_drewN | apply below_drew1) | exact HB.out))) : w0.heap.size ≤ gb101)); clear HO0_1; clear HK; clear HB; have HO0_1 := n0_; have HK := n1_; have HB := n2_; have BK101 := n3_; have GW101 := n4_; have GE101 := n5_; clear n0_ n1_ n2_ n3_ n4_ n5_; clear hb hbox hg) | ((with_reducible refine gate_dst (N := 2) rfl ?_); (try (refine gate_guard (by rfl) ?_; dsimp only)); refine box_event ?hg (N := 2) ?hd (cs := #[.int .i64 0, .slice none 0 0]) (t := 26) ?hr ?_; (case hd => rfl); (case hg => rfl); (case hr => first | (go_simp; done) | (go_simp; rfl)); intro gb102 hg w5 hbox hb; have n0_ := Aside0.mk (Kd.R_below (by (with_reducible repeat (first | apply Kd.R_alloc | apply Kd.R_drewN | apply Kd.R_drew)); exact HO0_1.out) hb); have n1_ := Aside0.mk (blk_below (g := gb101) (o := .cells #[.int .i64 a0_0, .slice Ao3 l0_1.length co3] 26 (0, 0)) (by (with_reducible repeat (first | refine blk_drewN ?_ _ | refine blk_drew ?_ | refine blk_alloc ?_ _)); exact BK101.out) hb); have n2_ := Aside0.mk (Kept.below (S := (fun k_ => P0_1_ k_)) (by repeat (first | (with_reducible first | exact HK.out | apply Kept.alloc | apply Kept.drewN | apply Kept.drew | refine Kept.setCell ?_ (.inr GW101.out) _) | exact HK.out)) hb); have n3_ := Aside0.mk (below_step (by repeat (first | (with_reducible first | exact HB.out | apply below_alloc | apply pw_below_drewN | apply below_drew1 | refine below_set ?_ GE101.out) | exact HB.out)) hb); have n4_ := Aside0.mk (hbox); have n5_ := Aside0.mk ((by rw [hg]; exact (by first | exact HK.out.1 | exact (show Kept w _ (fun k_ => P0_1_ k_) from by repeat (first | (with_reducible first | exact HK.out | apply Kept.alloc | apply Kept.drewN | apply Kept.drew | refine Kept.setCell ?_ (.inr GW101.out) _) | exact HK.out)).1) : w.heap.size ≤ gb102)); have n6_ := Aside0.mk ((by rw [hg]; exact (below_size (by repeat (first | (with_reducible first | exact HB.out | apply below_alloc | apply pw_below_drewN | apply below_drew1 | refine below_set ?_ GE101.out) | exact HB.out))) : w0.heap.size ≤ gb102)); have n7_ := Aside0.mk ((by rw [hg]; exact Nat.ne_of_lt (blk_lt (g := gb101) (o := .cells #[.int .i64 a0_0, .slice Ao3 l0_1.length co3] 26 (0, 0)) (by (with_reducible repeat (first | refine blk_drewN ?_ _ | refine blk_drew ?_ | refine blk_alloc ?_ _)); exact BK101.out)) : gb101 ≠ gb102)); have n8_ := Aside0.mk ((by rw [hg]; exact Nat.ne_of_gt (blk_lt (g := gb101) (o := .cells #[.int .i64 a0_0, .slice Ao3 l0_1.length co3] 26 (0, 0)) (by (with_reducible repeat (first | refine blk_drewN ?_ _ | refine blk_drew ?_ | refine blk_alloc ?_ _)); exact BK101.out)) : gb102 ≠ gb101)); clear HO0_1; clear BK101; clear HK; clear HB; have HO0_1 := n0_; have BK101 := n1_; have HK := n2_; have HB := n3_; have BK102 := n4_; have GW102 := n5_; have GE102 := n6_; have NB101_102 := n7_; have NB102_101 := n8_; clear n0_ n1_ n2_ n3_ n4_ n5_ n6_ n7_ n8_; clear hb hbox hg; have hnb6 := NB101_102.out; have hnc6 := NB102_101.out; have hcz7_0 : w5.cell? ⟨gb101, 0, none⟩ = some (.int .i64 a0_0) := (blk_cell BK101.out 0).trans rfl; have hcz7_1 : w5.cell? ⟨gb101, 1, none⟩ = some (.slice Ao3 l0_1.length co3) := (blk_cell BK101.out 1).trans rfl; have hfz7_0 := blk_frozen BK101.out 0; have hfz7_1 := blk_frozen BK101.out 1; have hcz8_0 : w5.cell? ⟨gb102, 0, none⟩ = some (.int .i64 0) := (blk_cell BK102.out 0).trans rfl; have hcz8_1 : w5.cell? ⟨gb102, 1, none⟩ = some (.slice none 0 0) := (blk_cell BK102.out 1).trans rfl; have hfz8_0 := blk_frozen BK102.out 0; have hfz8_1 := blk_frozen BK102.out 1))
  refine bodyPost_ret (results_ct rfl _ _ gb102 26 #[.int .i64 0, .slice none 0 0] (0, 0) _ rfl (by (with_reducible repeat (first | refine blk_drewN ?_ _ | refine blk_drew ?_ | refine blk_alloc ?_ _)); refine blk_put (cs := #[.int .i64 0, .slice none 0 0]) ?_ 1 _ rfl; (with_reducible repeat (first | refine blk_drewN ?_ _ | refine blk_drew ?_ | refine blk_alloc ?_ _)); refine blk_put (cs := #[.int .i64 0, .slice none 0 0]) ?_ 0 _ rfl; (with_reducible repeat (first | refine blk_drewN ?_ _ | refine blk_drew ?_ | refine blk_alloc ?_ _)); exact BK102.out) Try.underlying26 rfl (by kernel_rfl)) rfl ?_
  exact ⟨_, by first | rfl | (simp [errW_none, errW_some] <;> rfl) | (simp [*, errW_none, errW_some] <;> rfl), by first | exact Kd.R_nil _ _ _ _ _ | exact Kd.N_nil _ _ _ _ _ | exact Kd.V_nil _ _ _ _ _ | exact Kd.Q_nil _ _ _ _ _ | exact Kd.S_nil _ _ _ _ _, by repeat (first | (with_reducible first | exact HB.out | apply below_alloc | apply pw_below_drewN | apply below_drew1 | refine below_set ?_ GE101.out | refine below_set ?_ GE102.out) | exact HB.out), by repeat (first | (with_reducible first | exact HK.out | apply Kept.alloc | apply Kept.drewN | apply Kept.drew | refine Kept.setCell ?_ (.inr GW101.out) _ | refine Kept.setCell ?_ (.inr GW102.out) _) | exact HK.out)⟩
 ·rw [if_neg c2] at H
  have c2b0 : decide (6 < a0_0) = false := decide_eq_false c2
  clear c2
  by_cases c9 : (l0_1.length : Int) > 16
  ·rw [if_pos c9] at H
   have c9b0 : decide (16 < (l0_1.length : Int)) = true := decide_eq_true c9
   have c9b1 : decide (16 < l0_1.length) = true := decide_eq_true (by omega)
   clear c9
   simp only [Option.some.injEq, Prod.mk.injEq] at H
   obtain ⟨rfl, rfl, rfl⟩ := H
   obtain ⟨Ao10, co10, eo10⟩ := Kd.R_slice HO0_1.out
   subst eo10
   go_enter Try.func51, Try.ntmps51
   go_wp2_with (first | ((with_reducible refine gate_dst (N := 1) rfl ?_); (try (refine gate_guard (by rfl) ?_; dsimp only)); refine box_event ?hg (N := 1) ?hd (cs := #[.int .i64 a0_0, .slice Ao10 l0_1.length co10]) (t := 26) ?hr ?_; (case hd => rfl); (case hg => rfl); (case hr => first | (go_simp; done) | (go_simp; rfl)); intro gb101 hg w11 hbox hb; have n0_ := Aside0.mk (Kd.R_below (by (with_reducible repeat (first | apply Kd.R_alloc | apply Kd.R_drewN | apply Kd.R_drew)); exact HO0_1.out) hb); have n1_ := Aside0.mk (Kept.below (S := (fun k_ => P0_1_ k_)) (by repeat (first | (with_reducible first | exact HK.out | apply Kept.alloc | apply Kept.drewN | apply Kept.drew) | exact HK.out)) hb); have n2_ := Aside0.mk (below_step (by repeat (first | (with_reducible first | exact HB.out | apply below_alloc | apply pw_below_drewN | apply below_drew1) | exact HB.out)) hb); have n3_ := Aside0.mk (hbox); have n4_ := Aside0.mk ((by rw [hg]; exact (by first | exact HK.out.1 | exact (show Kept w _ (fun k_ => P0_1_ k_) from by repeat (first | (with_reducible first | exact HK.out | apply Kept.alloc | apply Kept.drewN | apply Kept.drew) | exact HK.out)).1) : w.heap.size ≤ gb101)); have n5_ := Aside0.mk ((by rw [hg]; exact (below_size (by repeat (first | (with_reducible first | exact HB.out | apply below_alloc | apply pw_below_drewN | apply below_drew1) | exact HB.out))) : w0.heap.size ≤ gb101)); clear HO0_1; clear HK; clear HB; have HO0_1 := n0_; have HK := n1_; have HB := n2_; have BK101 := n3_; have GW101 := n4_; have GE101 := n5_; clear n0_ n1_ n2_ n3_ n4_ n5_; clear hb hbox hg) | ((with_reducible refine gate_dst (N := 2) rfl ?_); (try (refine gate_guard (by rfl) ?_; dsimp only)); refine box_event ?hg (N := 2) ?hd (cs := #[.int .i64 0, .slice none 0 0]) (t := 26) ?hr ?_; (case hd => rfl); (case hg => rfl); (case hr => first | (go_simp; done) | (go_simp; rfl)); intro gb102 hg w12 hbox hb; have n0_ := Aside0.mk (Kd.R_below (by (with_reducible repeat (first | apply Kd.R_alloc | apply Kd.R_drewN | apply Kd.R_drew)); exact HO0_1.out) hb); have n1_ := Aside0.mk (blk_below (g := gb101) (o := .cells #[.int .i64 a0_0, .slice Ao10 l0_1.length co10] 26 (0, 0)) (by (with_reducible repeat (first | refine blk_drewN ?_ _ | refine blk_drew ?_ | refine blk_alloc ?_ _)); exact BK101.out) hb); have n2_ := Aside0.mk (Kept.below (S := (fun k_ => P0_1_ k_)) (by repeat (first | (with_reducible first | exact HK.out | apply Kept.alloc | apply Kept.drewN | apply Kept.drew | refine Kept.setCell ?_ (.inr GW101.out) _) | exact HK.out)) hb); have n3_ := Aside0.mk (below_step (by repeat (first | (with_reducible first | exact HB.out | apply below_alloc | apply pw_below_drewN | apply below_drew1 | refine below_set ?_ GE101.out) | exact HB.out)) hb); have n4_ := Aside0.mk (hbox); have n5_ := Aside0.mk ((by rw [hg]; exact (by first | exact HK.out.1 | exact (show Kept w _ (fun k_ => P0_1_ k_) from by repeat (first | (with_reducible first | exact HK.out | apply Kept.alloc | apply Kept.drewN | apply Kept.drew | refine Kept.setCell ?_ (.inr GW101.out) _) | exact HK.out)).1) : w.heap.size ≤ gb102)); have n6_ := Aside0.mk ((by rw [hg]; exact (below_size (by repeat (first | (with_reducible first | exact HB.out | apply below_alloc | apply pw_below_drewN | apply below_drew1 | refine below_set ?_ GE101.out) | exact HB.out))) : w0.heap.size ≤ gb102)); have n7_ := Aside0.mk ((by rw [hg]; exact Nat.ne_of_lt (blk_lt (g := gb101) (o := .cells #[.int .i64 a0_0, .slice Ao10 l0_1.length co10] 26 (0, 0)) (by (with_reducible repeat (first | refine blk_drewN ?_ _ | refine blk_drew ?_ | refine blk_alloc ?_ _)); exact BK101.out)) : gb101 ≠ gb102)); have n8_ := Aside0.mk ((by rw [hg]; exact Nat.ne_of_gt (blk_lt (g := gb101) (o := .cells #[.int .i64 a0_0, .slice Ao10 l0_1.length co10] 26 (0, 0)) (by (with_reducible repeat (first | refine blk_drewN ?_ _ | refine blk_drew ?_ | refine blk_alloc ?_ _)); exact BK101.out)) : gb102 ≠ gb101)); clear HO0_1; clear BK101; clear HK; clear HB; have HO0_1 := n0_; have BK101 := n1_; have HK := n2_; have HB := n3_; have BK102 := n4_; have GW102 := n5_; have GE102 := n6_; have NB101_102 := n7_; have NB102_101 := n8_; clear n0_ n1_ n2_ n3_ n4_ n5_ n6_ n7_ n8_; clear hb hbox hg; have hnb13 := NB101_102.out; have hnc13 := NB102_101.out; have hcz14_0 : w12.cell? ⟨gb101, 0, none⟩ = some (.int .i64 a0_0) := (blk_cell BK101.out 0).trans rfl; have hcz14_1 : w12.cell? ⟨gb101, 1, none⟩ = some (.slice Ao10 l0_1.length co10) := (blk_cell BK101.out 1).trans rfl; have hfz14_0 := blk_frozen BK101.out 0; have hfz14_1 := blk_frozen BK101.out 1; have hcz15_0 : w12.cell? ⟨gb102, 0, none⟩ = some (.int .i64 0) := (blk_cell BK102.out 0).trans rfl; have hcz15_1 : w12.cell? ⟨gb102, 1, none⟩ = some (.slice none 0 0) := (blk_cell BK102.out 1).trans rfl; have hfz15_0 := blk_frozen BK102.out 0; have hfz15_1 := blk_frozen BK102.out 1))
   refine bodyPost_ret (results_ct rfl _ _ gb102 26 #[.int .i64 0, .slice none 0 0] (0, 0) _ rfl (by (with_reducible repeat (first | refine blk_drewN ?_ _ | refine blk_drew ?_ | refine blk_alloc ?_ _)); refine blk_put (cs := #[.int .i64 0, .slice none 0 0]) ?_ 1 _ rfl; (with_reducible repeat (first | refine blk_drewN ?_ _ | refine blk_drew ?_ | refine blk_alloc ?_ _)); refine blk_put (cs := #[.int .i64 0, .slice none 0 0]) ?_ 0 _ rfl; (with_reducible repeat (first | refine blk_drewN ?_ _ | refine blk_drew ?_ | refine blk_alloc ?_ _)); exact BK102.out) Try.underlying26 rfl (by kernel_rfl)) rfl ?_
   exact ⟨_, by first | rfl | (simp [errW_none, errW_some] <;> rfl) | (simp [*, errW_none, errW_some] <;> rfl), by first | exact Kd.R_nil _ _ _ _ _ | exact Kd.N_nil _ _ _ _ _ | exact Kd.V_nil _ _ _ _ _ | exact Kd.Q_nil _ _ _ _ _ | exact Kd.S_nil _ _ _ _ _, by repeat (first | (with_reducible first | exact HB.out | apply below_alloc | apply pw_below_drewN | apply below_drew1 | refine below_set ?_ GE101.out | refine below_set ?_ GE102.out) | exact HB.out), by repeat (first | (with_reducible first | exact HK.out | apply Kept.alloc | apply Kept.drewN | apply Kept.drew | refine Kept.setCell ?_ (.inr GW101.out) _ | refine Kept.setCell ?_ (.inr GW102.out) _) | exact HK.out)⟩
  ·rw [if_neg c9] at H
   have c9b0 : decide (16 < (l0_1.length : Int)) = false := decide_eq_false c9
   have c9b1 : decide (16 < l0_1.length) = false := decide_eq_false (by omega)
   clear c9
   simp only [Option.some.injEq, Prod.mk.injEq] at H
   obtain ⟨rfl, rfl, rfl⟩ := H
   obtain ⟨Ao16, co16, eo16⟩ := Kd.R_slice HO0_1.out
   subst eo16
   go_enter Try.func51, Try.ntmps51
   go_wp2_with (first | ((with_reducible refine gate_dst (N := 1) rfl ?_); (try (refine gate_guard (by rfl) ?_; dsimp only)); refine box_event ?hg (N := 1) ?hd (cs := #[.int .i64 a0_0, .slice Ao16 l0_1.length co16]) (t := 26) ?hr ?_; (case hd => rfl); (case hg => rfl); (case hr => first | (go_simp; done) | (go_simp; rfl)); intro gb101 hg w17 hbox hb; have n0_ := Aside0.mk (Kd.R_below (by (with_reducible repeat (first | apply Kd.R_alloc | apply Kd.R_drewN | apply Kd.R_drew)); exact HO0_1.out) hb); have n1_ := Aside0.mk (Kept.below (S := (fun k_ => P0_1_ k_)) (by repeat (first | (with_reducible first | exact HK.out | apply Kept.alloc | apply Kept.drewN | apply Kept.drew) | exact HK.out)) hb); have n2_ := Aside0.mk (below_step (by repeat (first | (with_reducible first | exact HB.out | apply below_alloc | apply pw_below_drewN | apply below_drew1) | exact HB.out)) hb); have n3_ := Aside0.mk (hbox); have n4_ := Aside0.mk ((by rw [hg]; exact (by first | exact HK.out.1 | exact (show Kept w _ (fun k_ => P0_1_ k_) from by repeat (first | (with_reducible first | exact HK.out | apply Kept.alloc | apply Kept.drewN | apply Kept.drew) | exact HK.out)).1) : w.heap.size ≤ gb101)); have n5_ := Aside0.mk ((by rw [hg]; exact (below_size (by repeat (first | (with_reducible first | exact HB.out | apply below_alloc | apply pw_below_drewN | apply below_drew1) | exact HB.out))) : w0.heap.size ≤ gb101)); clear HO0_1; clear HK; clear HB; have HO0_1 := n0_; have HK := n1_; have HB := n2_; have BK101 := n3_; have GW101 := n4_; have GE101 := n5_; clear n0_ n1_ n2_ n3_ n4_ n5_; clear hb hbox hg) | ((with_reducible refine gate_dst (N := 2) rfl ?_); (try (refine gate_guard (by rfl) ?_; dsimp only)); refine box_event ?hg (N := 2) ?hd (cs := #[.int .i64 0, .slice none 0 0]) (t := 26) ?hr ?_; (case hd => rfl); (case hg => rfl); (case hr => first | (go_simp; done) | (go_simp; rfl)); intro gb102 hg w18 hbox hb; have n0_ := Aside0.mk (Kd.R_below (by (with_reducible repeat (first | apply Kd.R_alloc | apply Kd.R_drewN | apply Kd.R_drew)); exact HO0_1.out) hb); have n1_ := Aside0.mk (blk_below (g := gb101) (o := .cells #[.int .i64 a0_0, .slice Ao16 l0_1.length co16] 26 (0, 0)) (by (with_reducible repeat (first | refine blk_drewN ?_ _ | refine blk_drew ?_ | refine blk_alloc ?_ _)); exact BK101.out) hb); have n2_ := Aside0.mk (Kept.below (S := (fun k_ => P0_1_ k_)) (by repeat (first | (with_reducible first | exact HK.out | apply Kept.alloc | apply Kept.drewN | apply Kept.drew | refine Kept.setCell ?_ (.inr GW101.out) _) | exact HK.out)) hb); have n3_ := Aside0.mk (below_step (by repeat (first | (with_reducible first | exact HB.out | apply below_alloc | apply pw_below_drewN | apply below_drew1 | refine below_set ?_ GE101.out) | exact HB.out)) hb); have n4_ := Aside0.mk (hbox); have n5_ := Aside0.mk ((by rw [hg]; exact (by first | exact HK.out.1 | exact (show Kept w _ (fun k_ => P0_1_ k_) from by repeat (first | (with_reducible first | exact HK.out | apply Kept.alloc | apply Kept.drewN | apply Kept.drew | refine Kept.setCell ?_ (.inr GW101.out) _) | exact HK.out)).1) : w.heap.size ≤ gb102)); have n6_ := Aside0.mk ((by rw [hg]; exact (below_size (by repeat (first | (with_reducible first | exact HB.out | apply below_alloc | apply pw_below_drewN | apply below_drew1 | refine below_set ?_ GE101.out) | exact HB.out))) : w0.heap.size ≤ gb102)); have n7_ := Aside0.mk ((by rw [hg]; exact Nat.ne_of_lt (blk_lt (g := gb101) (o := .cells #[.int .i64 a0_0, .slice Ao16 l0_1.length co16] 26 (0, 0)) (by (with_reducible repeat (first | refine blk_drewN ?_ _ | refine blk_drew ?_ | refine blk_alloc ?_ _)); exact BK101.out)) : gb101 ≠ gb102)); have n8_ := Aside0.mk ((by rw [hg]; exact Nat.ne_of_gt (blk_lt (g := gb101) (o := .cells #[.int .i64 a0_0, .slice Ao16 l0_1.length co16] 26 (0, 0)) (by (with_reducible repeat (first | refine blk_drewN ?_ _ | refine blk_drew ?_ | refine blk_alloc ?_ _)); exact BK101.out)) : gb102 ≠ gb101)); clear HO0_1; clear BK101; clear HK; clear HB; have HO0_1 := n0_; have BK101 := n1_; have HK := n2_; have HB := n3_; have BK102 := n4_; have GW102 := n5_; have GE102 := n6_; have NB101_102 := n7_; have NB102_101 := n8_; clear n0_ n1_ n2_ n3_ n4_ n5_ n6_ n7_ n8_; clear hb hbox hg; have hnb19 := NB101_102.out; have hnc19 := NB102_101.out; have hcz20_0 : w18.cell? ⟨gb101, 0, none⟩ = some (.int .i64 a0_0) := (blk_cell BK101.out 0).trans rfl; have hcz20_1 : w18.cell? ⟨gb101, 1, none⟩ = some (.slice Ao16 l0_1.length co16) := (blk_cell BK101.out 1).trans rfl; have hfz20_0 := blk_frozen BK101.out 0; have hfz20_1 := blk_frozen BK101.out 1; have hcz21_0 : w18.cell? ⟨gb102, 0, none⟩ = some (.int .i64 0) := (blk_cell BK102.out 0).trans rfl; have hcz21_1 : w18.cell? ⟨gb102, 1, none⟩ = some (.slice none 0 0) := (blk_cell BK102.out 1).trans rfl; have hfz21_0 := blk_frozen BK102.out 0; have hfz21_1 := blk_frozen BK102.out 1))
   refine bodyPost_ret (results_ct rfl _ _ gb102 26 #[.int .i64 a0_0, .slice Ao16 l0_1.length co16] (0, 0) _ rfl (by (with_reducible repeat (first | refine blk_drewN ?_ _ | refine blk_drew ?_ | refine blk_alloc ?_ _)); refine blk_put (cs := #[.int .i64 a0_0, .slice none 0 0]) ?_ 1 _ rfl; (with_reducible repeat (first | refine blk_drewN ?_ _ | refine blk_drew ?_ | refine blk_alloc ?_ _)); refine blk_put (cs := #[.int .i64 0, .slice none 0 0]) ?_ 0 _ rfl; (with_reducible repeat (first | refine blk_drewN ?_ _ | refine blk_drew ?_ | refine blk_alloc ?_ _)); exact BK102.out) Try.underlying26 rfl (by kernel_rfl)) rfl ?_
   exact ⟨_, by first | rfl | (simp [errW_none, errW_some] <;> rfl) | (simp [*, errW_none, errW_some] <;> rfl), by (with_reducible repeat (first | apply Kd.R_alloc | apply Kd.R_drewN | apply Kd.R_drew)); exact Kd.R_mono (Kd.R_far (p := ⟨gb102, 1, none⟩) (Kd.R_far (p := ⟨gb102, 0, none⟩) (Kd.R_types HO0_1.out BK102.out (by decide)) (fun _ hk => hk.2) (.int .i64 a0_0)) (fun _ hk => hk.2) (.slice Ao16 l0_1.length co16)) (fun _ hk => hk.1), by repeat (first | (with_reducible first | exact HB.out | apply below_alloc | apply pw_below_drewN | apply below_drew1 | refine below_set ?_ GE101.out | refine below_set ?_ GE102.out) | exact HB.out), by repeat (first | (with_reducible first | exact HK.out | apply Kept.alloc | apply Kept.drewN | apply Kept.drew | refine Kept.setCell ?_ (.inr GW101.out) _ | refine Kept.setCell ?_ (.inr GW102.out) _) | exact HK.out)⟩
end Go.Proofs.Ytnjmgmdpkogocaa.Q
namespace Go.Proofs.Ytnjmgmdpkogocaa
open Go Go.RowKit Go.Proofs Go.Proofs.YtnjmgmdpkogocaaW.PrintWords Go.Proofs.YtnjmgmdpkogocaaW.PrintMore Go.Proofs.Ytnjmgmdpkogocaa.Q
set_option linter.unusedVariables false
set_option linter.unusedSimpArgs false
theorem told_f (C : Int) (us : List T4) : spec_l01Told.f C (us.map toS) = some (flat (if (decide (C ≤ 6) && decide (us.length ≤ 16)) = true then ((C, us), 0) else ((0, []), 3))) := by
  unfold spec_l01Told.f flat
  rw [List.length_map]
  by_cases h1 : C ≤ 6
  · rw [if_neg (show ¬ C > 6 by omega)]
    by_cases h2 : us.length ≤ 16
    · rw [if_neg (show ¬ (us.length : Int) > 16 by omega), if_pos (by simp [h1, h2])]
    · rw [if_pos (show (us.length : Int) > 16 by omega), if_neg (by simp [h2])]; rfl
  · rw [if_pos (show C > 6 by omega), if_neg (by simp [h1])]; rfl
theorem specMade_f (C : Int) (l : List STile) (h : l.length ≤ 1000000) : spec_l01Made.f C l = some (C, (sortT (l.map toT)).map toS) := by
  unfold spec_l01Made.f
  rw [if_pos (by simpa [lim6] using h)]
end Go.Proofs.Ytnjmgmdpkogocaa
namespace Go.Proofs.Ytnjmgmdpkogocaa.Q
open Go.RowKit Go.Proofs.YtnjmgmdpkogocaaW.PrintWords Go.Proofs.YtnjmgmdpkogocaaW.PrintLast Go.Proofs.YtnjmgmdpkogocaaW.PrintMore
attribute [local go_sem] max2_int min2_int max_two min_two max_three min_three max_four min_four
set_option linter.unusedVariables false
set_option linter.unusedSimpArgs false
def spec_l01In.f (a0 : Int) (a1 : Int) (a2 : Int) : Option (Bool) := if a0 ≥ a1 then (some (decide (a0 ≤ a2))) else (some false)
set_option maxHeartbeats 8000000 in
set_option maxRecDepth 100000 in
theorem spec_l01In.calls (a0 : Int) (a1 : Int) (a2 : Int) (r : Bool) (w : World) (h : spec_l01In.f a0 a1 a2 = some r) :
  Calls Try.prog 49 #[.int .i64 a0, .int .i64 a1, .int .i64 a2] w fun e w' => e = .returned (.bool r) ∧ Drawn0 w w' := by
 have H : (if a0 ≥ a1 then (some (decide (a0 ≤ a2))) else (some false)) = some r := h
 clear h
 by_cases c4 : a0 ≥ a1
 ·rw [if_pos c4] at H
  have c4b0 : decide (a1 ≤ a0) = true := decide_eq_true c4
  clear c4
  obtain rfl := Option.some.inj H
  go_enter Try.func49, Try.ntmps49
  go_wp2
  go_ret
  exact ⟨by first | rfl | (simp; done) | (simp [*]; done), by repeat (first | exact Drawn0.refl _ | apply Drawn0.step)⟩
 ·rw [if_neg c4] at H
  have c4b0 : decide (a1 ≤ a0) = false := decide_eq_false c4
  clear c4
  obtain rfl := Option.some.inj H
  go_enter Try.func49, Try.ntmps49
  go_wp2
  go_ret
  exact ⟨by first | rfl | (simp; done) | (simp [*]; done), by repeat (first | exact Drawn0.refl _ | apply Drawn0.step)⟩
end Go.Proofs.Ytnjmgmdpkogocaa.Q
namespace Go.Proofs.Ytnjmgmdpkogocaa.Q
open Go.RowKit Go.Proofs.YtnjmgmdpkogocaaW.PrintWords Go.Proofs.YtnjmgmdpkogocaaW.PrintLast Go.Proofs.YtnjmgmdpkogocaaW.PrintMore
attribute [local go_sem] max2_int min2_int max_two min_two max_three min_three max_four min_four
set_option linter.unusedVariables false
set_option linter.unusedSimpArgs false
mutual
def spec_SetOf.j0 : Nat → Int → List (S45) → Bool → Option (Int × (List (S45)) × Int)
 | 0, _, _, _ => none
 | k + 1, x0, x1, x16 => if x16 = true then (some (0, ([] : List (S45)), 2)) else (spec_SetOf.l0 k x0 x1 0)
def spec_SetOf.l0 : Nat → Int → List (S45) → Int → Option (Int × (List (S45)) × Int)
 | 0, _, _, _ => none
 | k + 1, x0, x1, x6 => if x6 < (x1.length : Int) then (if 0 ≤ x6 then ((spec_l01Tile.f x0 ((rd_T45 x1 x6).f0) ((rd_T45 x1 x6).f1) ((rd_T45 x1 x6).f2) ((rd_T45 x1 x6).f3)).bind fun t114 => (if t114 = true then (spec_SetOf.l0 k x0 x1 (wrap64 (x6 + 1))) else (some (0, ([] : List (S45)), 2)))) else (none)) else ((spec_l01Made.f x0 x1).bind fun bt115 => ((spec_l01Told.f bt115.1 bt115.2).bind fun bt119 => (some (bt119.1, bt119.2.1, bt119.2.2))))
end
def spec_SetOf.f (k : Nat) (a0 : Int) (l1 : List (S45)) : Option (Int × (List (S45)) × Int) := (spec_l01In.f a0 1 6).bind fun t112 => (if t112 = true then (spec_SetOf.j0 k a0 l1 (decide ((l1.length : Int) > 100))) else (spec_SetOf.j0 k a0 l1 true))
theorem spec_SetOf.mono_l : ∀ k, (∀ y0 y1 y2, LeO (spec_SetOf.j0 k y0 y1 y2) (spec_SetOf.j0 (k + 1) y0 y1 y2)) ∧ (∀ y0 y1 y2, LeO (spec_SetOf.l0 k y0 y1 y2) (spec_SetOf.l0 (k + 1) y0 y1 y2))
 | 0 => ⟨fun _ _ _ r h => by simp [spec_SetOf.j0] at h, fun _ _ _ r h => by simp [spec_SetOf.l0] at h⟩
 | k + 1 => by
  obtain ⟨ih0, ih1⟩ := spec_SetOf.mono_l k
  refine ⟨?_, ?_⟩
  ·intro y0 y1 y2
   unfold spec_SetOf.j0
   repeat' first
   | (with_reducible exact ih0 _ _ _)
   | (with_reducible exact ih1 _ _ _)
   | (with_reducible exact LeO.refl _)
   | (with_reducible exact LeO.none _)
   | (with_reducible refine LeO.ite ?_ ?_)
   | (with_reducible refine LeO.bind ?_ (fun _ => ?_))
   | exact ih0 _ _ _
   | exact ih1 _ _ _
   | exact LeO.none _
   | refine LeO.ite ?_ ?_
   | refine LeO.bind ?_ (fun _ => ?_)
  ·intro y0 y1 y2
   unfold spec_SetOf.l0
   repeat' first
   | (with_reducible exact ih0 _ _ _)
   | (with_reducible exact ih1 _ _ _)
   | (with_reducible exact LeO.refl _)
   | (with_reducible exact LeO.none _)
   | (with_reducible refine LeO.ite ?_ ?_)
   | (with_reducible refine LeO.bind ?_ (fun _ => ?_))
   | exact ih0 _ _ _
   | exact ih1 _ _ _
   | exact LeO.none _
   | refine LeO.ite ?_ ?_
   | refine LeO.bind ?_ (fun _ => ?_)
theorem spec_SetOf.mono : ∀ a0 a1 k, LeO (spec_SetOf.f k a0 a1) (spec_SetOf.f (k + 1) a0 a1) := by
 intro a0 a1 k
 obtain ⟨ih0, ih1⟩ := spec_SetOf.mono_l k
 unfold spec_SetOf.f
 repeat' first
   | (with_reducible exact ih0 _ _ _)
   | (with_reducible exact ih1 _ _ _)
   | (with_reducible exact LeO.refl _)
   | (with_reducible exact LeO.none _)
   | (with_reducible refine LeO.ite ?_ ?_)
   | (with_reducible refine LeO.bind ?_ (fun _ => ?_))
   | exact ih0 _ _ _
   | exact ih1 _ _ _
   | exact LeO.none _
   | refine LeO.ite ?_ ?_
   | refine LeO.bind ?_ (fun _ => ?_)
set_option maxHeartbeats 8000000 in
set_option maxRecDepth 100000 in
theorem spec_SetOf.calls (k : Nat) (a0 : Int) (A1 : Option Addr) (c1 : Nat) (l1 : List (S45)) (r1 : Int) (r2 : List (S45)) (r3 : Int) (w : World) (hr1 : Kd.C k45 w A1 l1.length l1) (hc1 : l1.length ≤ c1) (h : spec_SetOf.f k a0 l1 = some (r1, r2, r3)) :
  Calls Try.prog 14 #[.int .i64 a0, .slice A1 l1.length c1] w fun e w' => ∃ v1_ : Value, e = .returned (.tuple #[.agg #[.int .i64 r1, v1_], .int .i64 r3]) ∧ Kd.R k45 45 w' w.heap.size (fun _ => True) v1_ r2 ∧ Below w.heap.size w w' := by
 have hu26 := Try.underlying26
 have hu45 := Try.underlying45
 have HR1 := Aside0.mk hr1
 have HC1 := Aside0.mk hc1
 clear hr1 hc1
 have HB := Aside0.mk (Below.refl w.heap.size w)
 have H : ((spec_l01In.f a0 1 6).bind fun t112 => (if t112 = true then (spec_SetOf.j0 k a0 l1 (decide ((l1.length : Int) > 100))) else (spec_SetOf.j0 k a0 l1 true))) = some (r1, r2, r3) := h
 clear h
 have HC3 := Aside0.mk H
 clear H
 go_enter Try.func14, Try.ntmps14
 go_upto_region 1 with (first | ((with_reducible refine gate_dst (N := 4) rfl ?_); (try (refine gate_guard (by rfl) ?_; dsimp only)); refine box_event ?hg (N := 4) ?hd (cs := #[.int .i64 0, .slice none 0 0]) (t := 26) ?hr ?_; (case hd => rfl); (case hg => rfl); (case hr => first | (go_simp; done) | (go_simp; rfl)); intro gb111 hg w4 hbox hb; have n0_ := Aside0.mk (below_step (by repeat (first | (with_reducible first | exact HB.out | apply below_alloc | apply pw_below_drewN | apply below_drew1) | exact HB.out)) hb); have n1_ := Aside0.mk (hbox); have n2_ := Aside0.mk ((by rw [hg]; exact (below_size (by repeat (first | (with_reducible first | exact HB.out | apply below_alloc | apply pw_below_drewN | apply below_drew1) | exact HB.out))) : w.heap.size ≤ gb111)); have n3_ := Aside0.mk ((by rw [hg]; exact (below_size (by repeat (first | (with_reducible first | exact HB.out | apply below_alloc | apply pw_below_drewN | apply below_drew1) | exact HB.out))) : w.heap.size ≤ gb111)); clear HB; have HB := n0_; have BK111 := n1_; have GW111 := n2_; have GE111 := n3_; clear n0_ n1_ n2_ n3_; clear hb hbox hg))
 (try simp only [Act.put, List.setIfInBounds_toArray, List.set_cons_zero, List.set_cons_succ])
 go_cut [16] (fun v16 wc => ∃ (kq : Nat) (x16_2 : Bool), v16 = .bool x16_2 ∧ Aside0 (spec_SetOf.j0 kq a0 l1 x16_2 = some (r1, r2, r3)) ∧ Aside0 (kq ≤ k) ∧ Aside0 (wc.heap[gb111]? = some (.cells #[.int .i64 0, (.slice none 0 0)] 26 (0, 0))) ∧ Aside0 (Below w.heap.size w wc))
 case first =>
  have H := HC3.out
  clear HC3
  replace H := Option.bind_eq_some_iff.mp H
  obtain ⟨t112, A50, H⟩ := H
  replace H : (if t112 = true then (spec_SetOf.j0 k a0 l1 (decide ((l1.length : Int) > 100))) else (spec_SetOf.j0 k a0 l1 true)) = some (r1, r2, r3) := H
  have A5 := Aside0.mk A50
  clear A50
  by_cases c6 : t112 = true
  ·subst c6
   have H1 : (spec_SetOf.j0 k a0 l1 (decide ((l1.length : Int) > 100))) = some (r1, r2, r3) := by rw [if_pos rfl] at H; exact H
   clear H
   have H := H1
   clear H1
   have H' := Aside0.mk H
   clear H
   go_wp2_with (first | ((with_reducible refine gate_callee (f := 49) rfl ?_); refine goesL_ (some 10) rfl rfl Try.func49 (by kernel_rfl) rfl #[.int .i64 a0, .int .i64 1, .int .i64 6] rfl (by (try simp only [List.map_toArray, List.map_cons, List.map_nil]); first | done | rfl | (simp only [List.length_drop, List.length_take]; rfl)) ?_; (with_reducible refine (spec_l01In.calls a0 1 6 true _ A5.out).mono ?_); rintro e w' ⟨rfl, ⟨nd, rfl⟩⟩; refine ⟨_, rfl, ?_⟩))
   go_meet
   case rel => exact ⟨_, (decide ((l1.length : Int) > 100)), (by first | rfl | (simp; done) | (simp [*]; done)), H', ⟨by first | omega | exact Nat.le_refl _⟩, ⟨by (with_reducible repeat (first | refine blk_drewN ?_ _ | refine blk_drew ?_ | refine blk_alloc ?_ _)); exact BK111.out⟩, ⟨by repeat (first | (with_reducible first | exact HB.out | apply below_alloc | apply pw_below_drewN | apply below_drew1 | refine below_set ?_ GE111.out) | exact HB.out)⟩⟩
  ·replace c6 := Bool.eq_false_iff.mpr c6
   subst c6
   have H1 : (spec_SetOf.j0 k a0 l1 true) = some (r1, r2, r3) := by rw [if_neg (show ¬ (false = true) by decide)] at H; exact H
   clear H
   have H := H1
   clear H1
   have H' := Aside0.mk H
   clear H
   go_wp2_with (first | ((with_reducible refine gate_callee (f := 49) rfl ?_); refine goesL_ (some 10) rfl rfl Try.func49 (by kernel_rfl) rfl #[.int .i64 a0, .int .i64 1, .int .i64 6] rfl (by (try simp only [List.map_toArray, List.map_cons, List.map_nil]); first | done | rfl | (simp only [List.length_drop, List.length_take]; rfl)) ?_; (with_reducible refine (spec_l01In.calls a0 1 6 false _ A5.out).mono ?_); rintro e w' ⟨rfl, ⟨nd, rfl⟩⟩; refine ⟨_, rfl, ?_⟩))
   go_meet
   case rel => exact ⟨_, (true), (by first | rfl | (simp; done) | (simp [*]; done)), H', ⟨by first | omega | exact Nat.le_refl _⟩, ⟨by (with_reducible repeat (first | refine blk_drewN ?_ _ | refine blk_drew ?_ | refine blk_alloc ?_ _)); exact BK111.out⟩, ⟨by repeat (first | (with_reducible first | exact HB.out | apply below_alloc | apply pw_below_drewN | apply below_drew1 | refine below_set ?_ GE111.out) | exact HB.out)⟩⟩
 case rest =>
  clear HC3
  try clear c1
  try clear p2
  try clear c4
  try clear c6
  obtain ⟨kq, x16_2, rfl, HA, HJ2, BK111, HB⟩ := hcut
  cases kq with
  | zero => exact absurd HA.out (by simp [spec_SetOf.j0])
  | succ kj2 =>
   have H := HA.out
   clear HA
   simp only [spec_SetOf.j0] at H
   by_cases c7 : x16_2 = true
   ·subst c7
    have H1 : (some (0, ([] : List (S45)), 2)) = some (r1, r2, r3) := by rw [if_pos rfl] at H; exact H
    clear H
    have H := H1
    clear H1
    simp only [Option.some.injEq, Prod.mk.injEq] at H
    obtain ⟨rfl, rfl, rfl⟩ := H
    have hcz8_0 : wc.cell? ⟨gb111, 0, none⟩ = some (.int .i64 0) := (blk_cell BK111.out 0).trans rfl
    have hcz8_1 : wc.cell? ⟨gb111, 1, none⟩ = some (.slice none 0 0) := (blk_cell BK111.out 1).trans rfl
    have hfz8_0 := blk_frozen BK111.out 0
    have hfz8_1 := blk_frozen BK111.out 1
    go_wp2
    refine bodyPost_ret (results_ct rfl _ _ gb111 26 #[.int .i64 0, .slice none 0 0] (0, 0) _ rfl (by (with_reducible repeat (first | refine blk_drewN ?_ _ | refine blk_drew ?_ | refine blk_alloc ?_ _)); refine blk_put (cs := #[.int .i64 0, .slice none 0 0]) ?_ 1 _ rfl; (with_reducible repeat (first | refine blk_drewN ?_ _ | refine blk_drew ?_ | refine blk_alloc ?_ _)); refine blk_put (cs := #[.int .i64 0, .slice none 0 0]) ?_ 0 _ rfl; (with_reducible repeat (first | refine blk_drewN ?_ _ | refine blk_drew ?_ | refine blk_alloc ?_ _)); exact BK111.out) Try.underlying26 rfl (by kernel_rfl)) rfl ?_
    exact ⟨_, by first | rfl | (simp [errW_none, errW_some] <;> rfl) | (simp [*, errW_none, errW_some] <;> rfl), by first | exact Kd.R_nil _ _ _ _ _ | exact Kd.N_nil _ _ _ _ _ | exact Kd.V_nil _ _ _ _ _ | exact Kd.Q_nil _ _ _ _ _ | exact Kd.S_nil _ _ _ _ _, by repeat (first | (with_reducible first | exact HB.out | apply below_alloc | apply pw_below_drewN | apply below_drew1 | refine below_set ?_ GE111.out) | exact HB.out)⟩
   ·replace c7 := Bool.eq_false_iff.mpr c7
    subst c7
    have H1 : (spec_SetOf.l0 kj2 a0 l1 0) = some (r1, r2, r3) := by rw [if_neg (show ¬ (false = true) by decide)] at H; exact H
    clear H
    have H := H1
    clear H1
    have H' := Aside0.mk H
    clear H
    go_wp2
    go_loopg [6] kj2 (fun kq v6 w' => ∃ (x6_2 : Int) (x112000_2 : Int), v6 = .int .i64 x6_2 ∧ Aside0 (spec_SetOf.l0 kq a0 l1 x6_2 = some (r1, r2, r3)) ∧ Aside0 (kq ≤ kj2) ∧ Aside0 (w'.heap[gb111]? = some (.cells #[.int .i64 x112000_2, (.slice none 0 0)] 26 (0, 0))) ∧ Aside0 (Below w.heap.size w w'))
    case atStart => exact ⟨(0), (0), (by first | rfl | (simp; done) | (simp [*]; done)), H', ⟨Nat.le_refl _⟩, ⟨by (with_reducible repeat (first | refine blk_drewN ?_ _ | refine blk_drew ?_ | refine blk_alloc ?_ _)); exact BK111.out⟩, ⟨by repeat (first | (with_reducible first | exact HB.out | apply below_alloc | apply pw_below_drewN | apply below_drew1 | refine below_set ?_ GE111.out) | exact HB.out)⟩⟩
    case round =>
     clear H'
     try clear c1
     try clear p2
     try clear c4
     try clear c6
     try clear c7
     try clear hcz8_0
     try clear hcz8_1
     try clear hfz8_0
     try clear hfz8_1
     try clear p2
     obtain ⟨x6_2, x112000_2, rfl, HA, HK2, BK111, HB⟩ := hrel
     cases gk with
     | zero => exact absurd HA.out (by simp [spec_SetOf.l0])
     | succ k2 =>
      have H := HA.out
      clear HA
      simp only [spec_SetOf.l0] at H
      by_cases c9 : x6_2 < (l1.length : Int)
      ·rw [if_pos c9] at H
       have c9b0 : decide (x6_2 < (l1.length : Int)) = true := decide_eq_true c9
       clear c9
       by_cases c10 : 0 ≤ x6_2
       ·rw [if_pos c10] at H
        have c10b0 : decide (0 ≤ x6_2) = true := decide_eq_true c10
        clear c10
        replace H := Option.bind_eq_some_iff.mp H
        obtain ⟨t114, A110, H⟩ := H
        replace H : (if t114 = true then (spec_SetOf.l0 k2 a0 l1 (wrap64 (x6_2 + 1))) else (some (0, ([] : List (S45)), 2))) = some (r1, r2, r3) := H
        have A11 := Aside0.mk A110
        clear A110
        by_cases c12 : t114 = true
        ·subst c12
         have H1 : (spec_SetOf.l0 k2 a0 l1 (wrap64 (x6_2 + 1))) = some (r1, r2, r3) := by rw [if_pos rfl] at H; exact H
         clear H
         have H := H1
         clear H1
         have H' := Aside0.mk H
         clear H
         have p113 : 0 ≤ (x6_2 : Int) := of_decide_eq_true (by first | (with_reducible assumption) | assumption)
         have q113 : x6_2 < (l1.length : Int) := of_decide_eq_true (by first | (with_reducible assumption) | assumption)
         obtain ⟨ad113, e113, hx113_0, hx113_1, hx113_2, hx113_3⟩ := at_T45 HR1.out x6_2 p113 q113
         cases e113
         replace hx113_0 := (HB.out.cell (World.block_lt_of_cell? w _ hx113_0)).trans hx113_0
         replace hx113_1 := (HB.out.cell (World.block_lt_of_cell? w _ hx113_1)).trans hx113_1
         replace hx113_2 := (HB.out.cell (World.block_lt_of_cell? w _ hx113_2)).trans hx113_2
         replace hx113_3 := (HB.out.cell (World.block_lt_of_cell? w _ hx113_3)).trans hx113_3
         replace p113 := eq_true p113
         replace q113 := eq_true q113
         go_wp2_with (first | ((with_reducible refine gate_callee (f := 50) rfl ?_); refine goesL_ (some 29) rfl rfl Try.func50 (by kernel_rfl) rfl #[.int .i64 a0, .agg #[.int .i64 ((rd_T45 l1 x6_2).f0), .int .i64 ((rd_T45 l1 x6_2).f1), .int .i64 ((rd_T45 l1 x6_2).f2), .int .i64 ((rd_T45 l1 x6_2).f3)]] rfl (by (try simp only [List.map_toArray, List.map_cons, List.map_nil]); first | done | rfl | (simp only [List.length_drop, List.length_take]; rfl)) ?_; (with_reducible refine (spec_l01Tile.calls a0 ((rd_T45 l1 x6_2).f0) ((rd_T45 l1 x6_2).f1) ((rd_T45 l1 x6_2).f2) ((rd_T45 l1 x6_2).f3) true _ A11.out).mono ?_); rintro e w13 ⟨rfl, hb⟩; refine ⟨_, rfl, ?_⟩; have n0_ := Aside0.mk (blk_below (g := gb111) (o := .cells #[.int .i64 x112000_2, .slice none 0 0] 26 (0, 0)) (by (with_reducible repeat (first | refine blk_drewN ?_ _ | refine blk_drew ?_ | refine blk_alloc ?_ _)); exact BK111.out) hb); have n1_ := Aside0.mk (below_step (by repeat (first | (with_reducible first | exact HB.out | apply below_alloc | apply pw_below_drewN | apply below_drew1 | refine below_set ?_ GE111.out) | exact HB.out)) hb); clear BK111; clear HB; have BK111 := n0_; have HB := n1_; clear n0_ n1_; (try clear hb); (try clear hb2); (try clear hk); (try clear hi)))
         go_roundg k2
         case measure => have := HJ2.out; have := HK2.out; omega
         case rel => exact ⟨(wrap64 (x6_2 + 1)), (x112000_2), (by first | rfl | (simp; done) | (simp [*]; done)), H', ⟨by have := HJ2.out; have := HK2.out; omega⟩, ⟨by (with_reducible repeat (first | refine blk_drewN ?_ _ | refine blk_drew ?_ | refine blk_alloc ?_ _)); exact BK111.out⟩, ⟨by repeat (first | (with_reducible first | exact HB.out | apply below_alloc | apply pw_below_drewN | apply below_drew1 | refine below_set ?_ GE111.out) | exact HB.out)⟩⟩
        ·replace c12 := Bool.eq_false_iff.mpr c12
         subst c12
         have H1 : (some (0, ([] : List (S45)), 2)) = some (r1, r2, r3) := by rw [if_neg (show ¬ (false = true) by decide)] at H; exact H
         clear H
         have H := H1
         clear H1
         simp only [Option.some.injEq, Prod.mk.injEq] at H
         obtain ⟨rfl, rfl, rfl⟩ := H
         have p113 : 0 ≤ (x6_2 : Int) := of_decide_eq_true (by first | (with_reducible assumption) | assumption)
         have q113 : x6_2 < (l1.length : Int) := of_decide_eq_true (by first | (with_reducible assumption) | assumption)
         obtain ⟨ad113, e113, hx113_0, hx113_1, hx113_2, hx113_3⟩ := at_T45 HR1.out x6_2 p113 q113
         cases e113
         replace hx113_0 := (HB.out.cell (World.block_lt_of_cell? w _ hx113_0)).trans hx113_0
         replace hx113_1 := (HB.out.cell (World.block_lt_of_cell? w _ hx113_1)).trans hx113_1
         replace hx113_2 := (HB.out.cell (World.block_lt_of_cell? w _ hx113_2)).trans hx113_2
         replace hx113_3 := (HB.out.cell (World.block_lt_of_cell? w _ hx113_3)).trans hx113_3
         replace p113 := eq_true p113
         replace q113 := eq_true q113
         go_wp2_with (first | ((with_reducible refine gate_callee (f := 50) rfl ?_); refine goesL_ (some 29) rfl rfl Try.func50 (by kernel_rfl) rfl #[.int .i64 a0, .agg #[.int .i64 ((rd_T45 l1 x6_2).f0), .int .i64 ((rd_T45 l1 x6_2).f1), .int .i64 ((rd_T45 l1 x6_2).f2), .int .i64 ((rd_T45 l1 x6_2).f3)]] rfl (by (try simp only [List.map_toArray, List.map_cons, List.map_nil]); first | done | rfl | (simp only [List.length_drop, List.length_take]; rfl)) ?_; (with_reducible refine (spec_l01Tile.calls a0 ((rd_T45 l1 x6_2).f0) ((rd_T45 l1 x6_2).f1) ((rd_T45 l1 x6_2).f2) ((rd_T45 l1 x6_2).f3) false _ A11.out).mono ?_); rintro e w14 ⟨rfl, hb⟩; refine ⟨_, rfl, ?_⟩; have n0_ := Aside0.mk (blk_below (g := gb111) (o := .cells #[.int .i64 x112000_2, .slice none 0 0] 26 (0, 0)) (by (with_reducible repeat (first | refine blk_drewN ?_ _ | refine blk_drew ?_ | refine blk_alloc ?_ _)); exact BK111.out) hb); have n1_ := Aside0.mk (below_step (by repeat (first | (with_reducible first | exact HB.out | apply below_alloc | apply pw_below_drewN | apply below_drew1 | refine below_set ?_ GE111.out) | exact HB.out)) hb); clear BK111; clear HB; have BK111 := n0_; have HB := n1_; clear n0_ n1_; (try clear hb); (try clear hb2); (try clear hk); (try clear hi); have hcz15_0 : w14.cell? ⟨gb111, 0, none⟩ = some (.int .i64 x112000_2) := (blk_cell BK111.out 0).trans rfl; have hcz15_1 : w14.cell? ⟨gb111, 1, none⟩ = some (.slice none 0 0) := (blk_cell BK111.out 1).trans rfl; have hfz15_0 := blk_frozen BK111.out 0; have hfz15_1 := blk_frozen BK111.out 1))
         refine bodyPost_ret (results_ct rfl _ _ gb111 26 #[.int .i64 0, .slice none 0 0] (0, 0) _ rfl (by (with_reducible repeat (first | refine blk_drewN ?_ _ | refine blk_drew ?_ | refine blk_alloc ?_ _)); refine blk_put (cs := #[.int .i64 0, .slice none 0 0]) ?_ 1 _ rfl; (with_reducible repeat (first | refine blk_drewN ?_ _ | refine blk_drew ?_ | refine blk_alloc ?_ _)); refine blk_put (cs := #[.int .i64 x112000_2, .slice none 0 0]) ?_ 0 _ rfl; (with_reducible repeat (first | refine blk_drewN ?_ _ | refine blk_drew ?_ | refine blk_alloc ?_ _)); exact BK111.out) Try.underlying26 rfl (by kernel_rfl)) rfl ?_
         exact ⟨_, by first | rfl | (simp [errW_none, errW_some] <;> rfl) | (simp [*, errW_none, errW_some] <;> rfl), by first | exact Kd.R_nil _ _ _ _ _ | exact Kd.N_nil _ _ _ _ _ | exact Kd.V_nil _ _ _ _ _ | exact Kd.Q_nil _ _ _ _ _ | exact Kd.S_nil _ _ _ _ _, by repeat (first | (with_reducible first | exact HB.out | apply below_alloc | apply pw_below_drewN | apply below_drew1 | refine below_set ?_ GE111.out) | exact HB.out)⟩
       ·rw [if_neg c10] at H
        exact absurd H (by simp)
      ·rw [if_neg c9] at H
       have c9b0 : decide (x6_2 < (l1.length : Int)) = false := decide_eq_false c9
       clear c9
       replace H := Option.bind_eq_some_iff.mp H
       obtain ⟨⟨t115, t116⟩, A160, H⟩ := H
       replace H : ((spec_l01Told.f t115 t116).bind fun bt119 => (some (bt119.1, bt119.2.1, bt119.2.2))) = some (r1, r2, r3) := H
       have A16 := Aside0.mk A160
       clear A160
       replace H := Option.bind_eq_some_iff.mp H
       obtain ⟨⟨t119, t120, t123⟩, A170, H⟩ := H
       replace H : (some (t119, t120, t123)) = some (r1, r2, r3) := H
       have A17 := Aside0.mk A170
       clear A170
       simp only [Option.some.injEq, Prod.mk.injEq] at H
       obtain ⟨rfl, rfl, rfl⟩ := H
       go_wp2_with (first | ((with_reducible refine gate_callee (f := 52) rfl ?_); refine goesL_ (some 35) rfl rfl Try.func52 (by kernel_rfl) rfl #[.int .i64 a0, .slice A1 l1.length c1] rfl (by (try simp only [List.map_toArray, List.map_cons, List.map_nil]); first | done | rfl | (simp only [List.length_drop, List.length_take]; rfl)) ?_; (with_reducible refine (spec_l01Made.calls a0 _ _ l1 t115 t116 _ ?side1 ?side2 A16.out).mono ?_); (case side1 => repeat (first | exact (Kd.C_below HR1.out HB.out) | (with_reducible refine Kd.C_alloc ?_ _) | (with_reducible refine Kd.C_drewN ?_ _) | (with_reducible refine Kd.C_drew ?_))); (case side2 => exact HC1.out); rintro e w18 ⟨v117, rfl, ho0, hb⟩; refine ⟨_, rfl, ?_⟩; have n0_ := Aside0.mk (Kd.R_lower ho0 (below_size (by repeat (first | (with_reducible first | exact HB.out | apply below_alloc | apply pw_below_drewN | apply below_drew1 | refine below_set ?_ GE111.out) | exact HB.out)))); have n1_ := Aside0.mk (blk_below (g := gb111) (o := .cells #[.int .i64 x112000_2, .slice none 0 0] 26 (0, 0)) (by (with_reducible repeat (first | refine blk_drewN ?_ _ | refine blk_drew ?_ | refine blk_alloc ?_ _)); exact BK111.out) hb); have n2_ := Aside0.mk (below_step (by repeat (first | (with_reducible first | exact HB.out | apply below_alloc | apply pw_below_drewN | apply below_drew1 | refine below_set ?_ GE111.out) | exact HB.out)) hb); clear BK111; clear HB; have HO118 := n0_; have BK111 := n1_; have HB := n2_; clear n0_ n1_ n2_; (try clear hb); (try clear hb2); (try clear hk); (try clear hi); (try clear ho0); obtain ⟨Ao19, co19, eo19⟩ := Kd.R_slice HO118.out; subst eo19) | ((with_reducible refine gate_callee (f := 51) rfl ?_); refine goesL_ (some 36) rfl rfl Try.func51 (by kernel_rfl) rfl #[.agg #[.int .i64 t115, .slice Ao19 t116.length co19]] rfl (by (try simp only [List.map_toArray, List.map_cons, List.map_nil]); first | done | rfl | (simp only [List.length_drop, List.length_take]; rfl)) ?_; (with_reducible refine (spec_l01Told.calls t115 (fun k_ => some k_ = (.slice Ao19 t116.length co19 : Value).ownBlock) (.slice Ao19 t116.length co19) t116 t119 t120 t123 w _ ?side1 ?side2 A17.out).mono ?_); (case side1 => repeat (first | (with_reducible first | exact HB.out | apply below_alloc | apply pw_below_drewN | apply below_drew1 | refine below_set ?_ GE111.out) | exact HB.out)); (case side2 => exact Kd.R_tight rfl HO118.out); rintro e w20 ⟨v121, rfl, ho0, hb, hkp⟩; refine ⟨_, rfl, ?_⟩; have n0_ := Aside0.mk (blk_kept (by (with_reducible repeat (first | refine blk_drewN ?_ _ | refine blk_drew ?_ | refine blk_alloc ?_ _)); exact BK111.out) hkp (fun hs_ => (fun e_ => (Kd.R_ne HO118.out BK111.out (by decide)) e_) hs_)); have n1_ := Aside0.mk (Kd.R_mono (ok' := fun k_ => True) ho0 (fun k_ hk_ => trivial)); have n2_ := Aside0.mk (hb); clear BK111; clear HB; clear HO118; have BK111 := n0_; have HO122 := n1_; have HB := n2_; clear n0_ n1_ n2_; (try clear hb); (try clear hkp); (try clear ho0)) | ((with_reducible refine gate_dst (N := 7) rfl ?_); (try (refine gate_guard (by rfl) ?_; dsimp only)); refine box_event ?hg (N := 7) ?hd (cs := #[.int .i64 0, .slice none 0 0]) (t := 26) ?hr ?_; (case hd => rfl); (case hg => rfl); (case hr => first | (go_simp; done) | (go_simp; rfl)); intro gb124 hg w21 hbox hb; have n0_ := Aside0.mk (Kd.R_below (by (with_reducible repeat (first | apply Kd.R_alloc | apply Kd.R_drewN | apply Kd.R_drew)); exact HO122.out) hb); have n1_ := Aside0.mk (blk_below (g := gb111) (o := .cells #[.int .i64 x112000_2, .slice none 0 0] 26 (0, 0)) (by (with_reducible repeat (first | refine blk_drewN ?_ _ | refine blk_drew ?_ | refine blk_alloc ?_ _)); exact BK111.out) hb); have n2_ := Aside0.mk (below_step (by repeat (first | (with_reducible first | exact HB.out | apply below_alloc | apply pw_below_drewN | apply below_drew1 | refine below_set ?_ GE111.out) | exact HB.out)) hb); have n3_ := Aside0.mk (hbox); have n4_ := Aside0.mk ((by rw [hg]; exact (below_size (by repeat (first | (with_reducible first | exact HB.out | apply below_alloc | apply pw_below_drewN | apply below_drew1 | refine below_set ?_ GE111.out) | exact HB.out))) : w.heap.size ≤ gb124)); have n5_ := Aside0.mk ((by rw [hg]; exact (below_size (by repeat (first | (with_reducible first | exact HB.out | apply below_alloc | apply pw_below_drewN | apply below_drew1 | refine below_set ?_ GE111.out) | exact HB.out))) : w.heap.size ≤ gb124)); have n6_ := Aside0.mk ((by rw [hg]; exact Nat.ne_of_lt (blk_lt (g := gb111) (o := .cells #[.int .i64 x112000_2, .slice none 0 0] 26 (0, 0)) (by (with_reducible repeat (first | refine blk_drewN ?_ _ | refine blk_drew ?_ | refine blk_alloc ?_ _)); exact BK111.out)) : gb111 ≠ gb124)); have n7_ := Aside0.mk ((by rw [hg]; exact Nat.ne_of_gt (blk_lt (g := gb111) (o := .cells #[.int .i64 x112000_2, .slice none 0 0] 26 (0, 0)) (by (with_reducible repeat (first | refine blk_drewN ?_ _ | refine blk_drew ?_ | refine blk_alloc ?_ _)); exact BK111.out)) : gb124 ≠ gb111)); clear HO122; clear BK111; clear HB; have HO122 := n0_; have BK111 := n1_; have HB := n2_; have BK124 := n3_; have GW124 := n4_; have GE124 := n5_; have NB111_124 := n6_; have NB124_111 := n7_; clear n0_ n1_ n2_ n3_ n4_ n5_ n6_ n7_; clear hb hbox hg; have hnb22 := NB124_111.out; have hnc22 := NB111_124.out; have hcz23_0 : w21.cell? ⟨gb124, 0, none⟩ = some (.int .i64 0) := (blk_cell BK124.out 0).trans rfl; have hcz23_1 : w21.cell? ⟨gb124, 1, none⟩ = some (.slice none 0 0) := (blk_cell BK124.out 1).trans rfl; have hfz23_0 := blk_frozen BK124.out 0; have hfz23_1 := blk_frozen BK124.out 1; obtain ⟨Ao24, co24, eo24⟩ := Kd.R_slice HO122.out; subst eo24; have hcz25_0 : w21.cell? ⟨gb111, 0, none⟩ = some (.int .i64 x112000_2) := (blk_cell BK111.out 0).trans rfl; have hcz25_1 : w21.cell? ⟨gb111, 1, none⟩ = some (.slice none 0 0) := (blk_cell BK111.out 1).trans rfl; have hfz25_0 := blk_frozen BK111.out 0; have hfz25_1 := blk_frozen BK111.out 1))
       refine bodyPost_ret (results_ct rfl _ _ gb111 26 #[.int .i64 t119, .slice Ao24 t120.length co24] (0, 0) _ rfl (by (with_reducible repeat (first | refine blk_drewN ?_ _ | refine blk_drew ?_ | refine blk_alloc ?_ _)); refine blk_put (cs := #[.int .i64 t119, .slice none 0 0]) ?_ 1 _ rfl; (with_reducible repeat (first | refine blk_drewN ?_ _ | refine blk_drew ?_ | refine blk_alloc ?_ _)); refine blk_put (cs := #[.int .i64 x112000_2, .slice none 0 0]) ?_ 0 _ rfl; (with_reducible repeat (first | refine blk_drewN ?_ _ | refine blk_drew ?_ | refine blk_alloc ?_ _)); refine blk_far ?_ NB111_124.out _; (with_reducible repeat (first | refine blk_drewN ?_ _ | refine blk_drew ?_ | refine blk_alloc ?_ _)); refine blk_far ?_ NB111_124.out _; (with_reducible repeat (first | refine blk_drewN ?_ _ | refine blk_drew ?_ | refine blk_alloc ?_ _)); exact BK111.out) Try.underlying26 rfl (by kernel_rfl)) rfl ?_
       exact ⟨_, by first | rfl | (simp [errW_none, errW_some] <;> rfl) | (simp [*, errW_none, errW_some] <;> rfl), by (with_reducible repeat (first | apply Kd.R_alloc | apply Kd.R_drewN | apply Kd.R_drew)); exact Kd.R_mono (Kd.R_far (p := ⟨gb111, 1, none⟩) (Kd.R_far (p := ⟨gb111, 0, none⟩) (Kd.R_far (p := ⟨gb124, 1, none⟩) (Kd.R_far (p := ⟨gb124, 0, none⟩) (Kd.R_types (Kd.R_types HO122.out BK124.out (by decide)) BK111.out (by decide)) (fun _ hk => hk.1.2) (.int .i64 t119)) (fun _ hk => hk.1.2) (.slice Ao24 t120.length co24)) (fun _ hk => hk.2) (.int .i64 t119)) (fun _ hk => hk.2) (.slice Ao24 t120.length co24)) (fun _ hk => trivial), by repeat (first | (with_reducible first | exact HB.out | apply below_alloc | apply pw_below_drewN | apply below_drew1 | refine below_set ?_ GE111.out | refine below_set ?_ GE124.out) | exact HB.out)⟩
end Go.Proofs.Ytnjmgmdpkogocaa.Q
namespace Go.Proofs.Ytnjmgmdpkogocaa.Q
open Go.RowKit Go.Proofs.YtnjmgmdpkogocaaW.PrintWords Go.Proofs.YtnjmgmdpkogocaaW.PrintLast Go.Proofs.YtnjmgmdpkogocaaW.PrintMore
attribute [local go_sem] max2_int min2_int max_two min_two max_three min_three max_four min_four
set_option linter.unusedVariables false
set_option linter.unusedSimpArgs false
def impl_SetOf_1.f (a0_0 : Int) (a0_1 : Int) (a0_2 : Int) (a0_3 : Int) (a1_0 : Int) : Option (Bool) := (impl_isTile.f a0_0 a0_1 a0_2 a0_3 a1_0).bind fun t138 => (some (!t138))
set_option maxHeartbeats 8000000 in
set_option maxRecDepth 100000 in
theorem impl_SetOf_1.calls (a0_0 : Int) (a0_1 : Int) (a0_2 : Int) (a0_3 : Int) (g1_ : Nat) (a1_0 : Int) (r : Bool) (w : World) (hb1_ : w.heap[g1_]? = some (.cells #[.int .i64 a1_0] 2 (0, 0))) (h : impl_SetOf_1.f a0_0 a0_1 a0_2 a0_3 a1_0 = some r) :
  Calls Try.prog 55 #[.agg #[.int .i64 a0_0, .int .i64 a0_1, .int .i64 a0_2, .int .i64 a0_3], .pointer (some ⟨g1_, 0, none⟩)] w fun e w' => e = .returned (.bool r) ∧ Below w.heap.size w w' := by
 have hu45 := Try.underlying45
 have BK1 := Aside0.mk hb1_
 clear hb1_
 have HB := Aside0.mk (Below.refl w.heap.size w)
 have H : ((impl_isTile.f a0_0 a0_1 a0_2 a0_3 a1_0).bind fun t138 => (some (!t138))) = some r := h
 clear h
 replace H := Option.bind_eq_some_iff.mp H
 obtain ⟨t138, A30, H⟩ := H
 replace H : (some (!t138)) = some r := H
 have A3 := Aside0.mk A30
 clear A30
 obtain rfl := Option.some.inj H
 go_enter Try.func55, Try.ntmps55
 go_wp2_with (first | ((with_reducible refine gate_dst (N := 2) rfl ?_); refine box_event ?hg (N := 2) ?hd (cs := #[.int .i64 a0_0, .int .i64 a0_1, .int .i64 a0_2, .int .i64 a0_3]) (t := 45) ?hr ?_; (case hd => rfl); (case hg => rfl); (case hr => first | (go_simp; done) | (go_simp; rfl)); intro gb137 hg w4 hbox hb; have n0_ := Aside0.mk (blk_below (g := g1_) (o := .cells #[.int .i64 a1_0] 2 (0, 0)) (by (with_reducible repeat (first | refine blk_drewN ?_ _ | refine blk_drew ?_ | refine blk_alloc ?_ _)); exact BK1.out) hb); have n1_ := Aside0.mk (below_step (by repeat (first | (with_reducible first | exact HB.out | apply below_alloc | apply pw_below_drewN | apply below_drew1) | exact HB.out)) hb); have n2_ := Aside0.mk (hbox); have n3_ := Aside0.mk ((by rw [hg]; exact (below_size (by repeat (first | (with_reducible first | exact HB.out | apply below_alloc | apply pw_below_drewN | apply below_drew1) | exact HB.out))) : w.heap.size ≤ gb137)); have n4_ := Aside0.mk ((by rw [hg]; exact (below_size (by repeat (first | (with_reducible first | exact HB.out | apply below_alloc | apply pw_below_drewN | apply below_drew1) | exact HB.out))) : w.heap.size ≤ gb137)); have n5_ := Aside0.mk ((by rw [hg]; exact Nat.ne_of_lt (blk_lt (g := g1_) (o := .cells #[.int .i64 a1_0] 2 (0, 0)) (by (with_reducible repeat (first | refine blk_drewN ?_ _ | refine blk_drew ?_ | refine blk_alloc ?_ _)); exact BK1.out)) : g1_ ≠ gb137)); have n6_ := Aside0.mk ((by rw [hg]; exact Nat.ne_of_gt (blk_lt (g := g1_) (o := .cells #[.int .i64 a1_0] 2 (0, 0)) (by (with_reducible repeat (first | refine blk_drewN ?_ _ | refine blk_drew ?_ | refine blk_alloc ?_ _)); exact BK1.out)) : gb137 ≠ g1_)); clear BK1; clear HB; have BK1 := n0_; have HB := n1_; have BK137 := n2_; have GW137 := n3_; have GE137 := n4_; have NB1_137 := n5_; have NB137_1 := n6_; clear n0_ n1_ n2_ n3_ n4_ n5_ n6_; clear hb hbox hg; have hnb5 := NB137_1.out; have hnc5 := NB1_137.out; have hcz6_0 : w4.cell? ⟨gb137, 0, none⟩ = some (.int .i64 a0_0) := (blk_cell BK137.out 0).trans rfl; have hcz6_1 : w4.cell? ⟨gb137, 1, none⟩ = some (.int .i64 a0_1) := (blk_cell BK137.out 1).trans rfl; have hcz6_2 : w4.cell? ⟨gb137, 2, none⟩ = some (.int .i64 a0_2) := (blk_cell BK137.out 2).trans rfl; have hcz6_3 : w4.cell? ⟨gb137, 3, none⟩ = some (.int .i64 a0_3) := (blk_cell BK137.out 3).trans rfl; have hfz6_0 := blk_frozen BK137.out 0; have hfz6_1 := blk_frozen BK137.out 1; have hfz6_2 := blk_frozen BK137.out 2; have hfz6_3 := blk_frozen BK137.out 3; have hcz7_0 : w4.cell? ⟨g1_, 0, none⟩ = some (.int .i64 a1_0) := (blk_cell BK1.out 0).trans rfl; have hfz7_0 := blk_frozen BK1.out 0) | ((with_reducible refine gate_callee (f := 56) rfl ?_); refine goesL_ (some 6) rfl rfl Try.func56 (by kernel_rfl) rfl #[.agg #[.int .i64 a0_0, .int .i64 a0_1, .int .i64 a0_2, .int .i64 a0_3], .int .i64 a1_0] rfl (by (try simp only [List.map_toArray, List.map_cons, List.map_nil]); first | done | rfl | (simp only [List.length_drop, List.length_take]; rfl)) ?_; (with_reducible refine (impl_isTile.calls a0_0 a0_1 a0_2 a0_3 a1_0 t138 _ A3.out).mono ?_); rintro e w8 ⟨rfl, hb⟩; refine ⟨_, rfl, ?_⟩; have n0_ := Aside0.mk (blk_below (g := g1_) (o := .cells #[.int .i64 a1_0] 2 (0, 0)) (by (with_reducible repeat (first | refine blk_drewN ?_ _ | refine blk_drew ?_ | refine blk_alloc ?_ _)); exact BK1.out) hb); have n1_ := Aside0.mk (blk_below (g := gb137) (o := .cells #[.int .i64 a0_0, .int .i64 a0_1, .int .i64 a0_2, .int .i64 a0_3] 45 (0, 0)) (by (with_reducible repeat (first | refine blk_drewN ?_ _ | refine blk_drew ?_ | refine blk_alloc ?_ _)); exact BK137.out) hb); have n2_ := Aside0.mk (below_step (by repeat (first | (with_reducible first | exact HB.out | apply below_alloc | apply pw_below_drewN | apply below_drew1 | refine below_set ?_ GE137.out) | exact HB.out)) hb); clear BK1; clear BK137; clear HB; have BK1 := n0_; have BK137 := n1_; have HB := n2_; clear n0_ n1_ n2_; (try clear hb); (try clear hb2); (try clear hk); (try clear hi)))
 go_ret
 exact ⟨by first | rfl | (simp [errW_none, errW_some] <;> rfl) | (simp [*, errW_none, errW_some] <;> rfl), by repeat (first | (with_reducible first | exact HB.out | apply below_alloc | apply pw_below_drewN | apply below_drew1 | refine below_set ?_ GE137.out) | exact HB.out)⟩
end Go.Proofs.Ytnjmgmdpkogocaa.Q
namespace Go.Proofs.Ytnjmgmdpkogocaa.Q
open Go.RowKit Go.Proofs.YtnjmgmdpkogocaaW.PrintWords Go.Proofs.YtnjmgmdpkogocaaW.PrintLast Go.Proofs.YtnjmgmdpkogocaaW.PrintMore
attribute [local go_sem] max2_int min2_int max_two min_two max_three min_three max_four min_four
set_option linter.unusedVariables false
set_option linter.unusedSimpArgs false
def impl_Tile_90_at_impl_SetOf_1.l0 : Nat → List (S45) → Int → Int → Int → Option (Int)
 | 0, _, _, _, _ => none
 | k + 1, x0, x7, x8, x90021000 => if x8 < x7 then (if 0 ≤ x8 then (if x8 < (x0.length : Int) then ((impl_SetOf_1.f ((rd_T45 x0 x8).f0) ((rd_T45 x0 x8).f1) ((rd_T45 x0 x8).f2) ((rd_T45 x0 x8).f3) x90021000).bind fun t140 => (if t140 = true then (some x8) else (impl_Tile_90_at_impl_SetOf_1.l0 k x0 x7 (wrap64 (x8 + 1)) x90021000))) else (none)) else (none)) else (some (-1))
def impl_Tile_90_at_impl_SetOf_1.f (k : Nat) (l0 : List (S45)) (a1_0_0 : Int) : Option (Int) := impl_Tile_90_at_impl_SetOf_1.l0 k l0 (l0.length : Int) 0 a1_0_0
theorem impl_Tile_90_at_impl_SetOf_1.mono_l : ∀ k, (∀ y0 y1 y2 y3, LeO (impl_Tile_90_at_impl_SetOf_1.l0 k y0 y1 y2 y3) (impl_Tile_90_at_impl_SetOf_1.l0 (k + 1) y0 y1 y2 y3))
 | 0 => fun _ _ _ _ r h => by simp [impl_Tile_90_at_impl_SetOf_1.l0] at h
 | k + 1 => by
  have ih0 := impl_Tile_90_at_impl_SetOf_1.mono_l k
  ·intro y0 y1 y2 y3
   unfold impl_Tile_90_at_impl_SetOf_1.l0
   repeat' first
   | (with_reducible exact ih0 _ _ _ _)
   | (with_reducible exact LeO.refl _)
   | (with_reducible exact LeO.none _)
   | (with_reducible refine LeO.ite ?_ ?_)
   | (with_reducible refine LeO.bind ?_ (fun _ => ?_))
   | exact ih0 _ _ _ _
   | exact LeO.none _
   | refine LeO.ite ?_ ?_
   | refine LeO.bind ?_ (fun _ => ?_)
theorem impl_Tile_90_at_impl_SetOf_1.mono : ∀ a0 a1 k, LeO (impl_Tile_90_at_impl_SetOf_1.f k a0 a1) (impl_Tile_90_at_impl_SetOf_1.f (k + 1) a0 a1) := by
 intro a0 a1 k
 have ih0 := impl_Tile_90_at_impl_SetOf_1.mono_l k
 unfold impl_Tile_90_at_impl_SetOf_1.f
 repeat' first
   | (with_reducible exact ih0 _ _ _ _)
   | (with_reducible exact LeO.refl _)
   | (with_reducible exact LeO.none _)
   | (with_reducible refine LeO.ite ?_ ?_)
   | (with_reducible refine LeO.bind ?_ (fun _ => ?_))
   | exact ih0 _ _ _ _
   | exact LeO.none _
   | refine LeO.ite ?_ ?_
   | refine LeO.bind ?_ (fun _ => ?_)
set_option maxHeartbeats 8000000 in
set_option maxRecDepth 100000 in
theorem impl_Tile_90_at_impl_SetOf_1.calls (k : Nat) (A0 : Option Addr) (c0 : Nat) (l0 : List (S45)) (g1_0_ : Nat) (a1_0_0 : Int) (r : Int) (w : World) (hr0 : Kd.C k45 w A0 l0.length l0) (hc0 : l0.length ≤ c0) (hb1_0_ : w.heap[g1_0_]? = some (.cells #[.int .i64 a1_0_0] 2 (0, 0))) (h : impl_Tile_90_at_impl_SetOf_1.f k l0 a1_0_0 = some r) :
  Calls Try.prog 90 #[.slice A0 l0.length c0, .func (.func 55) #[] #[.pointer (some ⟨g1_0_, 0, none⟩)]] w fun e w' => e = .returned (.int .i64 r) ∧ Below w.heap.size w w' := by
 have hu45 := Try.underlying45
 have HR0 := Aside0.mk hr0
 have HC0 := Aside0.mk hc0
 clear hr0 hc0
 have BK90020 := Aside0.mk hb1_0_
 clear hb1_0_
 have HB := Aside0.mk (Below.refl w.heap.size w)
 have H : (impl_Tile_90_at_impl_SetOf_1.l0 k l0 (l0.length : Int) 0 a1_0_0) = some r := h
 clear h
 have H' := Aside0.mk H
 clear H
 go_enter Try.func90, Try.ntmps90
 go_wp2
 go_loopg [8] k (fun kq v8 w' => ∃ (x8_1 : Int), v8 = .int .i64 x8_1 ∧ Aside0 (impl_Tile_90_at_impl_SetOf_1.l0 kq l0 (l0.length : Int) x8_1 a1_0_0 = some r) ∧ Aside0 (kq ≤ k) ∧ Aside0 (w'.heap[g1_0_]? = some (.cells #[.int .i64 a1_0_0] 2 (0, 0))) ∧ Aside0 (Below w.heap.size w w'))
 case atStart => exact ⟨(0), (by first | rfl | (simp; done) | (simp [*]; done)), H', ⟨Nat.le_refl _⟩, ⟨by (with_reducible repeat (first | refine blk_drewN ?_ _ | refine blk_drew ?_ | refine blk_alloc ?_ _)); exact BK90020.out⟩, ⟨by repeat (first | (with_reducible first | exact HB.out | apply below_alloc | apply pw_below_drewN | apply below_drew1) | exact HB.out)⟩⟩
 case round =>
  clear H'
  try clear p2
  obtain ⟨x8_1, rfl, HA, HK1, BK90020, HB⟩ := hrel
  cases gk with
  | zero => exact absurd HA.out (by simp [impl_Tile_90_at_impl_SetOf_1.l0])
  | succ k1 =>
   have H := HA.out
   clear HA
   simp only [impl_Tile_90_at_impl_SetOf_1.l0] at H
   by_cases c3 : x8_1 < (l0.length : Int)
   ·rw [if_pos c3] at H
    have c3b0 : decide (x8_1 < (l0.length : Int)) = true := decide_eq_true c3
    clear c3
    by_cases c4 : 0 ≤ x8_1
    ·rw [if_pos c4] at H
     have c4b0 : decide (0 ≤ x8_1) = true := decide_eq_true c4
     clear c4
     by_cases c5 : x8_1 < (l0.length : Int)
     ·rw [if_pos c5] at H
      have c5b0 : decide (x8_1 < (l0.length : Int)) = true := decide_eq_true c5
      clear c5
      replace H := Option.bind_eq_some_iff.mp H
      obtain ⟨t140, A60, H⟩ := H
      replace H : (if t140 = true then (some x8_1) else (impl_Tile_90_at_impl_SetOf_1.l0 k1 l0 (l0.length : Int) (wrap64 (x8_1 + 1)) a1_0_0)) = some r := H
      have A6 := Aside0.mk A60
      clear A60
      by_cases c7 : t140 = true
      ·subst c7
       have H1 : (some x8_1) = some r := by rw [if_pos rfl] at H; exact H
       clear H
       have H := H1
       clear H1
       obtain rfl := Option.some.inj H
       have p139 : 0 ≤ (x8_1 : Int) := of_decide_eq_true (by first | (with_reducible assumption) | assumption)
       have q139 : x8_1 < (l0.length : Int) := of_decide_eq_true (by first | (with_reducible assumption) | assumption)
       obtain ⟨ad139, e139, hx139_0, hx139_1, hx139_2, hx139_3⟩ := at_T45 HR0.out x8_1 p139 q139
       cases e139
       replace hx139_0 := (HB.out.cell (World.block_lt_of_cell? w _ hx139_0)).trans hx139_0
       replace hx139_1 := (HB.out.cell (World.block_lt_of_cell? w _ hx139_1)).trans hx139_1
       replace hx139_2 := (HB.out.cell (World.block_lt_of_cell? w _ hx139_2)).trans hx139_2
       replace hx139_3 := (HB.out.cell (World.block_lt_of_cell? w _ hx139_3)).trans hx139_3
       replace p139 := eq_true p139
       replace q139 := eq_true q139
       go_wp2_with fail
       (with_reducible refine (impl_SetOf_1.calls ((rd_T45 l0 x8_1).f0) ((rd_T45 l0 x8_1).f1) ((rd_T45 l0 x8_1).f2) ((rd_T45 l0 x8_1).f3) g1_0_ a1_0_0 true _ ?side1_q9 A6.out).mono ?_); (case side1_q9 => exact (by (with_reducible repeat (first | refine blk_drewN ?_ _ | refine blk_drew ?_ | refine blk_alloc ?_ _)); exact BK90020.out))
       rintro e w8 ⟨rfl, hb⟩
       have n0_ := Aside0.mk (blk_below (g := g1_0_) (o := .cells #[.int .i64 a1_0_0] 2 (0, 0)) (by (with_reducible repeat (first | refine blk_drewN ?_ _ | refine blk_drew ?_ | refine blk_alloc ?_ _)); exact BK90020.out) hb)
       have n1_ := Aside0.mk (below_step (by repeat (first | (with_reducible first | exact HB.out | apply below_alloc | apply pw_below_drewN | apply below_drew1) | exact HB.out)) hb)
       clear BK90020
       clear HB
       have BK90020 := n0_
       have HB := n1_
       clear n0_ n1_
       (try clear hb)
       (try clear hb2)
       (try clear hk)
       (try clear hi)
       go_wp2_with fail
       go_ret
       exact ⟨by first | rfl | (simp [errW_none, errW_some] <;> rfl) | (simp [*, errW_none, errW_some] <;> rfl), by repeat (first | (with_reducible first | exact HB.out | apply below_alloc | apply pw_below_drewN | apply below_drew1) | exact HB.out)⟩
      ·replace c7 := Bool.eq_false_iff.mpr c7
       subst c7
       have H1 : (impl_Tile_90_at_impl_SetOf_1.l0 k1 l0 (l0.length : Int) (wrap64 (x8_1 + 1)) a1_0_0) = some r := by rw [if_neg (show ¬ (false = true) by decide)] at H; exact H
       clear H
       have H := H1
       clear H1
       have H' := Aside0.mk H
       clear H
       have p139 : 0 ≤ (x8_1 : Int) := of_decide_eq_true (by first | (with_reducible assumption) | assumption)
       have q139 : x8_1 < (l0.length : Int) := of_decide_eq_true (by first | (with_reducible assumption) | assumption)
       obtain ⟨ad139, e139, hx139_0, hx139_1, hx139_2, hx139_3⟩ := at_T45 HR0.out x8_1 p139 q139
       cases e139
       replace hx139_0 := (HB.out.cell (World.block_lt_of_cell? w _ hx139_0)).trans hx139_0
       replace hx139_1 := (HB.out.cell (World.block_lt_of_cell? w _ hx139_1)).trans hx139_1
       replace hx139_2 := (HB.out.cell (World.block_lt_of_cell? w _ hx139_2)).trans hx139_2
       replace hx139_3 := (HB.out.cell (World.block_lt_of_cell? w _ hx139_3)).trans hx139_3
       replace p139 := eq_true p139
       replace q139 := eq_true q139
       go_wp2_with fail
       (with_reducible refine (impl_SetOf_1.calls ((rd_T45 l0 x8_1).f0) ((rd_T45 l0 x8_1).f1) ((rd_T45 l0 x8_1).f2) ((rd_T45 l0 x8_1).f3) g1_0_ a1_0_0 false _ ?side1_q11 A6.out).mono ?_); (case side1_q11 => exact (by (with_reducible repeat (first | refine blk_drewN ?_ _ | refine blk_drew ?_ | refine blk_alloc ?_ _)); exact BK90020.out))
       rintro e w10 ⟨rfl, hb⟩
       have n0_ := Aside0.mk (blk_below (g := g1_0_) (o := .cells #[.int .i64 a1_0_0] 2 (0, 0)) (by (with_reducible repeat (first | refine blk_drewN ?_ _ | refine blk_drew ?_ | refine blk_alloc ?_ _)); exact BK90020.out) hb)
       have n1_ := Aside0.mk (below_step (by repeat (first | (with_reducible first | exact HB.out | apply below_alloc | apply pw_below_drewN | apply below_drew1) | exact HB.out)) hb)
       clear BK90020
       clear HB
       have BK90020 := n0_
       have HB := n1_
       clear n0_ n1_
       (try clear hb)
       (try clear hb2)
       (try clear hk)
       (try clear hi)
       go_wp2_with fail
       go_roundg k1
       case measure => have := HK1.out; omega
       case rel => exact ⟨(wrap64 (x8_1 + 1)), (by first | rfl | (simp; done) | (simp [*]; done)), H', ⟨by have := HK1.out; omega⟩, ⟨by (with_reducible repeat (first | refine blk_drewN ?_ _ | refine blk_drew ?_ | refine blk_alloc ?_ _)); exact BK90020.out⟩, ⟨by repeat (first | (with_reducible first | exact HB.out | apply below_alloc | apply pw_below_drewN | apply below_drew1) | exact HB.out)⟩⟩
     ·rw [if_neg c5] at H
      exact absurd H (by simp)
    ·rw [if_neg c4] at H
     exact absurd H (by simp)
   ·rw [if_neg c3] at H
    have c3b0 : decide (x8_1 < (l0.length : Int)) = false := decide_eq_false c3
    clear c3
    obtain rfl := Option.some.inj H
    go_wp2_with fail
    go_ret
    exact ⟨by first | rfl | (simp [errW_none, errW_some] <;> rfl) | (simp [*, errW_none, errW_some] <;> rfl), by repeat (first | (with_reducible first | exact HB.out | apply below_alloc | apply pw_below_drewN | apply below_drew1) | exact HB.out)⟩
end Go.Proofs.Ytnjmgmdpkogocaa.Q
namespace Go.Proofs.Ytnjmgmdpkogocaa.Q
open Go.RowKit Go.Proofs.YtnjmgmdpkogocaaW.PrintWords Go.Proofs.YtnjmgmdpkogocaaW.PrintLast Go.Proofs.YtnjmgmdpkogocaaW.PrintMore
attribute [local go_sem] max2_int min2_int max_two min_two max_three min_three max_four min_four
set_option linter.unusedVariables false
set_option linter.unusedSimpArgs false
def impl_Tile_54_at_impl_SetOf_1.f (k : Nat) (l0 : List (S45)) (a1_0_0 : Int) : Option (Bool) := (impl_Tile_90_at_impl_SetOf_1.f k l0 a1_0_0).bind fun t141 => (some (decide (t141 ≥ 0)))
theorem impl_Tile_54_at_impl_SetOf_1.mono : ∀ a0 a1 k, LeO (impl_Tile_54_at_impl_SetOf_1.f k a0 a1) (impl_Tile_54_at_impl_SetOf_1.f (k + 1) a0 a1) := by
 intro a0 a1 k
 unfold impl_Tile_54_at_impl_SetOf_1.f
 repeat' first
   | (with_reducible exact impl_Tile_90_at_impl_SetOf_1.mono _ _ _)
   | (with_reducible exact LeO.refl _)
   | (with_reducible exact LeO.none _)
   | (with_reducible refine LeO.ite ?_ ?_)
   | (with_reducible refine LeO.bind ?_ (fun _ => ?_))
   | exact impl_Tile_90_at_impl_SetOf_1.mono _ _ _
   | exact LeO.none _
   | refine LeO.ite ?_ ?_
   | refine LeO.bind ?_ (fun _ => ?_)
set_option maxHeartbeats 8000000 in
set_option maxRecDepth 100000 in
theorem impl_Tile_54_at_impl_SetOf_1.calls (k : Nat) (A0 : Option Addr) (c0 : Nat) (l0 : List (S45)) (g1_0_ : Nat) (a1_0_0 : Int) (r : Bool) (w : World) (hr0 : Kd.C k45 w A0 l0.length l0) (hc0 : l0.length ≤ c0) (hb1_0_ : w.heap[g1_0_]? = some (.cells #[.int .i64 a1_0_0] 2 (0, 0))) (h : impl_Tile_54_at_impl_SetOf_1.f k l0 a1_0_0 = some r) :
  Calls Try.prog 54 #[.slice A0 l0.length c0, .func (.func 55) #[] #[.pointer (some ⟨g1_0_, 0, none⟩)]] w fun e w' => e = .returned (.bool r) ∧ Below w.heap.size w w' := by
 have HR0 := Aside0.mk hr0
 have HC0 := Aside0.mk hc0
 clear hr0 hc0
 have BK90020 := Aside0.mk hb1_0_
 clear hb1_0_
 have HB := Aside0.mk (Below.refl w.heap.size w)
 have H : ((impl_Tile_90_at_impl_SetOf_1.f k l0 a1_0_0).bind fun t141 => (some (decide (t141 ≥ 0)))) = some r := h
 clear h
 replace H := Option.bind_eq_some_iff.mp H
 obtain ⟨t141, A30, H⟩ := H
 replace H : (some (decide (t141 ≥ 0))) = some r := H
 have A3 := Aside0.mk A30
 clear A30
 obtain rfl := Option.some.inj H
 go_enter Try.func54, Try.ntmps54
 go_wp2_with (first | ((with_reducible refine gate_callee (f := 90) rfl ?_); refine goesL_ (some 7) rfl rfl Try.func90 (by kernel_rfl) rfl #[.slice A0 l0.length c0, .func (.func 55) #[] #[.pointer (some ⟨g1_0_, 0, none⟩)]] rfl (by (try simp only [List.map_toArray, List.map_cons, List.map_nil]); first | done | rfl | (simp only [List.length_drop, List.length_take]; rfl)) ?_; (with_reducible refine (impl_Tile_90_at_impl_SetOf_1.calls k _ _ l0 g1_0_ a1_0_0 t141 _ ?side1 ?side2 ?side3 A3.out).mono ?_); (case side1 => repeat (first | exact HR0.out | (with_reducible refine Kd.C_alloc ?_ _) | (with_reducible refine Kd.C_drewN ?_ _) | (with_reducible refine Kd.C_drew ?_))); (case side2 => exact HC0.out); (case side3 => exact (by (with_reducible repeat (first | refine blk_drewN ?_ _ | refine blk_drew ?_ | refine blk_alloc ?_ _)); exact BK90020.out)); rintro e w4 ⟨rfl, hb⟩; refine ⟨_, rfl, ?_⟩; have n0_ := Aside0.mk (blk_below (g := g1_0_) (o := .cells #[.int .i64 a1_0_0] 2 (0, 0)) (by (with_reducible repeat (first | refine blk_drewN ?_ _ | refine blk_drew ?_ | refine blk_alloc ?_ _)); exact BK90020.out) hb); have n1_ := Aside0.mk (below_step (by repeat (first | (with_reducible first | exact HB.out | apply below_alloc | apply pw_below_drewN | apply below_drew1) | exact HB.out)) hb); clear BK90020; clear HB; have BK90020 := n0_; have HB := n1_; clear n0_ n1_; (try clear hb); (try clear hb2); (try clear hk); (try clear hi)))
 go_ret
 exact ⟨by first | rfl | (simp [errW_none, errW_some] <;> rfl) | (simp [*, errW_none, errW_some] <;> rfl), by repeat (first | (with_reducible first | exact HB.out | apply below_alloc | apply pw_below_drewN | apply below_drew1) | exact HB.out)⟩
end Go.Proofs.Ytnjmgmdpkogocaa.Q
namespace Go.Proofs.Ytnjmgmdpkogocaa.Q
open Go.RowKit Go.Proofs.YtnjmgmdpkogocaaW.PrintWords Go.Proofs.YtnjmgmdpkogocaaW.PrintLast Go.Proofs.YtnjmgmdpkogocaaW.PrintMore
attribute [local go_sem] max2_int min2_int max_two min_two max_three min_three max_four min_four
set_option linter.unusedVariables false
set_option linter.unusedSimpArgs false
def impl_within.f (a0 : Int) (a1 : Int) (a2 : Int) : Option (Bool) := if a0 ≥ a1 then (some (decide (a0 ≤ a2))) else (some false)
set_option maxHeartbeats 8000000 in
set_option maxRecDepth 100000 in
theorem impl_within.calls (a0 : Int) (a1 : Int) (a2 : Int) (r : Bool) (w : World) (h : impl_within.f a0 a1 a2 = some r) :
  Calls Try.prog 53 #[.int .i64 a0, .int .i64 a1, .int .i64 a2] w fun e w' => e = .returned (.bool r) ∧ Drawn0 w w' := by
 have H : (if a0 ≥ a1 then (some (decide (a0 ≤ a2))) else (some false)) = some r := h
 clear h
 by_cases c4 : a0 ≥ a1
 ·rw [if_pos c4] at H
  have c4b0 : decide (a1 ≤ a0) = true := decide_eq_true c4
  clear c4
  obtain rfl := Option.some.inj H
  go_enter Try.func53, Try.ntmps53
  go_wp2
  go_ret
  exact ⟨by first | rfl | (simp; done) | (simp [*]; done), by repeat (first | exact Drawn0.refl _ | apply Drawn0.step)⟩
 ·rw [if_neg c4] at H
  have c4b0 : decide (a1 ≤ a0) = false := decide_eq_false c4
  clear c4
  obtain rfl := Option.some.inj H
  go_enter Try.func53, Try.ntmps53
  go_wp2
  go_ret
  exact ⟨by first | rfl | (simp; done) | (simp [*]; done), by repeat (first | exact Drawn0.refl _ | apply Drawn0.step)⟩
end Go.Proofs.Ytnjmgmdpkogocaa.Q
namespace Go.Proofs.Ytnjmgmdpkogocaa.Q
open Go.RowKit Go.Proofs.YtnjmgmdpkogocaaW.PrintWords Go.Proofs.YtnjmgmdpkogocaaW.PrintLast Go.Proofs.YtnjmgmdpkogocaaW.PrintMore
attribute [local go_sem] max2_int min2_int max_two min_two max_three min_three max_four min_four
set_option linter.unusedVariables false
set_option linter.unusedSimpArgs false
def impl_SetOf.f (k : Nat) (a0 : Int) (l1 : List (S45)) : Option (Int × (List (S45)) × Int) := (impl_within.f a0 1 6).bind fun t144 => (if t144 = true then (if (l1.length : Int) > 100 then (some (0, ([] : List (S45)), 2)) else ((impl_Tile_54_at_impl_SetOf_1.f k l1 a0).bind fun t145 => (if t145 = true then (some (0, ([] : List (S45)), 2)) else ((impl_limited.f a0 l1).bind fun bt146 => (some (bt146.1, bt146.2.1, bt146.2.2)))))) else (some (0, ([] : List (S45)), 2)))
theorem impl_SetOf.mono : ∀ a0 a1 k, LeO (impl_SetOf.f k a0 a1) (impl_SetOf.f (k + 1) a0 a1) := by
 intro a0 a1 k
 unfold impl_SetOf.f
 repeat' first
   | (with_reducible exact impl_Tile_54_at_impl_SetOf_1.mono _ _ _)
   | (with_reducible exact LeO.refl _)
   | (with_reducible exact LeO.none _)
   | (with_reducible refine LeO.ite ?_ ?_)
   | (with_reducible refine LeO.bind ?_ (fun _ => ?_))
   | exact impl_Tile_54_at_impl_SetOf_1.mono _ _ _
   | exact LeO.none _
   | refine LeO.ite ?_ ?_
   | refine LeO.bind ?_ (fun _ => ?_)
set_option maxHeartbeats 8000000 in
set_option maxRecDepth 100000 in
theorem impl_SetOf.calls (k : Nat) (a0 : Int) (A1 : Option Addr) (c1 : Nat) (l1 : List (S45)) (r1 : Int) (r2 : List (S45)) (r3 : Int) (w : World) (hr1 : Kd.C k45 w A1 l1.length l1) (hc1 : l1.length ≤ c1) (h : impl_SetOf.f k a0 l1 = some (r1, r2, r3)) :
  Calls Try.prog 16 #[.int .i64 a0, .slice A1 l1.length c1] w fun e w' => ∃ v1_ : Value, e = .returned (.tuple #[.agg #[.int .i64 r1, v1_], .int .i64 r3]) ∧ Kd.R k45 45 w' w.heap.size (fun _ => True) v1_ r2 ∧ Below w.heap.size w w' := by
 have hu26 := Try.underlying26
 have HR1 := Aside0.mk hr1
 have HC1 := Aside0.mk hc1
 clear hr1 hc1
 have HB := Aside0.mk (Below.refl w.heap.size w)
 have H : ((impl_within.f a0 1 6).bind fun t144 => (if t144 = true then (if (l1.length : Int) > 100 then (some (0, ([] : List (S45)), 2)) else ((impl_Tile_54_at_impl_SetOf_1.f k l1 a0).bind fun t145 => (if t145 = true then (some (0, ([] : List (S45)), 2)) else ((impl_limited.f a0 l1).bind fun bt146 => (some (bt146.1, bt146.2.1, bt146.2.2)))))) else (some (0, ([] : List (S45)), 2)))) = some (r1, r2, r3) := h
 clear h
 replace H := Option.bind_eq_some_iff.mp H
 obtain ⟨t144, A30, H⟩ := H
 replace H : (if t144 = true then (if (l1.length : Int) > 100 then (some (0, ([] : List (S45)), 2)) else ((impl_Tile_54_at_impl_SetOf_1.f k l1 a0).bind fun t145 => (if t145 = true then (some (0, ([] : List (S45)), 2)) else ((impl_limited.f a0 l1).bind fun bt146 => (some (bt146.1, bt146.2.1, bt146.2.2)))))) else (some (0, ([] : List (S45)), 2))) = some (r1, r2, r3) := H
 have A3 := Aside0.mk A30
 clear A30
 by_cases c4 : t144 = true
 ·subst c4
  have H1 : (if (l1.length : Int) > 100 then (some (0, ([] : List (S45)), 2)) else ((impl_Tile_54_at_impl_SetOf_1.f k l1 a0).bind fun t145 => (if t145 = true then (some (0, ([] : List (S45)), 2)) else ((impl_limited.f a0 l1).bind fun bt146 => (some (bt146.1, bt146.2.1, bt146.2.2)))))) = some (r1, r2, r3) := by rw [if_pos rfl] at H; exact H
  clear H
  have H := H1
  clear H1
  by_cases c5 : (l1.length : Int) > 100
  ·rw [if_pos c5] at H
   have c5b0 : decide (100 < (l1.length : Int)) = true := decide_eq_true c5
   have c5b1 : decide (100 < l1.length) = true := decide_eq_true (by omega)
   clear c5
   simp only [Option.some.injEq, Prod.mk.injEq] at H
   obtain ⟨rfl, rfl, rfl⟩ := H
   go_enter Try.func16, Try.ntmps16
   go_wp2_with (first | ((with_reducible refine gate_dst (N := 2) rfl ?_); (try (refine gate_guard (by rfl) ?_; dsimp only)); refine box_event ?hg (N := 2) ?hd (cs := #[.int .i64 a0]) (t := 2) ?hr ?_; (case hd => rfl); (case hg => rfl); (case hr => first | (go_simp; done) | (go_simp; rfl)); intro gb142 hg w6 hbox hb; have n0_ := Aside0.mk (below_step (by repeat (first | (with_reducible first | exact HB.out | apply below_alloc | apply pw_below_drewN | apply below_drew1) | exact HB.out)) hb); have n1_ := Aside0.mk (hbox); have n2_ := Aside0.mk ((by rw [hg]; exact (below_size (by repeat (first | (with_reducible first | exact HB.out | apply below_alloc | apply pw_below_drewN | apply below_drew1) | exact HB.out))) : w.heap.size ≤ gb142)); have n3_ := Aside0.mk ((by rw [hg]; exact (below_size (by repeat (first | (with_reducible first | exact HB.out | apply below_alloc | apply pw_below_drewN | apply below_drew1) | exact HB.out))) : w.heap.size ≤ gb142)); clear HB; have HB := n0_; have BK142 := n1_; have GW142 := n2_; have GE142 := n3_; clear n0_ n1_ n2_ n3_; clear hb hbox hg) | ((with_reducible refine gate_dst (N := 4) rfl ?_); (try (refine gate_guard (by rfl) ?_; dsimp only)); refine box_event ?hg (N := 4) ?hd (cs := #[.int .i64 0, .slice none 0 0]) (t := 26) ?hr ?_; (case hd => rfl); (case hg => rfl); (case hr => first | (go_simp; done) | (go_simp; rfl)); intro gb143 hg w7 hbox hb; have n0_ := Aside0.mk (blk_below (g := gb142) (o := .cells #[.int .i64 a0] 2 (0, 0)) (by (with_reducible repeat (first | refine blk_drewN ?_ _ | refine blk_drew ?_ | refine blk_alloc ?_ _)); exact BK142.out) hb); have n1_ := Aside0.mk (below_step (by repeat (first | (with_reducible first | exact HB.out | apply below_alloc | apply pw_below_drewN | apply below_drew1 | refine below_set ?_ GE142.out) | exact HB.out)) hb); have n2_ := Aside0.mk (hbox); have n3_ := Aside0.mk ((by rw [hg]; exact (below_size (by repeat (first | (with_reducible first | exact HB.out | apply below_alloc | apply pw_below_drewN | apply below_drew1 | refine below_set ?_ GE142.out) | exact HB.out))) : w.heap.size ≤ gb143)); have n4_ := Aside0.mk ((by rw [hg]; exact (below_size (by repeat (first | (with_reducible first | exact HB.out | apply below_alloc | apply pw_below_drewN | apply below_drew1 | refine below_set ?_ GE142.out) | exact HB.out))) : w.heap.size ≤ gb143)); have n5_ := Aside0.mk ((by rw [hg]; exact Nat.ne_of_lt (blk_lt (g := gb142) (o := .cells #[.int .i64 a0] 2 (0, 0)) (by (with_reducible repeat (first | refine blk_drewN ?_ _ | refine blk_drew ?_ | refine blk_alloc ?_ _)); exact BK142.out)) : gb142 ≠ gb143)); have n6_ := Aside0.mk ((by rw [hg]; exact Nat.ne_of_gt (blk_lt (g := gb142) (o := .cells #[.int .i64 a0] 2 (0, 0)) (by (with_reducible repeat (first | refine blk_drewN ?_ _ | refine blk_drew ?_ | refine blk_alloc ?_ _)); exact BK142.out)) : gb143 ≠ gb142)); clear BK142; clear HB; have BK142 := n0_; have HB := n1_; have BK143 := n2_; have GW143 := n3_; have GE143 := n4_; have NB142_143 := n5_; have NB143_142 := n6_; clear n0_ n1_ n2_ n3_ n4_ n5_ n6_; clear hb hbox hg; have hnb8 := NB142_143.out; have hnc8 := NB143_142.out; have hcz9_0 : w7.cell? ⟨gb142, 0, none⟩ = some (.int .i64 a0) := (blk_cell BK142.out 0).trans rfl; have hfz9_0 := blk_frozen BK142.out 0) | ((with_reducible refine gate_callee (f := 53) rfl ?_); refine goesL_ (some 7) rfl rfl Try.func53 (by kernel_rfl) rfl #[.int .i64 a0, .int .i64 1, .int .i64 6] rfl (by (try simp only [List.map_toArray, List.map_cons, List.map_nil]); first | done | rfl | (simp only [List.length_drop, List.length_take]; rfl)) ?_; (with_reducible refine (impl_within.calls a0 1 6 true _ A3.out).mono ?_); rintro e w' ⟨rfl, ⟨nd, rfl⟩⟩; refine ⟨_, rfl, ?_⟩; (try (rw [drewN_self w7]; generalize hq_ : World.drewN w7 _ = w7; have n0_ : Aside0 (w7.heap[gb142]? = some (.cells #[.int .i64 a0] 2 (0, 0))) := ⟨by rw [← hq_]; exact (by (with_reducible repeat (first | refine blk_drewN ?_ _ | refine blk_drew ?_ | refine blk_alloc ?_ _)); exact BK142.out)⟩; have n1_ : Aside0 (w7.heap[gb143]? = some (.cells #[.int .i64 0, .slice none 0 0] 26 (0, 0))) := ⟨by rw [← hq_]; exact (by (with_reducible repeat (first | refine blk_drewN ?_ _ | refine blk_drew ?_ | refine blk_alloc ?_ _)); exact BK143.out)⟩; have n2_ : Aside0 (Below w.heap.size w w7) := ⟨by rw [← hq_]; exact (by repeat (first | (with_reducible first | exact HB.out | apply below_alloc | apply pw_below_drewN | apply below_drew1 | refine below_set ?_ GE142.out | refine below_set ?_ GE143.out) | exact HB.out))⟩; clear BK142 BK143 HB hq_; have BK142 := n0_; have BK143 := n1_; have HB := n2_; clear n0_ n1_ n2_)); have hcz10_0 : w7.cell? ⟨gb143, 0, none⟩ = some (.int .i64 0) := (blk_cell BK143.out 0).trans rfl; have hcz10_1 : w7.cell? ⟨gb143, 1, none⟩ = some (.slice none 0 0) := (blk_cell BK143.out 1).trans rfl; have hfz10_0 := blk_frozen BK143.out 0; have hfz10_1 := blk_frozen BK143.out 1))
   refine bodyPost_ret (results_ct rfl _ _ gb143 26 #[.int .i64 0, .slice none 0 0] (0, 0) _ rfl (by (with_reducible repeat (first | refine blk_drewN ?_ _ | refine blk_drew ?_ | refine blk_alloc ?_ _)); refine blk_put (cs := #[.int .i64 0, .slice none 0 0]) ?_ 1 _ rfl; (with_reducible repeat (first | refine blk_drewN ?_ _ | refine blk_drew ?_ | refine blk_alloc ?_ _)); refine blk_put (cs := #[.int .i64 0, .slice none 0 0]) ?_ 0 _ rfl; (with_reducible repeat (first | refine blk_drewN ?_ _ | refine blk_drew ?_ | refine blk_alloc ?_ _)); exact BK143.out) Try.underlying26 rfl (by kernel_rfl)) rfl ?_
   exact ⟨_, by first | rfl | (simp [errW_none, errW_some] <;> rfl) | (simp [*, errW_none, errW_some] <;> rfl), by first | exact Kd.R_nil _ _ _ _ _ | exact Kd.N_nil _ _ _ _ _ | exact Kd.V_nil _ _ _ _ _ | exact Kd.Q_nil _ _ _ _ _ | exact Kd.S_nil _ _ _ _ _, by repeat (first | (with_reducible first | exact HB.out | apply below_alloc | apply pw_below_drewN | apply below_drew1 | refine below_set ?_ GE142.out | refine below_set ?_ GE143.out) | exact HB.out)⟩
  ·rw [if_neg c5] at H
   have c5b0 : decide (100 < (l1.length : Int)) = false := decide_eq_false c5
   have c5b1 : decide (100 < l1.length) = false := decide_eq_false (by omega)
   clear c5
   replace H := Option.bind_eq_some_iff.mp H
   obtain ⟨t145, A110, H⟩ := H
   replace H : (if t145 = true then (some (0, ([] : List (S45)), 2)) else ((impl_limited.f a0 l1).bind fun bt146 => (some (bt146.1, bt146.2.1, bt146.2.2)))) = some (r1, r2, r3) := H
   have A11 := Aside0.mk A110
   clear A110
   by_cases c12 : t145 = true
   ·subst c12
    have H1 : (some (0, ([] : List (S45)), 2)) = some (r1, r2, r3) := by rw [if_pos rfl] at H; exact H
    clear H
    have H := H1
    clear H1
    simp only [Option.some.injEq, Prod.mk.injEq] at H
    obtain ⟨rfl, rfl, rfl⟩ := H
    go_enter Try.func16, Try.ntmps16
    go_wp2_with (first | ((with_reducible refine gate_dst (N := 2) rfl ?_); (try (refine gate_guard (by rfl) ?_; dsimp only)); refine box_event ?hg (N := 2) ?hd (cs := #[.int .i64 a0]) (t := 2) ?hr ?_; (case hd => rfl); (case hg => rfl); (case hr => first | (go_simp; done) | (go_simp; rfl)); intro gb142 hg w13 hbox hb; have n0_ := Aside0.mk (below_step (by repeat (first | (with_reducible first | exact HB.out | apply below_alloc | apply pw_below_drewN | apply below_drew1) | exact HB.out)) hb); have n1_ := Aside0.mk (hbox); have n2_ := Aside0.mk ((by rw [hg]; exact (below_size (by repeat (first | (with_reducible first | exact HB.out | apply below_alloc | apply pw_below_drewN | apply below_drew1) | exact HB.out))) : w.heap.size ≤ gb142)); have n3_ := Aside0.mk ((by rw [hg]; exact (below_size (by repeat (first | (with_reducible first | exact HB.out | apply below_alloc | apply pw_below_drewN | apply below_drew1) | exact HB.out))) : w.heap.size ≤ gb142)); clear HB; have HB := n0_; have BK142 := n1_; have GW142 := n2_; have GE142 := n3_; clear n0_ n1_ n2_ n3_; clear hb hbox hg) | ((with_reducible refine gate_dst (N := 4) rfl ?_); (try (refine gate_guard (by rfl) ?_; dsimp only)); refine box_event ?hg (N := 4) ?hd (cs := #[.int .i64 0, .slice none 0 0]) (t := 26) ?hr ?_; (case hd => rfl); (case hg => rfl); (case hr => first | (go_simp; done) | (go_simp; rfl)); intro gb143 hg w14 hbox hb; have n0_ := Aside0.mk (blk_below (g := gb142) (o := .cells #[.int .i64 a0] 2 (0, 0)) (by (with_reducible repeat (first | refine blk_drewN ?_ _ | refine blk_drew ?_ | refine blk_alloc ?_ _)); exact BK142.out) hb); have n1_ := Aside0.mk (below_step (by repeat (first | (with_reducible first | exact HB.out | apply below_alloc | apply pw_below_drewN | apply below_drew1 | refine below_set ?_ GE142.out) | exact HB.out)) hb); have n2_ := Aside0.mk (hbox); have n3_ := Aside0.mk ((by rw [hg]; exact (below_size (by repeat (first | (with_reducible first | exact HB.out | apply below_alloc | apply pw_below_drewN | apply below_drew1 | refine below_set ?_ GE142.out) | exact HB.out))) : w.heap.size ≤ gb143)); have n4_ := Aside0.mk ((by rw [hg]; exact (below_size (by repeat (first | (with_reducible first | exact HB.out | apply below_alloc | apply pw_below_drewN | apply below_drew1 | refine below_set ?_ GE142.out) | exact HB.out))) : w.heap.size ≤ gb143)); have n5_ := Aside0.mk ((by rw [hg]; exact Nat.ne_of_lt (blk_lt (g := gb142) (o := .cells #[.int .i64 a0] 2 (0, 0)) (by (with_reducible repeat (first | refine blk_drewN ?_ _ | refine blk_drew ?_ | refine blk_alloc ?_ _)); exact BK142.out)) : gb142 ≠ gb143)); have n6_ := Aside0.mk ((by rw [hg]; exact Nat.ne_of_gt (blk_lt (g := gb142) (o := .cells #[.int .i64 a0] 2 (0, 0)) (by (with_reducible repeat (first | refine blk_drewN ?_ _ | refine blk_drew ?_ | refine blk_alloc ?_ _)); exact BK142.out)) : gb143 ≠ gb142)); clear BK142; clear HB; have BK142 := n0_; have HB := n1_; have BK143 := n2_; have GW143 := n3_; have GE143 := n4_; have NB142_143 := n5_; have NB143_142 := n6_; clear n0_ n1_ n2_ n3_ n4_ n5_ n6_; clear hb hbox hg; have hnb15 := NB142_143.out; have hnc15 := NB143_142.out; have hcz16_0 : w14.cell? ⟨gb142, 0, none⟩ = some (.int .i64 a0) := (blk_cell BK142.out 0).trans rfl; have hfz16_0 := blk_frozen BK142.out 0) | ((with_reducible refine gate_callee (f := 53) rfl ?_); refine goesL_ (some 7) rfl rfl Try.func53 (by kernel_rfl) rfl #[.int .i64 a0, .int .i64 1, .int .i64 6] rfl (by (try simp only [List.map_toArray, List.map_cons, List.map_nil]); first | done | rfl | (simp only [List.length_drop, List.length_take]; rfl)) ?_; (with_reducible refine (impl_within.calls a0 1 6 true _ A3.out).mono ?_); rintro e w' ⟨rfl, ⟨nd, rfl⟩⟩; refine ⟨_, rfl, ?_⟩; (try (rw [drewN_self w14]; generalize hq_ : World.drewN w14 _ = w14; have n0_ : Aside0 (w14.heap[gb142]? = some (.cells #[.int .i64 a0] 2 (0, 0))) := ⟨by rw [← hq_]; exact (by (with_reducible repeat (first | refine blk_drewN ?_ _ | refine blk_drew ?_ | refine blk_alloc ?_ _)); exact BK142.out)⟩; have n1_ : Aside0 (w14.heap[gb143]? = some (.cells #[.int .i64 0, .slice none 0 0] 26 (0, 0))) := ⟨by rw [← hq_]; exact (by (with_reducible repeat (first | refine blk_drewN ?_ _ | refine blk_drew ?_ | refine blk_alloc ?_ _)); exact BK143.out)⟩; have n2_ : Aside0 (Below w.heap.size w w14) := ⟨by rw [← hq_]; exact (by repeat (first | (with_reducible first | exact HB.out | apply below_alloc | apply pw_below_drewN | apply below_drew1 | refine below_set ?_ GE142.out | refine below_set ?_ GE143.out) | exact HB.out))⟩; clear BK142 BK143 HB hq_; have BK142 := n0_; have BK143 := n1_; have HB := n2_; clear n0_ n1_ n2_))) | (go_at_call 54; (with_reducible refine (impl_Tile_54_at_impl_SetOf_1.calls k _ _ l1 gb142 a0 true _ ?side1 ?side2 ?side3 A11.out).mono ?_); (case side1 => repeat (first | exact (Kd.C_below HR1.out HB.out) | (with_reducible refine Kd.C_alloc ?_ _) | (with_reducible refine Kd.C_drewN ?_ _) | (with_reducible refine Kd.C_drew ?_))); (case side2 => exact HC1.out); (case side3 => exact (by (with_reducible repeat (first | refine blk_drewN ?_ _ | refine blk_drew ?_ | refine blk_alloc ?_ _)); exact BK142.out)); rintro e w17 ⟨rfl, hb⟩; have n0_ := Aside0.mk (blk_below (g := gb142) (o := .cells #[.int .i64 a0] 2 (0, 0)) (by (with_reducible repeat (first | refine blk_drewN ?_ _ | refine blk_drew ?_ | refine blk_alloc ?_ _)); exact BK142.out) hb); have n1_ := Aside0.mk (blk_below (g := gb143) (o := .cells #[.int .i64 0, .slice none 0 0] 26 (0, 0)) (by (with_reducible repeat (first | refine blk_drewN ?_ _ | refine blk_drew ?_ | refine blk_alloc ?_ _)); exact BK143.out) hb); have n2_ := Aside0.mk (below_step (by repeat (first | (with_reducible first | exact HB.out | apply below_alloc | apply pw_below_drewN | apply below_drew1 | refine below_set ?_ GE142.out | refine below_set ?_ GE143.out) | exact HB.out)) hb); clear BK142; clear BK143; clear HB; have BK142 := n0_; have BK143 := n1_; have HB := n2_; clear n0_ n1_ n2_; (try clear hb); (try clear hb2); (try clear hk); (try clear hi); have hcz18_0 : w17.cell? ⟨gb143, 0, none⟩ = some (.int .i64 0) := (blk_cell BK143.out 0).trans rfl; have hcz18_1 : w17.cell? ⟨gb143, 1, none⟩ = some (.slice none 0 0) := (blk_cell BK143.out 1).trans rfl; have hfz18_0 := blk_frozen BK143.out 0; have hfz18_1 := blk_frozen BK143.out 1))
    refine bodyPost_ret (results_ct rfl _ _ gb143 26 #[.int .i64 0, .slice none 0 0] (0, 0) _ rfl (by (with_reducible repeat (first | refine blk_drewN ?_ _ | refine blk_drew ?_ | refine blk_alloc ?_ _)); refine blk_put (cs := #[.int .i64 0, .slice none 0 0]) ?_ 1 _ rfl; (with_reducible repeat (first | refine blk_drewN ?_ _ | refine blk_drew ?_ | refine blk_alloc ?_ _)); refine blk_put (cs := #[.int .i64 0, .slice none 0 0]) ?_ 0 _ rfl; (with_reducible repeat (first | refine blk_drewN ?_ _ | refine blk_drew ?_ | refine blk_alloc ?_ _)); exact BK143.out) Try.underlying26 rfl (by kernel_rfl)) rfl ?_
    exact ⟨_, by first | rfl | (simp [errW_none, errW_some] <;> rfl) | (simp [*, errW_none, errW_some] <;> rfl), by first | exact Kd.R_nil _ _ _ _ _ | exact Kd.N_nil _ _ _ _ _ | exact Kd.V_nil _ _ _ _ _ | exact Kd.Q_nil _ _ _ _ _ | exact Kd.S_nil _ _ _ _ _, by repeat (first | (with_reducible first | exact HB.out | apply below_alloc | apply pw_below_drewN | apply below_drew1 | refine below_set ?_ GE142.out | refine below_set ?_ GE143.out) | exact HB.out)⟩
   ·replace c12 := Bool.eq_false_iff.mpr c12
    subst c12
    have H1 : ((impl_limited.f a0 l1).bind fun bt146 => (some (bt146.1, bt146.2.1, bt146.2.2))) = some (r1, r2, r3) := by rw [if_neg (show ¬ (false = true) by decide)] at H; exact H
    clear H
    have H := H1
    clear H1
    replace H := Option.bind_eq_some_iff.mp H
    obtain ⟨⟨t146, t147, t150⟩, A190, H⟩ := H
    replace H : (some (t146, t147, t150)) = some (r1, r2, r3) := H
    have A19 := Aside0.mk A190
    clear A190
    simp only [Option.some.injEq, Prod.mk.injEq] at H
    obtain ⟨rfl, rfl, rfl⟩ := H
    go_enter Try.func16, Try.ntmps16
    go_wp2_with (first | ((with_reducible refine gate_dst (N := 2) rfl ?_); (try (refine gate_guard (by rfl) ?_; dsimp only)); refine box_event ?hg (N := 2) ?hd (cs := #[.int .i64 a0]) (t := 2) ?hr ?_; (case hd => rfl); (case hg => rfl); (case hr => first | (go_simp; done) | (go_simp; rfl)); intro gb142 hg w20 hbox hb; have n0_ := Aside0.mk (below_step (by repeat (first | (with_reducible first | exact HB.out | apply below_alloc | apply pw_below_drewN | apply below_drew1) | exact HB.out)) hb); have n1_ := Aside0.mk (hbox); have n2_ := Aside0.mk ((by rw [hg]; exact (below_size (by repeat (first | (with_reducible first | exact HB.out | apply below_alloc | apply pw_below_drewN | apply below_drew1) | exact HB.out))) : w.heap.size ≤ gb142)); have n3_ := Aside0.mk ((by rw [hg]; exact (below_size (by repeat (first | (with_reducible first | exact HB.out | apply below_alloc | apply pw_below_drewN | apply below_drew1) | exact HB.out))) : w.heap.size ≤ gb142)); clear HB; have HB := n0_; have BK142 := n1_; have GW142 := n2_; have GE142 := n3_; clear n0_ n1_ n2_ n3_; clear hb hbox hg) | ((with_reducible refine gate_dst (N := 4) rfl ?_); (try (refine gate_guard (by rfl) ?_; dsimp only)); refine box_event ?hg (N := 4) ?hd (cs := #[.int .i64 0, .slice none 0 0]) (t := 26) ?hr ?_; (case hd => rfl); (case hg => rfl); (case hr => first | (go_simp; done) | (go_simp; rfl)); intro gb143 hg w21 hbox hb; have n0_ := Aside0.mk (blk_below (g := gb142) (o := .cells #[.int .i64 a0] 2 (0, 0)) (by (with_reducible repeat (first | refine blk_drewN ?_ _ | refine blk_drew ?_ | refine blk_alloc ?_ _)); exact BK142.out) hb); have n1_ := Aside0.mk (below_step (by repeat (first | (with_reducible first | exact HB.out | apply below_alloc | apply pw_below_drewN | apply below_drew1 | refine below_set ?_ GE142.out) | exact HB.out)) hb); have n2_ := Aside0.mk (hbox); have n3_ := Aside0.mk ((by rw [hg]; exact (below_size (by repeat (first | (with_reducible first | exact HB.out | apply below_alloc | apply pw_below_drewN | apply below_drew1 | refine below_set ?_ GE142.out) | exact HB.out))) : w.heap.size ≤ gb143)); have n4_ := Aside0.mk ((by rw [hg]; exact (below_size (by repeat (first | (with_reducible first | exact HB.out | apply below_alloc | apply pw_below_drewN | apply below_drew1 | refine below_set ?_ GE142.out) | exact HB.out))) : w.heap.size ≤ gb143)); have n5_ := Aside0.mk ((by rw [hg]; exact Nat.ne_of_lt (blk_lt (g := gb142) (o := .cells #[.int .i64 a0] 2 (0, 0)) (by (with_reducible repeat (first | refine blk_drewN ?_ _ | refine blk_drew ?_ | refine blk_alloc ?_ _)); exact BK142.out)) : gb142 ≠ gb143)); have n6_ := Aside0.mk ((by rw [hg]; exact Nat.ne_of_gt (blk_lt (g := gb142) (o := .cells #[.int .i64 a0] 2 (0, 0)) (by (with_reducible repeat (first | refine blk_drewN ?_ _ | refine blk_drew ?_ | refine blk_alloc ?_ _)); exact BK142.out)) : gb143 ≠ gb142)); clear BK142; clear HB; have BK142 := n0_; have HB := n1_; have BK143 := n2_; have GW143 := n3_; have GE143 := n4_; have NB142_143 := n5_; have NB143_142 := n6_; clear n0_ n1_ n2_ n3_ n4_ n5_ n6_; clear hb hbox hg; have hnb22 := NB142_143.out; have hnc22 := NB143_142.out; have hcz23_0 : w21.cell? ⟨gb142, 0, none⟩ = some (.int .i64 a0) := (blk_cell BK142.out 0).trans rfl; have hfz23_0 := blk_frozen BK142.out 0) | ((with_reducible refine gate_callee (f := 53) rfl ?_); refine goesL_ (some 7) rfl rfl Try.func53 (by kernel_rfl) rfl #[.int .i64 a0, .int .i64 1, .int .i64 6] rfl (by (try simp only [List.map_toArray, List.map_cons, List.map_nil]); first | done | rfl | (simp only [List.length_drop, List.length_take]; rfl)) ?_; (with_reducible refine (impl_within.calls a0 1 6 true _ A3.out).mono ?_); rintro e w' ⟨rfl, ⟨nd, rfl⟩⟩; refine ⟨_, rfl, ?_⟩; (try (rw [drewN_self w21]; generalize hq_ : World.drewN w21 _ = w21; have n0_ : Aside0 (w21.heap[gb142]? = some (.cells #[.int .i64 a0] 2 (0, 0))) := ⟨by rw [← hq_]; exact (by (with_reducible repeat (first | refine blk_drewN ?_ _ | refine blk_drew ?_ | refine blk_alloc ?_ _)); exact BK142.out)⟩; have n1_ : Aside0 (w21.heap[gb143]? = some (.cells #[.int .i64 0, .slice none 0 0] 26 (0, 0))) := ⟨by rw [← hq_]; exact (by (with_reducible repeat (first | refine blk_drewN ?_ _ | refine blk_drew ?_ | refine blk_alloc ?_ _)); exact BK143.out)⟩; have n2_ : Aside0 (Below w.heap.size w w21) := ⟨by rw [← hq_]; exact (by repeat (first | (with_reducible first | exact HB.out | apply below_alloc | apply pw_below_drewN | apply below_drew1 | refine below_set ?_ GE142.out | refine below_set ?_ GE143.out) | exact HB.out))⟩; clear BK142 BK143 HB hq_; have BK142 := n0_; have BK143 := n1_; have HB := n2_; clear n0_ n1_ n2_))) | (go_at_call 54; (with_reducible refine (impl_Tile_54_at_impl_SetOf_1.calls k _ _ l1 gb142 a0 false _ ?side1 ?side2 ?side3 A11.out).mono ?_); (case side1 => repeat (first | exact (Kd.C_below HR1.out HB.out) | (with_reducible refine Kd.C_alloc ?_ _) | (with_reducible refine Kd.C_drewN ?_ _) | (with_reducible refine Kd.C_drew ?_))); (case side2 => exact HC1.out); (case side3 => exact (by (with_reducible repeat (first | refine blk_drewN ?_ _ | refine blk_drew ?_ | refine blk_alloc ?_ _)); exact BK142.out)); rintro e w24 ⟨rfl, hb⟩; have n0_ := Aside0.mk (blk_below (g := gb142) (o := .cells #[.int .i64 a0] 2 (0, 0)) (by (with_reducible repeat (first | refine blk_drewN ?_ _ | refine blk_drew ?_ | refine blk_alloc ?_ _)); exact BK142.out) hb); have n1_ := Aside0.mk (blk_below (g := gb143) (o := .cells #[.int .i64 0, .slice none 0 0] 26 (0, 0)) (by (with_reducible repeat (first | refine blk_drewN ?_ _ | refine blk_drew ?_ | refine blk_alloc ?_ _)); exact BK143.out) hb); have n2_ := Aside0.mk (below_step (by repeat (first | (with_reducible first | exact HB.out | apply below_alloc | apply pw_below_drewN | apply below_drew1 | refine below_set ?_ GE142.out | refine below_set ?_ GE143.out) | exact HB.out)) hb); clear BK142; clear BK143; clear HB; have BK142 := n0_; have BK143 := n1_; have HB := n2_; clear n0_ n1_ n2_; (try clear hb); (try clear hb2); (try clear hk); (try clear hi); have hcz25_0 : w24.cell? ⟨gb142, 0, none⟩ = some (.int .i64 a0) := (blk_cell BK142.out 0).trans rfl; have hfz25_0 := blk_frozen BK142.out 0) | ((with_reducible refine gate_callee (f := 57) rfl ?_); refine goesL_ (some 22) rfl rfl Try.func57 (by kernel_rfl) rfl #[.int .i64 a0, .slice A1 l1.length c1] rfl (by (try simp only [List.map_toArray, List.map_cons, List.map_nil]); first | done | rfl | (simp only [List.length_drop, List.length_take]; rfl)) ?_; (with_reducible refine (impl_limited.calls a0 _ _ l1 t146 t147 t150 _ ?side1 ?side2 A19.out).mono ?_); (case side1 => repeat (first | exact (Kd.C_below HR1.out HB.out) | (with_reducible refine Kd.C_alloc ?_ _) | (with_reducible refine Kd.C_drewN ?_ _) | (with_reducible refine Kd.C_drew ?_))); (case side2 => exact HC1.out); rintro e w26 ⟨v148, rfl, ho0, hb⟩; refine ⟨_, rfl, ?_⟩; have n0_ := Aside0.mk (Kd.R_lower ho0 (below_size (by repeat (first | (with_reducible first | exact HB.out | apply below_alloc | apply pw_below_drewN | apply below_drew1 | refine below_set ?_ GE142.out | refine below_set ?_ GE143.out) | exact HB.out)))); have n1_ := Aside0.mk (blk_below (g := gb142) (o := .cells #[.int .i64 a0] 2 (0, 0)) (by (with_reducible repeat (first | refine blk_drewN ?_ _ | refine blk_drew ?_ | refine blk_alloc ?_ _)); exact BK142.out) hb); have n2_ := Aside0.mk (blk_below (g := gb143) (o := .cells #[.int .i64 0, .slice none 0 0] 26 (0, 0)) (by (with_reducible repeat (first | refine blk_drewN ?_ _ | refine blk_drew ?_ | refine blk_alloc ?_ _)); exact BK143.out) hb); have n3_ := Aside0.mk (below_step (by repeat (first | (with_reducible first | exact HB.out | apply below_alloc | apply pw_below_drewN | apply below_drew1 | refine below_set ?_ GE142.out | refine below_set ?_ GE143.out) | exact HB.out)) hb); clear BK142; clear BK143; clear HB; have HO149 := n0_; have BK142 := n1_; have BK143 := n2_; have HB := n3_; clear n0_ n1_ n2_ n3_; (try clear hb); (try clear hb2); (try clear hk); (try clear hi); (try clear ho0); have hcz27_0 : w26.cell? ⟨gb143, 0, none⟩ = some (.int .i64 0) := (blk_cell BK143.out 0).trans rfl; have hcz27_1 : w26.cell? ⟨gb143, 1, none⟩ = some (.slice none 0 0) := (blk_cell BK143.out 1).trans rfl; have hfz27_0 := blk_frozen BK143.out 0; have hfz27_1 := blk_frozen BK143.out 1; obtain ⟨Ao28, co28, eo28⟩ := Kd.R_slice HO149.out; subst eo28))
    refine bodyPost_ret (results_ct rfl _ _ gb143 26 #[.int .i64 t146, .slice Ao28 t147.length co28] (0, 0) _ rfl (by (with_reducible repeat (first | refine blk_drewN ?_ _ | refine blk_drew ?_ | refine blk_alloc ?_ _)); refine blk_put (cs := #[.int .i64 t146, .slice none 0 0]) ?_ 1 _ rfl; (with_reducible repeat (first | refine blk_drewN ?_ _ | refine blk_drew ?_ | refine blk_alloc ?_ _)); refine blk_put (cs := #[.int .i64 0, .slice none 0 0]) ?_ 0 _ rfl; (with_reducible repeat (first | refine blk_drewN ?_ _ | refine blk_drew ?_ | refine blk_alloc ?_ _)); exact BK143.out) Try.underlying26 rfl (by kernel_rfl)) rfl ?_
    exact ⟨_, by first | rfl | (simp [errW_none, errW_some] <;> rfl) | (simp [*, errW_none, errW_some] <;> rfl), by (with_reducible repeat (first | apply Kd.R_alloc | apply Kd.R_drewN | apply Kd.R_drew)); exact Kd.R_mono (Kd.R_far (p := ⟨gb143, 1, none⟩) (Kd.R_far (p := ⟨gb143, 0, none⟩) (Kd.R_types HO149.out BK143.out (by decide)) (fun _ hk => hk.2) (.int .i64 t146)) (fun _ hk => hk.2) (.slice Ao28 t147.length co28)) (fun _ hk => trivial), by repeat (first | (with_reducible first | exact HB.out | apply below_alloc | apply pw_below_drewN | apply below_drew1 | refine below_set ?_ GE142.out | refine below_set ?_ GE143.out) | exact HB.out)⟩
 ·replace c4 := Bool.eq_false_iff.mpr c4
  subst c4
  have H1 : (some (0, ([] : List (S45)), 2)) = some (r1, r2, r3) := by rw [if_neg (show ¬ (false = true) by decide)] at H; exact H
  clear H
  have H := H1
  clear H1
  simp only [Option.some.injEq, Prod.mk.injEq] at H
  obtain ⟨rfl, rfl, rfl⟩ := H
  go_enter Try.func16, Try.ntmps16
  go_wp2_with (first | ((with_reducible refine gate_dst (N := 2) rfl ?_); (try (refine gate_guard (by rfl) ?_; dsimp only)); refine box_event ?hg (N := 2) ?hd (cs := #[.int .i64 a0]) (t := 2) ?hr ?_; (case hd => rfl); (case hg => rfl); (case hr => first | (go_simp; done) | (go_simp; rfl)); intro gb142 hg w29 hbox hb; have n0_ := Aside0.mk (below_step (by repeat (first | (with_reducible first | exact HB.out | apply below_alloc | apply pw_below_drewN | apply below_drew1) | exact HB.out)) hb); have n1_ := Aside0.mk (hbox); have n2_ := Aside0.mk ((by rw [hg]; exact (below_size (by repeat (first | (with_reducible first | exact HB.out | apply below_alloc | apply pw_below_drewN | apply below_drew1) | exact HB.out))) : w.heap.size ≤ gb142)); have n3_ := Aside0.mk ((by rw [hg]; exact (below_size (by repeat (first | (with_reducible first | exact HB.out | apply below_alloc | apply pw_below_drewN | apply below_drew1) | exact HB.out))) : w.heap.size ≤ gb142)); clear HB; have HB := n0_; have BK142 := n1_; have GW142 := n2_; have GE142 := n3_; clear n0_ n1_ n2_ n3_; clear hb hbox hg) | ((with_reducible refine gate_dst (N := 4) rfl ?_); (try (refine gate_guard (by rfl) ?_; dsimp only)); refine box_event ?hg (N := 4) ?hd (cs := #[.int .i64 0, .slice none 0 0]) (t := 26) ?hr ?_; (case hd => rfl); (case hg => rfl); (case hr => first | (go_simp; done) | (go_simp; rfl)); intro gb143 hg w30 hbox hb; have n0_ := Aside0.mk (blk_below (g := gb142) (o := .cells #[.int .i64 a0] 2 (0, 0)) (by (with_reducible repeat (first | refine blk_drewN ?_ _ | refine blk_drew ?_ | refine blk_alloc ?_ _)); exact BK142.out) hb); have n1_ := Aside0.mk (below_step (by repeat (first | (with_reducible first | exact HB.out | apply below_alloc | apply pw_below_drewN | apply below_drew1 | refine below_set ?_ GE142.out) | exact HB.out)) hb); have n2_ := Aside0.mk (hbox); have n3_ := Aside0.mk ((by rw [hg]; exact (below_size (by repeat (first | (with_reducible first | exact HB.out | apply below_alloc | apply pw_below_drewN | apply below_drew1 | refine below_set ?_ GE142.out) | exact HB.out))) : w.heap.size ≤ gb143)); have n4_ := Aside0.mk ((by rw [hg]; exact (below_size (by repeat (first | (with_reducible first | exact HB.out | apply below_alloc | apply pw_below_drewN | apply below_drew1 | refine below_set ?_ GE142.out) | exact HB.out))) : w.heap.size ≤ gb143)); have n5_ := Aside0.mk ((by rw [hg]; exact Nat.ne_of_lt (blk_lt (g := gb142) (o := .cells #[.int .i64 a0] 2 (0, 0)) (by (with_reducible repeat (first | refine blk_drewN ?_ _ | refine blk_drew ?_ | refine blk_alloc ?_ _)); exact BK142.out)) : gb142 ≠ gb143)); have n6_ := Aside0.mk ((by rw [hg]; exact Nat.ne_of_gt (blk_lt (g := gb142) (o := .cells #[.int .i64 a0] 2 (0, 0)) (by (with_reducible repeat (first | refine blk_drewN ?_ _ | refine blk_drew ?_ | refine blk_alloc ?_ _)); exact BK142.out)) : gb143 ≠ gb142)); clear BK142; clear HB; have BK142 := n0_; have HB := n1_; have BK143 := n2_; have GW143 := n3_; have GE143 := n4_; have NB142_143 := n5_; have NB143_142 := n6_; clear n0_ n1_ n2_ n3_ n4_ n5_ n6_; clear hb hbox hg; have hnb31 := NB142_143.out; have hnc31 := NB143_142.out; have hcz32_0 : w30.cell? ⟨gb142, 0, none⟩ = some (.int .i64 a0) := (blk_cell BK142.out 0).trans rfl; have hfz32_0 := blk_frozen BK142.out 0) | ((with_reducible refine gate_callee (f := 53) rfl ?_); refine goesL_ (some 7) rfl rfl Try.func53 (by kernel_rfl) rfl #[.int .i64 a0, .int .i64 1, .int .i64 6] rfl (by (try simp only [List.map_toArray, List.map_cons, List.map_nil]); first | done | rfl | (simp only [List.length_drop, List.length_take]; rfl)) ?_; (with_reducible refine (impl_within.calls a0 1 6 false _ A3.out).mono ?_); rintro e w' ⟨rfl, ⟨nd, rfl⟩⟩; refine ⟨_, rfl, ?_⟩; (try (rw [drewN_self w30]; generalize hq_ : World.drewN w30 _ = w30; have n0_ : Aside0 (w30.heap[gb142]? = some (.cells #[.int .i64 a0] 2 (0, 0))) := ⟨by rw [← hq_]; exact (by (with_reducible repeat (first | refine blk_drewN ?_ _ | refine blk_drew ?_ | refine blk_alloc ?_ _)); exact BK142.out)⟩; have n1_ : Aside0 (w30.heap[gb143]? = some (.cells #[.int .i64 0, .slice none 0 0] 26 (0, 0))) := ⟨by rw [← hq_]; exact (by (with_reducible repeat (first | refine blk_drewN ?_ _ | refine blk_drew ?_ | refine blk_alloc ?_ _)); exact BK143.out)⟩; have n2_ : Aside0 (Below w.heap.size w w30) := ⟨by rw [← hq_]; exact (by repeat (first | (with_reducible first | exact HB.out | apply below_alloc | apply pw_below_drewN | apply below_drew1 | refine below_set ?_ GE142.out | refine below_set ?_ GE143.out) | exact HB.out))⟩; clear BK142 BK143 HB hq_; have BK142 := n0_; have BK143 := n1_; have HB := n2_; clear n0_ n1_ n2_)); have hcz33_0 : w30.cell? ⟨gb143, 0, none⟩ = some (.int .i64 0) := (blk_cell BK143.out 0).trans rfl; have hcz33_1 : w30.cell? ⟨gb143, 1, none⟩ = some (.slice none 0 0) := (blk_cell BK143.out 1).trans rfl; have hfz33_0 := blk_frozen BK143.out 0; have hfz33_1 := blk_frozen BK143.out 1))
  refine bodyPost_ret (results_ct rfl _ _ gb143 26 #[.int .i64 0, .slice none 0 0] (0, 0) _ rfl (by (with_reducible repeat (first | refine blk_drewN ?_ _ | refine blk_drew ?_ | refine blk_alloc ?_ _)); refine blk_put (cs := #[.int .i64 0, .slice none 0 0]) ?_ 1 _ rfl; (with_reducible repeat (first | refine blk_drewN ?_ _ | refine blk_drew ?_ | refine blk_alloc ?_ _)); refine blk_put (cs := #[.int .i64 0, .slice none 0 0]) ?_ 0 _ rfl; (with_reducible repeat (first | refine blk_drewN ?_ _ | refine blk_drew ?_ | refine blk_alloc ?_ _)); exact BK143.out) Try.underlying26 rfl (by kernel_rfl)) rfl ?_
  exact ⟨_, by first | rfl | (simp [errW_none, errW_some] <;> rfl) | (simp [*, errW_none, errW_some] <;> rfl), by first | exact Kd.R_nil _ _ _ _ _ | exact Kd.N_nil _ _ _ _ _ | exact Kd.V_nil _ _ _ _ _ | exact Kd.Q_nil _ _ _ _ _ | exact Kd.S_nil _ _ _ _ _, by repeat (first | (with_reducible first | exact HB.out | apply below_alloc | apply pw_below_drewN | apply below_drew1 | refine below_set ?_ GE142.out | refine below_set ?_ GE143.out) | exact HB.out)⟩
end Go.Proofs.Ytnjmgmdpkogocaa.Q
namespace Go.Proofs.Ytnjmgmdpkogocaa
open Go Go.RowKit Go.Proofs Go.Proofs.YtnjmgmdpkogocaaW.PrintWords Go.Proofs.YtnjmgmdpkogocaaW.PrintMore Go.Proofs.Ytnjmgmdpkogocaa.Q
set_option linter.unusedVariables false
set_option linter.unusedSimpArgs false
def tilesB (C : Int) (l : List STile) : Bool := l.all fun x => tileB (toT x) (wrap64 (C - 1))
def setOfR (C : Int) (ts : List T4) : (Int × List T4) × Int := if inB C 1 6 = true then if ts.length ≤ 100 then if tilesB C (ts.map toS) = true then limR C ts else ((0, []), 2) else ((0, []), 2) else ((0, []), 2)
theorem setOfR_len (C : Int) (ts : List T4) : (setOfR C ts).1.2.length ≤ 1048576 := by
  unfold setOfR
  split
  · split
    · split
      · exact limR_len C ts
      · simp
    · simp
  · simp
theorem in_f (n lo hi : Int) : spec_l01In.f n lo hi = some (inB n lo hi) := by
  unfold spec_l01In.f inB
  by_cases h : n ≥ lo
  · rw [if_pos h]; simp [h]
  · rw [if_neg h]; simp at h ⊢; omega
theorem within_f2 (n lo hi : Int) : impl_within.f n lo hi = some (inB n lo hi) := by
  unfold impl_within.f inB
  by_cases h : n ≥ lo
  · rw [if_pos h]; simp [h]
  · rw [if_neg h]; simp at h ⊢; omega
theorem specSetOf_l0 (C : Int) (l : List STile) (hl : l.length ≤ 100) : ∀ d m, m + d = l.length →
    Ev (fun k => spec_SetOf.l0 k C l (m : Int)) (flat (if tilesB C (l.drop m) = true then limR C (l.map toT) else ((0, []), 2))) := by
  intro d
  induction d with
  | zero =>
    intro m hm
    have b1 : ¬ (m : Int) < (l.length : Int) := by omega
    refine Ev.step (fun k => ?_) (Ev.now _)
    rw [spec_SetOf.l0, if_neg b1, specMade_f C l (by omega), List.drop_of_length_le (by omega), Option.bind_some, told_f]; rfl
  | succ d ih =>
    intro m hm
    have hlt : m < l.length := by omega
    have b1 : (m : Int) < (l.length : Int) := by omega
    have b2 : (0 : Int) ≤ (m : Int) := Int.natCast_nonneg m
    have hm9 : m < 1000000000 := by omega
    have hd : l.drop m = l[m] :: l.drop (m + 1) := List.drop_eq_getElem_cons hlt
    have e1 : spec_l01Tile.f C l[m].f0 l[m].f1 l[m].f2 l[m].f3 = some (tileB (toT l[m]) (wrap64 (C - 1))) := rfl
    cases hq : tileB (toT l[m]) (wrap64 (C - 1))
    · have e : tilesB C (l.drop m) = false := by rw [hd]; simp only [tilesB, List.all_cons, hq, Bool.false_and, Bool.true_and]
      rw [e]
      refine Ev.step (fun k => ?_) (Ev.now _)
      rw [spec_SetOf.l0, if_pos b1, if_pos b2, rdT_get l m hlt, e1, hq]; rfl
    · have e : tilesB C (l.drop m) = tilesB C (l.drop (m + 1)) := by rw [hd]; simp only [tilesB, List.all_cons, hq, Bool.false_and, Bool.true_and]
      rw [e]
      refine Ev.step (fun k => ?_) (ih (m + 1) (by omega))
      rw [spec_SetOf.l0, if_pos b1, if_pos b2, rdT_get l m hlt, e1, hq, wrap_succ m hm9]; rfl
theorem specSetOf_ev (C : Int) (l : List STile) : Ev (fun k => spec_SetOf.f k C l) (flat (setOfR C (l.map toT))) := by
  unfold setOfR
  rw [map_toST, List.length_map]
  cases hq : inB C 1 6
  · refine Ev.congr (f := fun k => spec_SetOf.j0 k C l true) (fun k => by rw [spec_SetOf.f, in_f, hq]; rfl) ?_
    exact Ev.step (f := fun _ => some (0, [], 2)) (fun k => by rw [spec_SetOf.j0, if_pos rfl]) (Ev.now _)
  · by_cases hl : l.length ≤ 100
    · rw [if_pos rfl, if_pos hl]
      refine Ev.congr (f := fun k => spec_SetOf.j0 k C l false) (fun k => by rw [spec_SetOf.f, in_f, hq, decide_eq_false (show ¬ (l.length : Int) > 100 by omega)]; rfl) ?_
      have := specSetOf_l0 C l hl l.length 0 (by omega)
      rw [List.drop_zero] at this
      exact Ev.step (fun k => by rw [spec_SetOf.j0, if_neg (by simp)]; rfl) this
    · rw [if_pos rfl, if_neg hl]
      refine Ev.congr (f := fun k => spec_SetOf.j0 k C l true) (fun k => by rw [spec_SetOf.f, in_f, hq, decide_eq_true (show (l.length : Int) > 100 by omega)]; rfl) ?_
      exact Ev.step (f := fun _ => some (0, [], 2)) (fun k => by rw [spec_SetOf.j0, if_pos rfl]) (Ev.now _)
theorem setOfIdx_ev (C : Int) (l : List STile) (hl : l.length ≤ 100) : ∃ j : Int, Ev (fun k => impl_Tile_90_at_impl_SetOf_1.f k l C) j ∧ decide (j ≥ 0) = !tilesB C l := by
  have go : ∀ d m, m + d = l.length → ∃ j : Int, Ev (fun k => impl_Tile_90_at_impl_SetOf_1.l0 k l (l.length : Int) (m : Int) C) j ∧ decide (j ≥ 0) = !tilesB C (l.drop m) := by
    intro d
    induction d with
    | zero =>
      intro m hm
      have b1 : ¬ (m : Int) < (l.length : Int) := by omega
      refine ⟨-1, Ev.step (fun k => ?_) (Ev.now _), ?_⟩
      · rw [impl_Tile_90_at_impl_SetOf_1.l0, if_neg b1]
      · rw [List.drop_of_length_le (by omega)]; rfl
    | succ d ih =>
      intro m hm
      have hlt : m < l.length := by omega
      have b1 : (m : Int) < (l.length : Int) := by omega
      have b2 : (0 : Int) ≤ (m : Int) := Int.natCast_nonneg m
      have hm9 : m < 1000000000 := by omega
      have hd : l.drop m = l[m] :: l.drop (m + 1) := List.drop_eq_getElem_cons hlt
      have e1 : impl_SetOf_1.f l[m].f0 l[m].f1 l[m].f2 l[m].f3 C = some (!tileB (toT l[m]) (wrap64 (C - 1))) := rfl
      cases hq : tileB (toT l[m]) (wrap64 (C - 1))
      · refine ⟨(m : Int), Ev.step (fun k => ?_) (Ev.now _), ?_⟩
        · rw [impl_Tile_90_at_impl_SetOf_1.l0, if_pos b1, if_pos b2, if_pos b1, rdT_get l m hlt, e1, hq]; rfl
        · rw [hd]; simp [tilesB, List.all_cons, hq, -List.getElem_cons_drop]
      · obtain ⟨j, hj, hd2⟩ := ih (m + 1) (by omega)
        refine ⟨j, Ev.step (fun k => ?_) hj, ?_⟩
        · rw [impl_Tile_90_at_impl_SetOf_1.l0, if_pos b1, if_pos b2, if_pos b1, rdT_get l m hlt, e1, hq, wrap_succ m hm9]; rfl
        · rw [hd2, hd]; simp only [tilesB, List.all_cons, hq, Bool.true_and]
  obtain ⟨j, h1, h2⟩ := go l.length 0 (by omega)
  rw [List.drop_zero] at h2
  exact ⟨j, h1, h2⟩
theorem implSetOf_ev (C : Int) (l : List STile) : Ev (fun k => impl_SetOf.f k C l) (flat (setOfR C (l.map toT))) := by
  unfold setOfR
  rw [map_toST, List.length_map]
  cases hq : inB C 1 6
  · refine Ev.congr (fun k => ?_) (Ev.now _)
    rw [impl_SetOf.f, within_f2, hq]; rfl
  · by_cases hl : l.length ≤ 100
    · rw [if_pos rfl, if_pos hl]
      obtain ⟨j, h1, h2⟩ := setOfIdx_ev C l hl
      refine Ev.congr (f := fun k => (impl_Tile_54_at_impl_SetOf_1.f k l C).bind fun t => if t = true then some (0, [], 2) else (impl_limited.f C l).bind fun b => some (b.1, b.2.1, b.2.2)) (fun k => ?_) ?_
      · rw [impl_SetOf.f, within_f2, hq, Option.bind_some, if_pos rfl, if_neg (show ¬ (l.length : Int) > 100 by omega)]
      · refine Ev.bind (a := !tilesB C l) ?_ ?_
        · refine Ev.congr (f := fun k => (impl_Tile_90_at_impl_SetOf_1.f k l C).bind fun t => some (decide (t ≥ 0))) (fun k => by rw [impl_Tile_54_at_impl_SetOf_1.f]) ?_
          exact Ev.bind h1 (Ev.congr (fun k => by rw [h2]) (Ev.now _))
        · refine Ev.congr (fun k => ?_) (Ev.now _)
          cases tilesB C l
          · rfl
          · rw [limited_f C l (by omega)]; rfl
    · rw [if_pos rfl, if_neg hl]
      refine Ev.congr (fun k => ?_) (Ev.now _)
      rw [impl_SetOf.f, within_f2, hq, Option.bind_some, if_pos rfl, if_pos (show (l.length : Int) > 100 by omega)]; rfl
theorem specSetOf_any (C : Int) (A : Option Addr) (ts : List T4) (n c : Nat) (w : World) (hn : n = ts.length) (hA : RT w A ts) (hnc : n ≤ c) (hl : n ≤ 35184372088832) :
    Calls Try.prog 14 #[.int .i64 C, .slice A n c] w fun e w' => ∃ v xc xs code, setOfR C ts = ((xc, xs), code) ∧ e = .returned (.tuple #[.agg #[.int .i64 xc, v], .int .i64 code]) ∧ OW w' w.heap.size w'.heap.size 45 4 v xs.length (tcells xs) ∧ Below w.heap.size w w' := by
  subst hn
  obtain ⟨k, hk⟩ := (specSetOf_ev C (ts.map toS)).rounds
  rw [map_toTS] at hk
  have h := spec_SetOf.calls k C A c (ts.map toS) _ _ _ w (C_of_rt hA (by omega)) (by simpa using hnc) hk
  rw [List.length_map] at h
  exact h.mono fun e w' ⟨v, he, hR, hB⟩ => ⟨v, _, _, _, rfl, he, ow_of_RT hR, hB⟩
theorem implSetOf_any (C : Int) (A : Option Addr) (ts : List T4) (n c : Nat) (w : World) (hn : n = ts.length) (hA : RT w A ts) (hnc : n ≤ c) (hl : n ≤ 35184372088832) :
    Calls Try.prog 16 #[.int .i64 C, .slice A n c] w fun e w' => ∃ v xc xs code, setOfR C ts = ((xc, xs), code) ∧ e = .returned (.tuple #[.agg #[.int .i64 xc, v], .int .i64 code]) ∧ OW w' w.heap.size w'.heap.size 45 4 v xs.length (tcells xs) ∧ Below w.heap.size w w' := by
  subst hn
  obtain ⟨k, hk⟩ := (implSetOf_ev C (ts.map toS)).rounds
  rw [map_toTS] at hk
  have h := impl_SetOf.calls k C A c (ts.map toS) _ _ _ w (C_of_rt hA (by omega)) (by simpa using hnc) hk
  rw [List.length_map] at h
  exact h.mono fun e w' ⟨v, he, hR, hB⟩ => ⟨v, _, _, _, rfl, he, ow_of_RT hR, hB⟩
end Go.Proofs.Ytnjmgmdpkogocaa
namespace Go.Proofs.Ytnjmgmdpkogocaa
open Go Go.RowKit Go.Proofs
set_option linter.unusedVariables false
set_option linter.unusedSimpArgs false
theorem info2 : (Try.prog.info? 2).map (fun i => (i.zero, i.size, i.bytes)) = some (some (.int .i64 0), 1, 8) := by kernel_rfl
set_option maxHeartbeats 2000000 in
theorem markTileS_any (lo hi : Nat) (v : Value) (n : Nat) (cells : List Value) (k : Int) (w : World) (hO : OW w lo hi 45 4 v n cells) (hk : 0 ≤ k) (hk2 : k ≤ 1000000000000) (hl : n ≤ 35184372088832) :
    Calls Try.prog 19 #[v, .int .i64 k] w fun e w' => e = .returned (.int .i64 (k + (n * 4 : Nat))) ∧ OW w' lo hi 45 4 v n (icells (mkI k (n * 4))) ∧ Only lo hi w w' := by
  obtain ⟨A, c, rfl, hf⟩ := hO.form
  have HT := Lib.hid hO.top
  have HF := Lib.hid hf; clear hf hO
  go_enter Try.func19, Try.ntmps19
  go_wp2
  go_loopw [1, 5, 6] (fun kk i _ wr => Only lo hi w wr ∧ ∃ d : Nat, d ≤ n ∧ i = .int .i64 d ∧ kk = .int .i64 (k + (d * 4 : Nat)) ∧ ((A = none ∧ n = 0 ∧ c = 0) ∨ ∃ g cur, A = some ⟨g, 0, none⟩ ∧ lo ≤ g ∧ g < hi ∧ BK wr g cur 45 ∧ n ≤ c ∧ c ≤ 9223372036854775807 ∧ cur.size = c * 4 ∧ ∀ j, j < d * 4 → cur[j]? = some (.int .i64 (k + (j : Int))))) (fun _ i _ _ => n - (intOf i).toNat)
  case atStart => exact ⟨Only.refl _ _ _, 0, by omega, rfl, by simp, HF.out.imp id fun ⟨g, cur, h1, h2, h3, h4, h5, h6, h7⟩ => ⟨g, cur, h1, h2, h3, h4, h5, h6, h7, fun j h => absurd h (by omega)⟩⟩
  case round =>
    obtain ⟨hB, d, hd, rfl, rfl, hcase⟩ := hrel
    have HB := Lib.hid hB; have HC := Lib.hid hcase; clear hB hcase
    by_cases hlt : d < n
    · rcases HC.out with ⟨_, h0, _⟩ | ⟨g, cur, hA, hg1, hg2, hb, hnc, hcm, hsz, hall⟩
      · exact absurd h0 (by omega)
      · subst hA
        have HALL := Lib.hid hall; have HS := Lib.hid hsz; have HG := Lib.hid (And.intro hg1 hg2); have HBK := Lib.hid hb; clear hall hsz HC hg1 hg2 hb
        go_wp2_with fail
        obtain ⟨wo, rfl⟩ : ∃ wo : World, wo = wr := ⟨_, rfl⟩
        go_loopw [1, 6] (fun kk j wr => Only lo hi w wr ∧ ∃ q : Nat, q ≤ 4 ∧ j = .int .i64 q ∧ kk = .int .i64 (k + (d * 4 + q : Nat)) ∧ ∃ cur, BK wr g cur 45 ∧ cur.size = c * 4 ∧ ∀ j, j < d * 4 + q → cur[j]? = some (.int .i64 (k + (j : Int)))) (fun _ j _ => 4 - (intOf j).toNat)
        case atStart => exact ⟨HB.out, 0, by omega, rfl, rfl, cur, HBK.out, HS.out, fun j h => HALL.out j (by omega)⟩
        case round =>
          obtain ⟨hB2, q, hq, rfl, rfl, cur2, hb2, hsz2, hall2⟩ := hrel
          have HB2 := Lib.hid hB2; have HALL2 := Lib.hid hall2; have HS2 := Lib.hid hsz2; clear hB2 hall2 hsz2
          by_cases hlt2 : q < 4
          · have q4 : (q : Int) < 4 := by omega
            obtain ⟨x0, c0⟩ : ∃ x, wr.cell? ⟨g, d * 4 + q, none⟩ = some x := ⟨_, hb2.cell (Array.getElem?_eq_getElem (by rw [HS2.out]; omega))⟩
            have f0 := hb2.frozen (d * 4 + q)
            go_wp2_with fail
            go_roundw
            case rel => exact ⟨HB2.out.setCell HG.out.1 HG.out.2 _ _, q + 1, by omega, by go_num, int_eq (by omega), _, hb2.set _ _, by rw [Array.size_setIfInBounds, HS2.out], fun j hj => by
                rw [Array.getElem?_setIfInBounds, HS2.out]
                by_cases e : d * 4 + q = j
                · subst e; rw [if_pos rfl, if_pos (by omega)]; exact congrArg some (int_eq (by omega))
                · rw [if_neg e]; exact HALL2.out j (by omega)⟩
            case measure => simp [intOf]; omega
          · have hq4 : q = 4 := by omega
            subst hq4
            go_wp2_with fail
            go_roundw
            case rel => exact ⟨HB2.out, d + 1, by omega, by go_num, int_eq (by omega), .inr ⟨g, cur2, rfl, HG.out.1, HG.out.2, hb2, hnc, hcm, HS2.out, fun j hj => HALL2.out j (by omega)⟩⟩
            case measure => simp [intOf]; omega
    · have hdn : d = n := by omega
      subst hdn
      go_wp2_with fail
      go_ret
      refine ⟨rfl, ?_, HB.out⟩
      rcases HC.out with ⟨rfl, rfl, rfl⟩ | ⟨g, cur, rfl, hg1, hg2, hb, hnc, hcm, hsz, hall⟩
      · exact OW.nil _ _ _ _ _ (Nat.le_trans HT.out HB.out.size)
      · exact OW.marked hb hg1 hg2 (Nat.le_trans HT.out HB.out.size) hnc hcm hsz fun j hj => hall j (by omega)
set_option maxHeartbeats 2000000 in
theorem heldTileS_any (lo hi : Nat) (v : Value) (n : Nat) (k : Int) (w : World) (hO : OW w lo hi 45 4 v n (icells (mkI k (n * 4)))) (hk : 0 ≤ k) (hk2 : k ≤ 1000000000000) (hl : n ≤ 35184372088832) :
    Calls Try.prog 59 #[v, .int .i64 k] w fun e w' => e = .returned (.int .i64 (k + (n * 4 : Nat))) ∧ Below w.heap.size w w' := by
  obtain ⟨A, c, rfl, hf⟩ := hO.form
  have HO := Lib.hid hO; have HF := Lib.hid hf; clear hf hO
  go_enter Try.func59, Try.ntmps59
  go_wp2
  go_loopw [1, 5, 6] (fun kk i _ wr => Below w.heap.size w wr ∧ ∃ d : Nat, d ≤ n ∧ i = .int .i64 d ∧ kk = .int .i64 (k + (d * 4 : Nat))) (fun _ i _ _ => n - (intOf i).toNat)
  case atStart => exact ⟨Below.refl _ _, 0, by omega, rfl, by simp⟩
  case round =>
    obtain ⟨hB, d, hd, rfl, rfl⟩ := hrel
    have HB := Lib.hid hB; clear hB
    by_cases hlt : d < n
    · rcases HF.out with ⟨_, h0, _⟩ | ⟨g, cur, hA, hg1, hg2, hb, hnc, hcm, hsz⟩
      · exact absurd h0 (by omega)
      · subst hA
        clear hsz hb hg1 hg2
        go_wp2_with fail
        obtain ⟨wo, rfl⟩ : ∃ wo : World, wo = wr := ⟨_, rfl⟩
        go_loopw [1, 6] (fun kk j wr => Below w.heap.size w wr ∧ ∃ q : Nat, q ≤ 4 ∧ j = .int .i64 q ∧ kk = .int .i64 (k + (d * 4 + q : Nat))) (fun _ j _ => 4 - (intOf j).toNat)
        case atStart => exact ⟨HB.out, 0, by omega, rfl, rfl⟩
        case round =>
          obtain ⟨hB2, q, hq, rfl, rfl⟩ := hrel
          have HB2 := Lib.hid hB2; clear hB2
          by_cases hlt2 : q < 4
          · have q4 : (q : Int) < 4 := by omega
            have c0 : wr.cell? ⟨g, d * 4 + q, none⟩ = some (.int .i64 (k + ((d * 4 + q : Nat) : Int))) := by
              refine (HO.out.to HB2.out).cell ?_
              rw [icells_get (by rw [mkI_length]; omega), mkI_get (by omega)]
            have hne : (k + ((d * 4 + q : Nat) : Int) != k + ((d * 4 + q : Nat) : Int)) = false := by simp
            go_wp2_with fail
            go_roundw
            case rel => exact ⟨HB2.out, q + 1, by omega, by go_num, int_eq (by omega)⟩
            case measure => simp [intOf]; omega
          · have hq4 : q = 4 := by omega
            subst hq4
            go_wp2_with fail
            go_roundw
            case rel => exact ⟨HB2.out, d + 1, by omega, by go_num, int_eq (by omega)⟩
            case measure => simp [intOf]; omega
    · have hdn : d = n := by omega
      subst hdn
      go_wp2_with fail
      go_ret
      exact ⟨rfl, HB.out⟩
set_option maxHeartbeats 1000000 in
theorem markSet_any (lo hi : Nat) (C : Int) (v : Value) (n : Nat) (cells : List Value) (k : Int) (w : World) (hO : OW w lo hi 45 4 v n cells) (hk : 0 ≤ k) (hk2 : k ≤ 1000000000000) (hl : n ≤ 35184372088832) :
    Calls Try.prog 20 #[.agg #[.int .i64 C, v], .int .i64 k] w fun e w' => e = .returned (.int .i64 (k + (n * 4 : Nat))) ∧ OW w' lo hi 45 4 v n (icells (mkI k (n * 4))) ∧ Only lo hi w w' := by
  obtain ⟨A, c, rfl, -⟩ := hO.form
  have HO := Lib.hid hO; clear hO
  go_enter Try.func20, Try.ntmps20
  go_wp2_with fail
  refine namec1 ?_
  intro W1 b1 hz hb0
  refine (markTileS_any lo hi _ n cells k W1 (HO.out.to hb0) hk hk2 hl).mono ?_
  rintro e w1 ⟨rfl, hO1, hB1⟩
  have HO1 := Lib.hid hO1; have HB1 := Lib.hid ((only_of hb0 lo hi).trans hB1); clear hO1 hB1 hb0 hz b1
  go_wp2_with fail
  go_ret
  exact ⟨rfl, HO1.out, HB1.out⟩
set_option maxHeartbeats 1000000 in
theorem heldSet_any (lo hi : Nat) (C : Int) (v : Value) (n : Nat) (k : Int) (w : World) (hO : OW w lo hi 45 4 v n (icells (mkI k (n * 4)))) (hk : 0 ≤ k) (hk2 : k ≤ 1000000000000) (hl : n ≤ 35184372088832) :
    Calls Try.prog 21 #[.agg #[.int .i64 C, v], .int .i64 k] w fun e w' => e = .returned (.int .i64 (k + (n * 4 : Nat))) ∧ Below w.heap.size w w' := by
  obtain ⟨A, c, rfl, -⟩ := hO.form
  have HO := Lib.hid hO; clear hO
  go_enter Try.func21, Try.ntmps21
  go_wp2_with fail
  refine namec1 ?_
  intro W1 b1 hz hb0
  refine (heldTileS_any lo hi _ n k W1 (HO.out.to hb0) hk hk2 hl).mono ?_
  rintro e w1 ⟨rfl, hB1⟩
  have HB1 := Lib.hid (below_to hb0 hB1); clear hB1 hb0 hz b1
  have hpos : ¬ (k + (n * 4 : Nat) : Int) < 0 := by omega
  go_wp2_with fail
  go_ret
  exact ⟨rfl, HB1.out⟩
theorem markTileS_m (lo hi : Nat) (v : Value) (n m : Nat) (cells : List Value) (k : Int) (w : World) (hm : m = n * 4) (hO : OW w lo hi 45 4 v n cells) (hk : 0 ≤ k) (hk2 : k ≤ 1000000000000) (hl : n ≤ 35184372088832) :
    Calls Try.prog 19 #[v, .int .i64 k] w fun e w' => e = .returned (.int .i64 (k + m)) ∧ OW w' lo hi 45 4 v n (icells (mkI k m)) ∧ Only lo hi w w' := by
  subst hm; exact markTileS_any lo hi v n cells k w hO hk hk2 hl
theorem markSet_m (lo hi : Nat) (C : Int) (v : Value) (n m : Nat) (cells : List Value) (k : Int) (w : World) (hm : m = n * 4) (hO : OW w lo hi 45 4 v n cells) (hk : 0 ≤ k) (hk2 : k ≤ 1000000000000) (hl : n ≤ 35184372088832) :
    Calls Try.prog 20 #[.agg #[.int .i64 C, v], .int .i64 k] w fun e w' => e = .returned (.int .i64 (k + m)) ∧ OW w' lo hi 45 4 v n (icells (mkI k m)) ∧ Only lo hi w w' := by
  subst hm; exact markSet_any lo hi C v n cells k w hO hk hk2 hl
theorem heldSet_m (lo hi : Nat) (C : Int) (v : Value) (n m : Nat) (k : Int) (w : World) (hm : m = n * 4) (hO : OW w lo hi 45 4 v n (icells (mkI k m))) (hk : 0 ≤ k) (hk2 : k ≤ 1000000000000) (hl : n ≤ 35184372088832) :
    Calls Try.prog 21 #[.agg #[.int .i64 C, v], .int .i64 k] w fun e w' => e = .returned (.int .i64 (k + m)) ∧ Below w.heap.size w w' := by
  subst hm; exact heldSet_any lo hi C v n k w hO hk hk2 hl
end Go.Proofs.Ytnjmgmdpkogocaa
namespace Go.Proofs.Ytnjmgmdpkogocaa
open Go Go.RowKit Go.Proofs
set_option linter.unusedVariables false
set_option linter.unusedSimpArgs false
theorem toTileS_all (A : Option Addr) (ts : List T4) (n c : Nat) (w : World) (hn : n = ts.length) (hA : RT w A ts) (hl : ts.length ≤ 1048576) :
    Calls Try.prog 15 #[.slice A n c] w fun e w' => ∃ v, e = .returned v ∧ OT w' w.heap.size 45 v ts ∧ Below w.heap.size w w' := by
  subst hn
  exact toTileS_any A ts c w hA hl
set_option maxHeartbeats 16000000 in
set_option maxRecDepth 100000 in
theorem lawSetOf_any (w : World) (x0 : Int) (hx0 : -9223372036854775808 ≤ x0 ∧ x0 ≤ 9223372036854775807) (A1 : Option Addr) (ts1 : List T4) (n1 c1 : Nat) (hn1 : n1 = ts1.length) (hA1 : RT w A1 ts1) (hnc1 : n1 ≤ c1) (hl1 : n1 ≤ 35184372088832) :
    Calls Try.prog 3 #[.int .i64 x0, .slice A1 n1 c1] w fun e w' => e = .returned (.bool true) ∧ Below w.heap.size w w' := by
  subst hn1
  have HA1 := Lib.hid hA1; clear hA1
  by_cases hbig0 : (1048576 : Int) < ((ts1.length : Nat) : Int)
  · go_enter Try.func3, Try.ntmps3
    go_wp2_with fail
    refine (szTileS_any A1 ts1.length c1 (1048576) w (by omega) (by omega) (by omega)).mono ?_
    rintro e w' ⟨rfl, rfl⟩
    rw [if_pos (show (1048576 : Int) < (ts1.length : Nat) by omega)]
    go_wp2_with fail
    go_ret
    exact ⟨rfl, Below.refl _ _⟩
  · replace hbig0 : ((ts1.length : Nat) : Int) ≤ 1048576 := by omega
    obtain ⟨r_, hr_⟩ : ∃ r, setOfR x0 ts1 = r := ⟨_, rfl⟩
    obtain ⟨⟨rc1, r1⟩, r2⟩ := r_
    have hb1 : r1.length ≤ 1048576 := by have h_ := setOfR_len x0 ts1; rw [hr_] at h_; exact h_
    have HR := Lib.hid hr_; clear hr_
    go_enter Try.func3, Try.ntmps3
    go_wp2_with fail
    refine (szTileS_any A1 ts1.length c1 (1048576) w (by omega) (by omega) (by omega)).mono ?_
    rintro e w' ⟨rfl, rfl⟩
    rw [if_neg (show ¬ (1048576 : Int) < (ts1.length : Nat) by omega)]
    go_wp2_with fail
    refine (toTileS_all A1 ts1 ts1.length c1 w rfl HA1.out (by omega)).mono ?_
    rintro e w1 ⟨v_, rfl, hO, hB⟩
    obtain ⟨A1_, c1_, rfl, -, -⟩ := hO.reads
    have O1 := Lib.hid (OW.of hO)
    clear hO
    have sw1 : w.heap.size ≤ w1.heap.size := hB.size
    have hE := Lib.hid (hB)
    clear hB
    go_wp2_with fail
    refine (specSetOf_any (x0) A1_ ts1 ts1.length c1_ w1  rfl (rt_of O1.out rfl) (le_of O1.out) (by omega)).mono ?_
    rintro e w2 ⟨v0_, xc0_, x0_, x1_, hR_, rfl, hO0, hB⟩
    obtain ⟨rfl, rfl, rfl⟩ : rc1 = xc0_ ∧ r1 = x0_ ∧ r2 = x1_ := (by have h_ := HR.out.symm.trans hR_; simpa [and_assoc] using h_)
    clear hR_
    obtain ⟨A2_, c2_, rfl, -⟩ := hO0.form
    have O2 := Lib.hid hO0
    clear hO0
    replace O1 := Lib.hid (O1.out.to hB)
    have sw2 : w1.heap.size ≤ w2.heap.size := hB.size
    replace hE := Lib.hid (below_to hE.out hB)
    clear hB
    go_wp2_with fail
    refine namec1 ?_
    intro w3 b0 hz hB
    have tw3 : w2.heap.size + 1 ≤ w3.heap.size := by omega
    clear hz
    replace O1 := Lib.hid (O1.out.to hB)
    replace O2 := Lib.hid (O2.out.to hB)
    have sw3 : w2.heap.size ≤ w3.heap.size := hB.size
    replace hE := Lib.hid (below_to hE.out hB)
    clear hB
    refine (toTileS_all A1 ts1 ts1.length c1 w3 rfl (HA1.out.below hE.out) (by omega)).mono ?_
    rintro e w4 ⟨v_, rfl, hO, hB⟩
    obtain ⟨A3_, c3_, rfl, -, -⟩ := hO.reads
    have O3 := Lib.hid (OW.of hO)
    clear hO
    replace b0 := b0.below hB b0.lt
    replace O1 := Lib.hid (O1.out.to hB)
    replace O2 := Lib.hid (O2.out.to hB)
    have sw4 : w3.heap.size ≤ w4.heap.size := hB.size
    replace hE := Lib.hid (below_to hE.out hB)
    clear hB
    have l0 := b0.lt
    have c0_0 : w4.cell? ⟨w2.heap.size, 0, none⟩ = some (.int .i64 rc1) := b0.cell rfl
    have c0_1 : w4.cell? ⟨w2.heap.size, 1, none⟩ = some (.slice A2_ r1.length c2_) := b0.cell rfl
    go_wp2_with fail
    clear l0 c0_0 c0_1
    refine (implSetOf_any (x0) A3_ ts1 ts1.length c3_ w4  rfl (rt_of O3.out rfl) (le_of O3.out) (by omega)).mono ?_
    rintro e w5 ⟨v0_, xc0_, x0_, x1_, hR_, rfl, hO0, hB⟩
    obtain ⟨rfl, rfl, rfl⟩ : rc1 = xc0_ ∧ r1 = x0_ ∧ r2 = x1_ := (by have h_ := HR.out.symm.trans hR_; simpa [and_assoc] using h_)
    clear hR_
    obtain ⟨A4_, c4_, rfl, -⟩ := hO0.form
    have O4 := Lib.hid hO0
    clear hO0
    replace b0 := b0.below hB b0.lt
    replace O1 := Lib.hid (O1.out.to hB)
    replace O2 := Lib.hid (O2.out.to hB)
    replace O3 := Lib.hid (O3.out.to hB)
    have sw5 : w4.heap.size ≤ w5.heap.size := hB.size
    replace hE := Lib.hid (below_to hE.out hB)
    clear hB
    have l0 := b0.lt
    have c0_0 : w5.cell? ⟨w2.heap.size, 0, none⟩ = some (.int .i64 rc1) := b0.cell rfl
    have c0_1 : w5.cell? ⟨w2.heap.size, 1, none⟩ = some (.slice A2_ r1.length c2_) := b0.cell rfl
    go_wp2_with fail
    clear l0 c0_0 c0_1
    refine namec1 ?_
    intro w6 b1 hz hB
    have tw6 : w5.heap.size + 1 ≤ w6.heap.size := by omega
    clear hz
    replace b0 := b0.below hB b0.lt
    replace O1 := Lib.hid (O1.out.to hB)
    replace O2 := Lib.hid (O2.out.to hB)
    replace O3 := Lib.hid (O3.out.to hB)
    replace O4 := Lib.hid (O4.out.to hB)
    have sw6 : w5.heap.size ≤ w6.heap.size := hB.size
    replace hE := Lib.hid (below_to hE.out hB)
    clear hB
    refine (eqSet_any rc1 rc1 A4_ A2_ r1 r1 r1.length r1.length c4_ c2_ w6 rfl rfl (rt_of O4.out rfl) (rt_of O2.out rfl) (by omega) (by omega)).mono ?_
    rintro e w7 ⟨rfl, hB⟩
    simp only [decide_true, Bool.and_self]
    replace b0 := b0.below hB b0.lt
    replace b1 := b1.below hB b1.lt
    replace O1 := Lib.hid (O1.out.to hB)
    replace O2 := Lib.hid (O2.out.to hB)
    replace O3 := Lib.hid (O3.out.to hB)
    replace O4 := Lib.hid (O4.out.to hB)
    have sw7 : w6.heap.size ≤ w7.heap.size := hB.size
    replace hE := Lib.hid (below_to hE.out hB)
    clear hB
    have l0 := b0.lt
    have c0_0 : w7.cell? ⟨w2.heap.size, 0, none⟩ = some (.int .i64 rc1) := b0.cell rfl
    have c0_1 : w7.cell? ⟨w2.heap.size, 1, none⟩ = some (.slice A2_ r1.length c2_) := b0.cell rfl
    have l1 := b1.lt
    have c1_0 : w7.cell? ⟨w5.heap.size, 0, none⟩ = some (.int .i64 rc1) := b1.cell rfl
    have c1_1 : w7.cell? ⟨w5.heap.size, 1, none⟩ = some (.slice A4_ r1.length c4_) := b1.cell rfl
    go_wp2_with fail
    clear l0 c0_0 c0_1 l1 c1_0 c1_1
    refine (toTileS_all A1 ts1 ts1.length c1 w7 rfl (HA1.out.below hE.out) (by omega)).mono ?_
    rintro e w8 ⟨v_, rfl, hO, hB⟩
    obtain ⟨A5_, c5_, rfl, -, -⟩ := hO.reads
    have O5 := Lib.hid (OW.of hO)
    clear hO
    replace b0 := b0.below hB b0.lt
    replace b1 := b1.below hB b1.lt
    replace O1 := Lib.hid (O1.out.to hB)
    replace O2 := Lib.hid (O2.out.to hB)
    replace O3 := Lib.hid (O3.out.to hB)
    replace O4 := Lib.hid (O4.out.to hB)
    have sw8 : w7.heap.size ≤ w8.heap.size := hB.size
    replace hE := Lib.hid (below_to hE.out hB)
    clear hB
    have l0 := b0.lt
    have c0_0 : w8.cell? ⟨w2.heap.size, 0, none⟩ = some (.int .i64 rc1) := b0.cell rfl
    have c0_1 : w8.cell? ⟨w2.heap.size, 1, none⟩ = some (.slice A2_ r1.length c2_) := b0.cell rfl
    have l1 := b1.lt
    have c1_0 : w8.cell? ⟨w5.heap.size, 0, none⟩ = some (.int .i64 rc1) := b1.cell rfl
    have c1_1 : w8.cell? ⟨w5.heap.size, 1, none⟩ = some (.slice A4_ r1.length c4_) := b1.cell rfl
    go_wp2_with fail
    clear l0 c0_0 c0_1 l1 c1_0 c1_1
    refine (eqTileS_any A3_ A5_ ts1 ts1 ts1.length ts1.length c3_ c5_ w8 rfl rfl (rt_of O3.out rfl) (rt_of O5.out rfl) (by omega) (by omega)).mono ?_
    rintro e w9 ⟨rfl, hB⟩
    simp only [decide_true, Bool.and_self]
    replace b0 := b0.below hB b0.lt
    replace b1 := b1.below hB b1.lt
    replace O1 := Lib.hid (O1.out.to hB)
    replace O2 := Lib.hid (O2.out.to hB)
    replace O3 := Lib.hid (O3.out.to hB)
    replace O4 := Lib.hid (O4.out.to hB)
    replace O5 := Lib.hid (O5.out.to hB)
    have sw9 : w8.heap.size ≤ w9.heap.size := hB.size
    replace hE := Lib.hid (below_to hE.out hB)
    clear hB
    have l0 := b0.lt
    have c0_0 : w9.cell? ⟨w2.heap.size, 0, none⟩ = some (.int .i64 rc1) := b0.cell rfl
    have c0_1 : w9.cell? ⟨w2.heap.size, 1, none⟩ = some (.slice A2_ r1.length c2_) := b0.cell rfl
    have l1 := b1.lt
    have c1_0 : w9.cell? ⟨w5.heap.size, 0, none⟩ = some (.int .i64 rc1) := b1.cell rfl
    have c1_1 : w9.cell? ⟨w5.heap.size, 1, none⟩ = some (.slice A4_ r1.length c4_) := b1.cell rfl
    go_wp2_with fail
    clear l0 c0_0 c0_1 l1 c1_0 c1_1
    obtain ⟨m_O3, hm_O3⟩ : ∃ m, m = ts1.length * 4 := ⟨_, rfl⟩
    have bm_O3 : m_O3 ≤ 40000000 := by omega
    have Hm_O3 := Lib.hid hm_O3; clear hm_O3
    refine (markTileS_m w3.heap.size w4.heap.size (.slice A3_ ts1.length c3_) ts1.length m_O3 (tcells ts1) (1) w9 Hm_O3.out O3.out (by omega) (by omega) (by omega)).mono ?_
    rintro e w10 ⟨rfl, hO, hK⟩
    clear O3
    have O3 := Lib.hid hO
    clear hO
    replace b0 := b0.only hK (by omega)
    replace b1 := b1.only hK (by omega)
    replace O1 := Lib.hid (O1.out.only hK (by omega))
    replace O2 := Lib.hid (O2.out.only hK (by omega))
    replace O4 := Lib.hid (O4.out.only hK (by omega))
    replace O5 := Lib.hid (O5.out.only hK (by omega))
    have sw10 : w9.heap.size ≤ w10.heap.size := hK.size
    replace hE := Lib.hid (below_only hE.out hK (by omega))
    clear hK
    have l0 := b0.lt
    have c0_0 : w10.cell? ⟨w2.heap.size, 0, none⟩ = some (.int .i64 rc1) := b0.cell rfl
    have c0_1 : w10.cell? ⟨w2.heap.size, 1, none⟩ = some (.slice A2_ r1.length c2_) := b0.cell rfl
    have l1 := b1.lt
    have c1_0 : w10.cell? ⟨w5.heap.size, 0, none⟩ = some (.int .i64 rc1) := b1.cell rfl
    have c1_1 : w10.cell? ⟨w5.heap.size, 1, none⟩ = some (.slice A4_ r1.length c4_) := b1.cell rfl
    go_wp2_with fail
    clear l0 c0_0 c0_1 l1 c1_0 c1_1
    refine (eqSet_any rc1 rc1 A4_ A2_ r1 r1 r1.length r1.length c4_ c2_ w10 rfl rfl (rt_of O4.out rfl) (rt_of O2.out rfl) (by omega) (by omega)).mono ?_
    rintro e w11 ⟨rfl, hB⟩
    simp only [decide_true, Bool.and_self]
    replace b0 := b0.below hB b0.lt
    replace b1 := b1.below hB b1.lt
    replace O1 := Lib.hid (O1.out.to hB)
    replace O2 := Lib.hid (O2.out.to hB)
    replace O3 := Lib.hid (O3.out.to hB)
    replace O4 := Lib.hid (O4.out.to hB)
    replace O5 := Lib.hid (O5.out.to hB)
    have sw11 : w10.heap.size ≤ w11.heap.size := hB.size
    replace hE := Lib.hid (below_to hE.out hB)
    clear hB
    have l0 := b0.lt
    have c0_0 : w11.cell? ⟨w2.heap.size, 0, none⟩ = some (.int .i64 rc1) := b0.cell rfl
    have c0_1 : w11.cell? ⟨w2.heap.size, 1, none⟩ = some (.slice A2_ r1.length c2_) := b0.cell rfl
    have l1 := b1.lt
    have c1_0 : w11.cell? ⟨w5.heap.size, 0, none⟩ = some (.int .i64 rc1) := b1.cell rfl
    have c1_1 : w11.cell? ⟨w5.heap.size, 1, none⟩ = some (.slice A4_ r1.length c4_) := b1.cell rfl
    go_wp2_with fail
    clear l0 c0_0 c0_1 l1 c1_0 c1_1
    obtain ⟨m_O4, hm_O4⟩ : ∃ m, m = r1.length * 4 := ⟨_, rfl⟩
    have bm_O4 : m_O4 ≤ 40000000 := by omega
    have Hm_O4 := Lib.hid hm_O4; clear hm_O4
    refine (markSet_m w4.heap.size w5.heap.size rc1 (.slice A4_ r1.length c4_) r1.length m_O4 (tcells r1) (1) w11 Hm_O4.out O4.out (by omega) (by omega) (by omega)).mono ?_
    rintro e w12 ⟨rfl, hO, hK⟩
    clear O4
    have O4 := Lib.hid hO
    clear hO
    replace b0 := b0.only hK (by omega)
    replace b1 := b1.only hK (by omega)
    replace O1 := Lib.hid (O1.out.only hK (by omega))
    replace O2 := Lib.hid (O2.out.only hK (by omega))
    replace O3 := Lib.hid (O3.out.only hK (by omega))
    replace O5 := Lib.hid (O5.out.only hK (by omega))
    have sw12 : w11.heap.size ≤ w12.heap.size := hK.size
    replace hE := Lib.hid (below_only hE.out hK (by omega))
    clear hK
    have l0 := b0.lt
    have c0_0 : w12.cell? ⟨w2.heap.size, 0, none⟩ = some (.int .i64 rc1) := b0.cell rfl
    have c0_1 : w12.cell? ⟨w2.heap.size, 1, none⟩ = some (.slice A2_ r1.length c2_) := b0.cell rfl
    have l1 := b1.lt
    have c1_0 : w12.cell? ⟨w5.heap.size, 0, none⟩ = some (.int .i64 rc1) := b1.cell rfl
    have c1_1 : w12.cell? ⟨w5.heap.size, 1, none⟩ = some (.slice A4_ r1.length c4_) := b1.cell rfl
    go_wp2_with fail
    clear l0 c0_0 c0_1 l1 c1_0 c1_1
    refine (heldSet_m w4.heap.size w5.heap.size rc1 (.slice A4_ r1.length c4_) r1.length m_O4 (1) w12 Hm_O4.out O4.out (by omega) (by omega) (by omega)).mono ?_
    rintro e w13 ⟨rfl, hB⟩
    replace b0 := b0.below hB b0.lt
    replace b1 := b1.below hB b1.lt
    replace O1 := Lib.hid (O1.out.to hB)
    replace O2 := Lib.hid (O2.out.to hB)
    replace O3 := Lib.hid (O3.out.to hB)
    replace O4 := Lib.hid (O4.out.to hB)
    replace O5 := Lib.hid (O5.out.to hB)
    have sw13 : w12.heap.size ≤ w13.heap.size := hB.size
    replace hE := Lib.hid (below_to hE.out hB)
    clear hB
    have l0 := b0.lt
    have c0_0 : w13.cell? ⟨w2.heap.size, 0, none⟩ = some (.int .i64 rc1) := b0.cell rfl
    have c0_1 : w13.cell? ⟨w2.heap.size, 1, none⟩ = some (.slice A2_ r1.length c2_) := b0.cell rfl
    have l1 := b1.lt
    have c1_0 : w13.cell? ⟨w5.heap.size, 0, none⟩ = some (.int .i64 rc1) := b1.cell rfl
    have c1_1 : w13.cell? ⟨w5.heap.size, 1, none⟩ = some (.slice A4_ r1.length c4_) := b1.cell rfl
    go_wp2_with fail
    clear l0 c0_0 c0_1 l1 c1_0 c1_1
    refine (toTileS_all A1 ts1 ts1.length c1 w13 rfl (HA1.out.below hE.out) (by omega)).mono ?_
    rintro e w14 ⟨v_, rfl, hO, hB⟩
    obtain ⟨A6_, c6_, rfl, -, -⟩ := hO.reads
    have O6 := Lib.hid (OW.of hO)
    clear hO
    replace b0 := b0.below hB b0.lt
    replace b1 := b1.below hB b1.lt
    replace O1 := Lib.hid (O1.out.to hB)
    replace O2 := Lib.hid (O2.out.to hB)
    replace O3 := Lib.hid (O3.out.to hB)
    replace O4 := Lib.hid (O4.out.to hB)
    replace O5 := Lib.hid (O5.out.to hB)
    have sw14 : w13.heap.size ≤ w14.heap.size := hB.size
    replace hE := Lib.hid (below_to hE.out hB)
    clear hB
    have l0 := b0.lt
    have c0_0 : w14.cell? ⟨w2.heap.size, 0, none⟩ = some (.int .i64 rc1) := b0.cell rfl
    have c0_1 : w14.cell? ⟨w2.heap.size, 1, none⟩ = some (.slice A2_ r1.length c2_) := b0.cell rfl
    have l1 := b1.lt
    have c1_0 : w14.cell? ⟨w5.heap.size, 0, none⟩ = some (.int .i64 rc1) := b1.cell rfl
    have c1_1 : w14.cell? ⟨w5.heap.size, 1, none⟩ = some (.slice A4_ r1.length c4_) := b1.cell rfl
    go_wp2_with fail
    clear l0 c0_0 c0_1 l1 c1_0 c1_1
    refine (implSetOf_any (x0) A6_ ts1 ts1.length c6_ w14  rfl (rt_of O6.out rfl) (le_of O6.out) (by omega)).mono ?_
    rintro e w15 ⟨v0_, xc0_, x0_, x1_, hR_, rfl, hO0, hB⟩
    obtain ⟨rfl, rfl, rfl⟩ : rc1 = xc0_ ∧ r1 = x0_ ∧ r2 = x1_ := (by have h_ := HR.out.symm.trans hR_; simpa [and_assoc] using h_)
    clear hR_
    obtain ⟨A7_, c7_, rfl, -⟩ := hO0.form
    have O7 := Lib.hid hO0
    clear hO0
    replace b0 := b0.below hB b0.lt
    replace b1 := b1.below hB b1.lt
    replace O1 := Lib.hid (O1.out.to hB)
    replace O2 := Lib.hid (O2.out.to hB)
    replace O3 := Lib.hid (O3.out.to hB)
    replace O4 := Lib.hid (O4.out.to hB)
    replace O5 := Lib.hid (O5.out.to hB)
    replace O6 := Lib.hid (O6.out.to hB)
    have sw15 : w14.heap.size ≤ w15.heap.size := hB.size
    replace hE := Lib.hid (below_to hE.out hB)
    clear hB
    have l0 := b0.lt
    have c0_0 : w15.cell? ⟨w2.heap.size, 0, none⟩ = some (.int .i64 rc1) := b0.cell rfl
    have c0_1 : w15.cell? ⟨w2.heap.size, 1, none⟩ = some (.slice A2_ r1.length c2_) := b0.cell rfl
    have l1 := b1.lt
    have c1_0 : w15.cell? ⟨w5.heap.size, 0, none⟩ = some (.int .i64 rc1) := b1.cell rfl
    have c1_1 : w15.cell? ⟨w5.heap.size, 1, none⟩ = some (.slice A4_ r1.length c4_) := b1.cell rfl
    go_wp2_with fail
    clear l0 c0_0 c0_1 l1 c1_0 c1_1
    refine namec1 ?_
    intro w16 b2 hz hB
    have tw16 : w15.heap.size + 1 ≤ w16.heap.size := by omega
    clear hz
    replace b0 := b0.below hB b0.lt
    replace b1 := b1.below hB b1.lt
    replace O1 := Lib.hid (O1.out.to hB)
    replace O2 := Lib.hid (O2.out.to hB)
    replace O3 := Lib.hid (O3.out.to hB)
    replace O4 := Lib.hid (O4.out.to hB)
    replace O5 := Lib.hid (O5.out.to hB)
    replace O6 := Lib.hid (O6.out.to hB)
    replace O7 := Lib.hid (O7.out.to hB)
    have sw16 : w15.heap.size ≤ w16.heap.size := hB.size
    replace hE := Lib.hid (below_to hE.out hB)
    clear hB
    refine (eqSet_any rc1 rc1 A7_ A2_ r1 r1 r1.length r1.length c7_ c2_ w16 rfl rfl (rt_of O7.out rfl) (rt_of O2.out rfl) (by omega) (by omega)).mono ?_
    rintro e w17 ⟨rfl, hB⟩
    simp only [decide_true, Bool.and_self]
    replace b0 := b0.below hB b0.lt
    replace b1 := b1.below hB b1.lt
    replace b2 := b2.below hB b2.lt
    replace O1 := Lib.hid (O1.out.to hB)
    replace O2 := Lib.hid (O2.out.to hB)
    replace O3 := Lib.hid (O3.out.to hB)
    replace O4 := Lib.hid (O4.out.to hB)
    replace O5 := Lib.hid (O5.out.to hB)
    replace O6 := Lib.hid (O6.out.to hB)
    replace O7 := Lib.hid (O7.out.to hB)
    have sw17 : w16.heap.size ≤ w17.heap.size := hB.size
    replace hE := Lib.hid (below_to hE.out hB)
    clear hB
    have l0 := b0.lt
    have c0_0 : w17.cell? ⟨w2.heap.size, 0, none⟩ = some (.int .i64 rc1) := b0.cell rfl
    have c0_1 : w17.cell? ⟨w2.heap.size, 1, none⟩ = some (.slice A2_ r1.length c2_) := b0.cell rfl
    have l1 := b1.lt
    have c1_0 : w17.cell? ⟨w5.heap.size, 0, none⟩ = some (.int .i64 rc1) := b1.cell rfl
    have c1_1 : w17.cell? ⟨w5.heap.size, 1, none⟩ = some (.slice A4_ r1.length c4_) := b1.cell rfl
    have l2 := b2.lt
    have c2_0 : w17.cell? ⟨w15.heap.size, 0, none⟩ = some (.int .i64 rc1) := b2.cell rfl
    have c2_1 : w17.cell? ⟨w15.heap.size, 1, none⟩ = some (.slice A7_ r1.length c7_) := b2.cell rfl
    go_wp2_with fail
    clear l0 c0_0 c0_1 l1 c1_0 c1_1 l2 c2_0 c2_1
    refine (heldSet_m w4.heap.size w5.heap.size rc1 (.slice A4_ r1.length c4_) r1.length m_O4 (1) w17 Hm_O4.out O4.out (by omega) (by omega) (by omega)).mono ?_
    rintro e w18 ⟨rfl, hB⟩
    replace b0 := b0.below hB b0.lt
    replace b1 := b1.below hB b1.lt
    replace b2 := b2.below hB b2.lt
    replace O1 := Lib.hid (O1.out.to hB)
    replace O2 := Lib.hid (O2.out.to hB)
    replace O3 := Lib.hid (O3.out.to hB)
    replace O4 := Lib.hid (O4.out.to hB)
    replace O5 := Lib.hid (O5.out.to hB)
    replace O6 := Lib.hid (O6.out.to hB)
    replace O7 := Lib.hid (O7.out.to hB)
    have sw18 : w17.heap.size ≤ w18.heap.size := hB.size
    replace hE := Lib.hid (below_to hE.out hB)
    clear hB
    go_wp2_with fail
    go_ret
    exact ⟨rfl, hE.out⟩
end Go.Proofs.Ytnjmgmdpkogocaa
namespace Go.Proofs.Ytnjmgmdpkogocaa
open Go Go.RowKit Go.Proofs
open Go.ChangeShapes Go.WideShapes Go.ChangeAt Go.Deep
set_option linter.unusedVariables false
set_option linter.unusedSimpArgs false
section
variable {H : Type} {enc : TypeId × Value → H} {P : Program} {w : World} {base : Nat} {held : Bool} {spare : Nat → Bool}
theorem open_tile {e i : TypeId} {fuel : Nat} {cs : List Value} {x : DataW H × List MemPlace} (he : P.underlying e = some (.array 4 i)) (hi : P.underlying i = some (.int .i64)) (ce : P.cellsOf e = 4) (ci : P.cellsOf i = 1)
    (h : DataW.trod enc P w base spare held fuel e cs = some x) : ∃ t : T4, cs = t.arr.toList := by
  cases fuel with
  | zero => simp [DataW.trod] at h
  | succ fuel =>
    simp only [DataW.trod, he] at h
    split at h
    · rename_i hl
      rw [ce] at hl
      obtain ⟨ys, hys, -⟩ := Option.map_eq_some_iff.1 h
      have each : ∀ j, j < 4 → ∃ n, cs[j]? = some (.int .i64 n) := by
        intro j hj
        have hg := mapM_some_get hys j j (by simp [hj])
        simp only [ci, Nat.mul_one] at hg
        have hlen : ys.length = 4 := by simpa using mapM_some_length hys
        rw [List.getElem?_eq_getElem (show j < ys.length by omega)] at hg
        have hd : (cs.drop j).take 1 = [cs[j]'(by omega)] := by
          rw [List.drop_eq_getElem_cons (by omega), List.take_succ_cons, List.take_zero]
        rw [hd] at hg
        obtain ⟨n, hn, -, -⟩ := DataW.trod_int hi hg
        exact ⟨n, by rw [List.getElem?_eq_getElem (by omega)]; simpa using hn⟩
      obtain ⟨a, ha⟩ := each 0 (by omega); obtain ⟨b, hb⟩ := each 1 (by omega); obtain ⟨c, hc⟩ := each 2 (by omega); obtain ⟨d, hd⟩ := each 3 (by omega)
      refine ⟨⟨a, b, c, d⟩, ?_⟩
      match cs, hl, ha, hb, hc, hd with
      | [v0, v1, v2, v3], _, ha, hb, hc, hd =>
        simp at ha hb hc hd
        subst ha hb hc hd
        rfl
    · cases h
theorem addr_plain {w : World} {a : Addr} {v : Value} (h : w.cell? a = some v) : a = ⟨a.block, a.off, none⟩ := by
  obtain ⟨b, o, s⟩ := a
  cases s with
  | none => rfl
  | some s =>
    simp only [World.cell?] at h
    split at h
    · simp at h
    · cases h
theorem add_plain (b o n : Nat) : (⟨b, o, none⟩ : Addr).add n = ⟨b, o + n, none⟩ := by unfold Addr.add; split <;> simp_all
theorem open_tiles {t e i : TypeId} {fuel : Nat} {cs : List Value} {x : DataW H × List MemPlace} (ht : P.underlying t = some (.slice e)) (he : P.underlying e = some (.array 4 i)) (hi : P.underlying i = some (.int .i64)) (ce : P.cellsOf e = 4) (ci : P.cellsOf i = 1)
    (h : DataW.trod enc P w base (fun _ => true) held fuel t cs = some x) :
    ∃ A n c ts, cs = [.slice A n c] ∧ n = ts.length ∧ RT w A ts ∧ n ≤ c ∧ (n = 0 ∨ ∃ el sp, x.1 = .slice el sp ∧ n ≤ el.length + sp.length) := by
  rcases open_slice ht h with ⟨rfl, rfl⟩ | ⟨a, len, cap, m, n, D, Pl, rfl, hb, hl, hm, hmm, rfl, hx⟩
  · exact ⟨none, 0, 0, [], rfl, rfl, fun k hk => by simp at hk, Nat.le_refl _, .inl rfl⟩
  · simp only [if_true] at hmm
    subst hmm
    have each : ∀ k, k < len → ∃ t : T4, a = ⟨a.block, a.off, none⟩ ∧ a.block < w.heap.size ∧ ∀ j, j < 4 → w.cell? ⟨a.block, a.off + k * 4 + j, none⟩ = some (.int .i64 (t.get j)) := by
      intro k hk
      obtain ⟨cs', hc, htr⟩ := hx k (by omega)
      rw [ce] at hc
      obtain ⟨t, rfl⟩ := open_tile he hi ce ci htr
      obtain ⟨-, -, hcell⟩ := World.cells?_some hc
      have hg (j : Nat) (hj : j < 4) : w.cell? ((a.add (k * 4)).add j) = some (.int .i64 (t.get j)) := by
        rw [hcell j hj, Array.getElem?_toList]; exact t.cell j hj
      have ha : a = ⟨a.block, a.off, none⟩ := by
        obtain ⟨cs0, hc0, htr0⟩ := hx 0 (by omega)
        obtain ⟨t0, rfl⟩ := open_tile he hi ce ci htr0
        rw [ce] at hc0
        obtain ⟨-, -, hcell0⟩ := World.cells?_some hc0
        have := hcell0 0 (by omega)
        rw [Array.getElem?_toList, t0.cell 0 (by omega)] at this
        have he : (a.add (0 * 4)).add 0 = a := by simp [Addr.add]
        rw [he] at this
        exact addr_plain this
      refine ⟨t, ha, ?_, fun j hj => ?_⟩
      · have := World.block_lt_of_cell? w _ (hg 0 (by omega))
        rw [ha, add_plain, add_plain] at this
        exact this
      · have := hg j hj
        rw [ha, add_plain, add_plain] at this
        exact this
    obtain ⟨f, hf⟩ := choose_lt each
    refine ⟨some a, len, m, (List.range len).map f, rfl, by simp, fun k hk => ?_, hl, .inr ⟨_, _, rfl, by simp⟩⟩
    have hk' : k < len := by simpa using hk
    obtain ⟨ha, hlt, hc⟩ := hf k hk'
    have htk : tk ((List.range len).map f) k = f k := by simp [tk, hk']
    rw [htk]
    exact ⟨a.block, a.off, by rw [← ha], hlt, hc 0 (by omega), hc 1 (by omega), hc 2 (by omega), hc 3 (by omega)⟩
end
theorem wf64 {n : Int} (h : (Lit.int .i64 n).wf = true) : -9223372036854775808 ≤ n ∧ n ≤ 9223372036854775807 := by
  simp [Lit.wf] at h
  have e : IntKind.i64.min = -9223372036854775808 := by decide
  rw [e] at h
  exact h
end Go.Proofs.Ytnjmgmdpkogocaa
namespace Go.Proofs.Ytnjmgmdpkogocaa
open Go Go.RowKit Go.Proofs Go.Proofs.YtnjmgmdpkogocaaW.PrintWords Go.Proofs.Ytnjmgmdpkogocaa.Q
set_option linter.unusedVariables false
set_option linter.unusedSimpArgs false
theorem OW.apart {w w' : World} {lo hi lo' hi' : Nat} {E : TypeId} {size n : Nat} {v : Value} {cells : List Value} (h : OW w lo hi E size v n cells) (k : Only lo' hi' w w')
    (hd : ∀ b, lo' ≤ b → b < hi' → v.ownBlock ≠ some b) : OW w' lo hi E size v n cells := by
  refine ⟨?_, h.up, Nat.le_trans h.top k.size⟩
  obtain ⟨h1, h2⟩ := h.own
  refine ⟨h1, ?_⟩
  rcases h2 with h2 | ⟨g, cap, cur, hv, hg, hh, r⟩
  · exact .inl h2
  · refine .inr ⟨g, cap, cur, hv, hg, ?_, r⟩
    have hb : v.ownBlock = some g := by rw [hv]; rfl
    have hu := h.up g hb
    exact (k.block g (Nat.lt_of_lt_of_le hu h.top) (by
      by_cases h1 : lo' ≤ g
      · by_cases h2 : g < hi'
        · exact absurd hb (hd g h1 h2)
        · exact .inr (by omega)
      · exact .inl (by omega))).trans hh
structure RowsW (w : World) (lo hi g n : Nat) (v : Nat → Value) (m : Nat → Nat) (cs : Nat → List Value) : Prop where
  hdr : ∀ i, i < n → w.cell? ⟨g, i, none⟩ = some (v i)
  row : ∀ i, i < n → OW w lo hi 2 1 (v i) (m i) (cs i)
  apart : ∀ i j, i < n → j < n → i ≠ j → ∀ b, (v i).ownBlock = some b → (v j).ownBlock ≠ some b
  out : ∀ i, i < n → (v i).ownBlock ≠ some g
theorem RowsW.below {w w' : World} {lo hi g n : Nat} {v : Nat → Value} {m : Nat → Nat} {cs : Nat → List Value} (h : RowsW w lo hi g n v m cs) (k : Below w.heap.size w w') : RowsW w' lo hi g n v m cs :=
  ⟨fun i hi => k.cell (World.block_lt_of_cell? w _ (h.hdr i hi)) |>.trans (h.hdr i hi), fun i hi => (h.row i hi).to k, h.apart, h.out⟩
theorem RowsW.set {w w' : World} {lo hi g n : Nat} {v : Nat → Value} {m : Nat → Nat} {cs : Nat → List Value} (h : RowsW w lo hi g n v m cs) {i : Nat} (hi' : i < n) {l u : Nat} (k : Only l u w w')
    (hk : ∀ b, l ≤ b → b < u → (v i).ownBlock = some b) {c : List Value} (hr : OW w' lo hi 2 1 (v i) (m i) c) : RowsW w' lo hi g n v m (fun j => if j = i then c else cs j) := by
  refine ⟨fun j hj => ?_, fun j hj => ?_, h.apart, h.out⟩
  · refine cell_only k ?_ (h.hdr j hj)
    by_cases h1 : l ≤ g
    · by_cases h2 : g < u
      · exact absurd (hk g h1 h2) (h.out i hi')
      · exact .inr (by omega)
    · exact .inl (by omega)
  · by_cases e : j = i
    · subst e; simpa using hr
    · simp only [if_neg e]
      exact (h.row j hj).apart k fun b h1 h2 => h.apart i j hi' hj (fun e2 => e e2.symm) b (hk b h1 h2)
theorem Only.into {lo hi l u : Nat} {w w' : World} (h : Only l u w w') (k : ∀ b, l ≤ b → b < u → lo ≤ b ∧ b < hi) : Only lo hi w w' :=
  ⟨h.os, h.tape, h.output, h.size, fun i hi' hd => h.block i hi' (by
    by_cases h1 : l ≤ i
    · by_cases h2 : i < u
      · have := k i h1 h2
        omega
      · exact .inr (by omega)
    · exact .inl (by omega))⟩
theorem OW.into {w : World} {lo hi l u : Nat} {E : TypeId} {size n : Nat} {v : Value} {cells : List Value} (h : OW w l u E size v n cells) (k : ∀ b, v.ownBlock = some b → lo ≤ b ∧ b < hi) (ht : hi ≤ w.heap.size) : OW w lo hi E size v n cells := by
  refine ⟨?_, fun b hb => (k b hb).2, ht⟩
  obtain ⟨h1, h2⟩ := h.own
  refine ⟨h1, ?_⟩
  rcases h2 with h2 | ⟨g, cap, cur, hv, hg, r⟩
  · exact .inl h2
  · exact .inr ⟨g, cap, cur, hv, (k g (by rw [hv]; rfl)).1, r⟩
theorem RowsW.congr {w : World} {lo hi g n : Nat} {v : Nat → Value} {m : Nat → Nat} {cs cs' : Nat → List Value} (h : RowsW w lo hi g n v m cs) (e : ∀ i, i < n → cs i = cs' i) : RowsW w lo hi g n v m cs' :=
  ⟨h.hdr, fun i hi => by rw [← e i hi]; exact h.row i hi, h.apart, h.out⟩
def rowAt (xs : List (List Int)) (i : Nat) : List Int := xs.getD i []
def rowLen (xs : List (List Int)) (i : Nat) : Nat := (rowAt xs i).length
structure OWS (w : World) (lo hi : Nat) (v : Value) (xs : List (List Int)) (cs : Nat → List Value) : Prop where
  ex : ∃ A c g hv, v = .slice A xs.length c ∧ (xs.length ≤ c ∧ c ≤ 9223372036854775807) ∧ (0 < xs.length → A = some ⟨g, 0, none⟩ ∧ lo ≤ g ∧ g < hi) ∧ RowsW w lo hi g xs.length hv (rowLen xs) cs
  top : hi ≤ w.heap.size
theorem OWS.only {w w' : World} {lo hi lo' hi' : Nat} {v : Value} {xs : List (List Int)} {cs : Nat → List Value} (h : OWS w lo hi v xs cs) (k : Only lo' hi' w w') (hd : hi ≤ lo' ∨ hi' ≤ lo) : OWS w' lo hi v xs cs := by
  obtain ⟨A, c, g, hv, rfl, hc, hA, hr⟩ := h.ex
  exact ⟨⟨A, c, g, hv, rfl, hc, hA, ⟨fun i hi' => cell_only k (by have := hA (by omega); omega) (hr.hdr i hi'), fun i hi' => (hr.row i hi').only k hd, hr.apart, hr.out⟩⟩, Nat.le_trans h.top k.size⟩
theorem OWS.to {w w' : World} {lo hi : Nat} {v : Value} {xs : List (List Int)} {cs : Nat → List Value} (h : OWS w lo hi v xs cs) (k : Below w.heap.size w w') : OWS w' lo hi v xs cs :=
  h.only (only_of k w.heap.size w.heap.size) (.inl h.top)
def RR (w : World) (A : Option Addr) (xs : List (List Int)) : Prop :=
  ∀ k, k < xs.length → ∃ b o A' c', A = some ⟨b, o, none⟩ ∧ b < w.heap.size ∧ w.cell? ⟨b, o + k, none⟩ = some (.slice A' (rowLen xs k) c') ∧ RI w A' (rowAt xs k) ∧ rowLen xs k ≤ c' ∧ rowLen xs k ≤ 9223372036854775807
theorem RR.below {w w' : World} {A : Option Addr} {xs : List (List Int)} (h : RR w A xs) (hb : Below w.heap.size w w') : RR w' A xs := by
  intro k hk
  obtain ⟨b, o, A', c', e, hlt, hc, hr, h1, h2⟩ := h k hk
  exact ⟨b, o, A', c', e, Nat.lt_of_lt_of_le hlt hb.size, (hb.cell (World.block_lt_of_cell? w _ hc)).trans hc, hr.below hb, h1, h2⟩
theorem OW.len {w : World} {lo hi : Nat} {E : TypeId} {size n : Nat} {v : Value} {cells : List Value} (h : OW w lo hi E size v n cells) : n ≤ 9223372036854775807 := by
  obtain ⟨A, c, -, h⟩ := h.form
  rcases h with ⟨-, rfl, -⟩ | ⟨g, cur, -, -, -, -, h1, h2, -⟩ <;> omega
theorem OWS.congr {w : World} {lo hi : Nat} {v : Value} {xs : List (List Int)} {cs cs' : Nat → List Value} (h : OWS w lo hi v xs cs) (e : ∀ i, i < xs.length → cs i = cs' i) : OWS w lo hi v xs cs' := by
  obtain ⟨A, c, g, hv, e1, hc, hA, hr⟩ := h.ex
  exact ⟨⟨A, c, g, hv, e1, hc, hA, hr.congr e⟩, h.top⟩
end Go.Proofs.Ytnjmgmdpkogocaa
namespace Go.Proofs.Ytnjmgmdpkogocaa
open Go Go.RowKit Go.Proofs
open Go.ChangeShapes Go.WideShapes Go.ChangeAt Go.Deep
set_option linter.unusedVariables false
set_option linter.unusedSimpArgs false
section
variable {H : Type} {enc : TypeId × Value → H} {P : Program} {w : World} {base : Nat} {held : Bool}
theorem open_tiles_arg {r : Reach} {b0 : Nat} {t e i : TypeId} {v : Value} {d : DataW H} {ps : List MemPlace} (ht : P.underlying t = some (.slice e)) (he : P.underlying e = some (.array 4 i)) (hi : P.underlying i = some (.int .i64)) (ce : P.cellsOf e = 4) (ci : P.cellsOf i = 1) (hby : P.bytesOf e = 32)
    (hval : Value.okWide P w r b0 t v) (h : DataW.Trod enc P w base (fun _ => true) held t v d ps) {ts0 : List TypeId} {ds0 : List (DataW H)} {j : Nat} (hj : ts0[j]? = some t) (hd : ds0[j]? = some d)
    (hsz : (DataW.weightsEach P ts0 ds0).all (· ≤ reachBytes) = true) :
    ∃ A n c ts, v = .slice A n c ∧ n = ts.length ∧ RT w A ts ∧ n ≤ c ∧ n ≤ 35184372088832 := by
  obtain ⟨a, len, cap, rfl⟩ := okWide_slice ht hval
  obtain ⟨fuel, hf⟩ := h
  obtain ⟨A, n, c, ts, hA, hn, hrt, hnc, hwt⟩ := open_tiles ht he hi ce ci hf
  simp [Value.cells] at hA
  obtain ⟨rfl, rfl, rfl⟩ := hA
  refine ⟨_, _, _, ts, rfl, hn, hrt, hnc, ?_⟩
  rcases hwt with h0 | ⟨el, sp, hx, hle⟩
  · omega
  · have := List.all_eq_true.1 hsz _ (DataW.weights_mem_each hj hd ((el.length + sp.length) * P.bytesOf e) (by
      simp only at hx
      rw [hx]
      simp [DataW.weights, ht]))
    simp only [decide_eq_true_eq, hby, reachBytes] at this
    omega
end
end Go.Proofs.Ytnjmgmdpkogocaa

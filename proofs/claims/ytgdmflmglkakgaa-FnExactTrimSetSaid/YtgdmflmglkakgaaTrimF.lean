/-
  Contracts: TrimSet's parts in the program. (mktrim.py wrote it.)
-/
import Derived.Test.YtgdmflmglkakgaaPTrim
import Derived.Test.YtgdmflmglkakgaaIsSet2
import Derived.Test.YtgdmflmglkakgaaLaw1
import Derived.Test.YtgdmflmglkakgaaOwn2
import Derived.Test.YtgdmflmglkakgaaDelT
import Derived.Deep.CutBlock
import Derived.Deep.RegionHeld3
namespace Go.Proofs.Ytgdmflmglkakgaa
open Go Go.RowKit Go.Proofs
set_option linter.unusedVariables false
set_option linter.unusedSimpArgs false

def withL (ts : List T4) (s : Nat) (x : Int) (k : Nat) : List Int := ((List.range k).filter fun j => decide ((tk ts j).get s = x)).map fun (j : Nat) => (j : Int)
theorem withL_yes {ts : List T4} {s : Nat} {x : Int} {k : Nat} (h : (tk ts k).get s = x) : withL ts s x (k + 1) = withL ts s x k ++ [(k : Int)] := by
  simp [withL, List.range_succ, h]
theorem withL_no {ts : List T4} {s : Nat} {x : Int} {k : Nat} (h : ¬ (tk ts k).get s = x) : withL ts s x (k + 1) = withL ts s x k := by
  simp [withL, List.range_succ, h]
theorem withL_len (ts : List T4) (s : Nat) (x : Int) (k : Nat) : (withL ts s x k).length ≤ k := by
  have := List.length_filter_le (fun j => decide ((tk ts j).get s = x)) (List.range k)
  simp only [withL, List.length_map]
  rw [List.length_range] at this
  exact this

set_option maxHeartbeats 4000000 in
set_option maxRecDepth 100000 in
theorem with0_any (C : Int) (A : Option Addr) (ts : List T4) (n c : Nat) (x : Int) (w : World) (hn : n = ts.length) (hA : RT w A ts) (hnc : n ≤ c) (h16 : n ≤ 16) :
    Calls Try.prog 52 #[.agg #[.int .i64 C, .slice A n c], .int .i64 0, .int .i64 x] w fun e w' => ∃ v, e = .returned v ∧ OW w' w.heap.size w'.heap.size 2 1 v (withL ts 0 x n).length (icells (withL ts 0 x n)) ∧ Below w.heap.size w w' := by
  have HA := Lib.hid hA; have HN := Lib.hid hn; clear hA hn
  go_enter Try.func52, Try.ntmps52
  go_wp2_with fail
  refine name2 ?_
  intro W3 b1 b2 hz3 hB3
  have hlit := OI.empty (base := w.heap.size + 1) b2 (by omega)
  have hz4 : w.heap.size + 1 ≤ W3.heap.size := by omega
  have HB3 := Lib.hid hB3
  have a1 : W3.cell? ⟨w.heap.size, 1, none⟩ = some (.slice A n c) := b1.cell rfl
  have l1 := b1.lt
  clear hB3 hz3 b2
  go_wp2_with fail
  go_loopw [7, 14] (fun v i wr => Below w.heap.size w wr ∧ w.heap.size + 1 ≤ wr.heap.size ∧ ∃ k : Nat, k ≤ n ∧ i = .int .i64 k ∧ OI wr (w.heap.size + 1) 2 v (withL ts 0 x k)) (fun _ i _ => n - (intOf i).toNat)
  case atStart => exact ⟨HB3.out, hz4, 0, by omega, rfl, hlit⟩
  case round =>
    obtain ⟨hB, hzr, k, hk, rfl, hO⟩ := hrel
    have HB4 := Lib.hid hB; have HO := Lib.hid hO; clear hB hO hlit a1 l1 b1 hz4
    by_cases hlt : k < n
    · have i1 : (k : Int) < n := by omega
      have i2 : (k : Int) ≤ c := by omega
      have HK := Lib.hid (show k < ts.length by have := HN.out; omega)
      obtain ⟨bb, o, hA', hbb, h0, h1, h2, h3⟩ := (HA.out.below HB4.out) k HK.out
      subst hA'
      have hB5 : Below wr.heap.size wr (wr.alloc (.cells (tk ts k).arr 63)) := (Below.refl _ _).alloc (Nat.le_refl _) _
      have HO5 := Lib.hid (HO.out.to hB5)
      have hz5q : w.heap.size + 1 ≤ (wr.alloc (.cells (tk ts k).arr 63)).heap.size := Nat.le_trans hzr hB5.size
      have HB5 := Lib.hid (below_to HB4.out hB5); have HZ5 := Lib.hid hz5q; clear hB5 hz5q
      by_cases he : (tk ts k).get 0 = x
      · have HE := Lib.hid he; clear he
        have he' : ((tk ts k).get 0 == x) = true := by simp [HE.out]
        go_wp2_with (at_builtin; refine app_int2 (w.heap.size + 1) rfl (.tmp 24) (.tmp 26) 46 2 rfl Try.underlying46 info2 _ (withL ts 0 x k) k rfl (by simp) rfl HO5.out HZ5.out (by have := withL_len ts 0 x k; omega) ?_; intro v6 w6 hO6 hG _; have HB6 := Lib.hid (grown_below HB5.out hG fun b hb => by have := own_lo HO5.out b hb; omega); have HO6 := Lib.hid hO6; have hz6 : w.heap.size + 1 ≤ w6.heap.size := Nat.le_trans HZ5.out hG.size; clear hG hO6)
        go_roundw
        case rel => exact ⟨HB6.out, hz6, k + 1, by omega, by go_num, by rw [withL_yes HE.out]; exact HO6.out⟩
        case measure => simp [intOf]; omega
      · have HE := Lib.hid he; clear he
        have he' : ((tk ts k).get 0 == x) = false := by simpa using HE.out
        go_wp2_with fail
        go_roundw
        case rel => exact ⟨HB5.out, HZ5.out, k + 1, by omega, by go_num, by rw [withL_no HE.out]; exact HO5.out⟩
        case measure => simp [intOf]; omega
    · have hkn : k = n := by omega
      subst hkn
      go_wp2_with fail
      go_ret
      exact ⟨_, rfl, OW.of (own_base (base := w.heap.size + 1) HO.out (by omega)), HB4.out⟩

set_option maxHeartbeats 4000000 in
set_option maxRecDepth 100000 in
theorem with1_any (C : Int) (A : Option Addr) (ts : List T4) (n c : Nat) (x : Int) (w : World) (hn : n = ts.length) (hA : RT w A ts) (hnc : n ≤ c) (h16 : n ≤ 16) :
    Calls Try.prog 52 #[.agg #[.int .i64 C, .slice A n c], .int .i64 1, .int .i64 x] w fun e w' => ∃ v, e = .returned v ∧ OW w' w.heap.size w'.heap.size 2 1 v (withL ts 1 x n).length (icells (withL ts 1 x n)) ∧ Below w.heap.size w w' := by
  have HA := Lib.hid hA; have HN := Lib.hid hn; clear hA hn
  go_enter Try.func52, Try.ntmps52
  go_wp2_with fail
  refine name2 ?_
  intro W3 b1 b2 hz3 hB3
  have hlit := OI.empty (base := w.heap.size + 1) b2 (by omega)
  have hz4 : w.heap.size + 1 ≤ W3.heap.size := by omega
  have HB3 := Lib.hid hB3
  have a1 : W3.cell? ⟨w.heap.size, 1, none⟩ = some (.slice A n c) := b1.cell rfl
  have l1 := b1.lt
  clear hB3 hz3 b2
  go_wp2_with fail
  go_loopw [7, 14] (fun v i wr => Below w.heap.size w wr ∧ w.heap.size + 1 ≤ wr.heap.size ∧ ∃ k : Nat, k ≤ n ∧ i = .int .i64 k ∧ OI wr (w.heap.size + 1) 2 v (withL ts 1 x k)) (fun _ i _ => n - (intOf i).toNat)
  case atStart => exact ⟨HB3.out, hz4, 0, by omega, rfl, hlit⟩
  case round =>
    obtain ⟨hB, hzr, k, hk, rfl, hO⟩ := hrel
    have HB4 := Lib.hid hB; have HO := Lib.hid hO; clear hB hO hlit a1 l1 b1 hz4
    by_cases hlt : k < n
    · have i1 : (k : Int) < n := by omega
      have i2 : (k : Int) ≤ c := by omega
      have HK := Lib.hid (show k < ts.length by have := HN.out; omega)
      obtain ⟨bb, o, hA', hbb, h0, h1, h2, h3⟩ := (HA.out.below HB4.out) k HK.out
      subst hA'
      have hB5 : Below wr.heap.size wr (wr.alloc (.cells (tk ts k).arr 63)) := (Below.refl _ _).alloc (Nat.le_refl _) _
      have HO5 := Lib.hid (HO.out.to hB5)
      have hz5q : w.heap.size + 1 ≤ (wr.alloc (.cells (tk ts k).arr 63)).heap.size := Nat.le_trans hzr hB5.size
      have HB5 := Lib.hid (below_to HB4.out hB5); have HZ5 := Lib.hid hz5q; clear hB5 hz5q
      by_cases he : (tk ts k).get 1 = x
      · have HE := Lib.hid he; clear he
        have he' : ((tk ts k).get 1 == x) = true := by simp [HE.out]
        go_wp2_with (at_builtin; refine app_int2 (w.heap.size + 1) rfl (.tmp 24) (.tmp 26) 46 2 rfl Try.underlying46 info2 _ (withL ts 1 x k) k rfl (by simp) rfl HO5.out HZ5.out (by have := withL_len ts 1 x k; omega) ?_; intro v6 w6 hO6 hG _; have HB6 := Lib.hid (grown_below HB5.out hG fun b hb => by have := own_lo HO5.out b hb; omega); have HO6 := Lib.hid hO6; have hz6 : w.heap.size + 1 ≤ w6.heap.size := Nat.le_trans HZ5.out hG.size; clear hG hO6)
        go_roundw
        case rel => exact ⟨HB6.out, hz6, k + 1, by omega, by go_num, by rw [withL_yes HE.out]; exact HO6.out⟩
        case measure => simp [intOf]; omega
      · have HE := Lib.hid he; clear he
        have he' : ((tk ts k).get 1 == x) = false := by simpa using HE.out
        go_wp2_with fail
        go_roundw
        case rel => exact ⟨HB5.out, HZ5.out, k + 1, by omega, by go_num, by rw [withL_no HE.out]; exact HO5.out⟩
        case measure => simp [intOf]; omega
    · have hkn : k = n := by omega
      subst hkn
      go_wp2_with fail
      go_ret
      exact ⟨_, rfl, OW.of (own_base (base := w.heap.size + 1) HO.out (by omega)), HB4.out⟩

set_option maxHeartbeats 4000000 in
set_option maxRecDepth 100000 in
theorem with2_any (C : Int) (A : Option Addr) (ts : List T4) (n c : Nat) (x : Int) (w : World) (hn : n = ts.length) (hA : RT w A ts) (hnc : n ≤ c) (h16 : n ≤ 16) :
    Calls Try.prog 52 #[.agg #[.int .i64 C, .slice A n c], .int .i64 2, .int .i64 x] w fun e w' => ∃ v, e = .returned v ∧ OW w' w.heap.size w'.heap.size 2 1 v (withL ts 2 x n).length (icells (withL ts 2 x n)) ∧ Below w.heap.size w w' := by
  have HA := Lib.hid hA; have HN := Lib.hid hn; clear hA hn
  go_enter Try.func52, Try.ntmps52
  go_wp2_with fail
  refine name2 ?_
  intro W3 b1 b2 hz3 hB3
  have hlit := OI.empty (base := w.heap.size + 1) b2 (by omega)
  have hz4 : w.heap.size + 1 ≤ W3.heap.size := by omega
  have HB3 := Lib.hid hB3
  have a1 : W3.cell? ⟨w.heap.size, 1, none⟩ = some (.slice A n c) := b1.cell rfl
  have l1 := b1.lt
  clear hB3 hz3 b2
  go_wp2_with fail
  go_loopw [7, 14] (fun v i wr => Below w.heap.size w wr ∧ w.heap.size + 1 ≤ wr.heap.size ∧ ∃ k : Nat, k ≤ n ∧ i = .int .i64 k ∧ OI wr (w.heap.size + 1) 2 v (withL ts 2 x k)) (fun _ i _ => n - (intOf i).toNat)
  case atStart => exact ⟨HB3.out, hz4, 0, by omega, rfl, hlit⟩
  case round =>
    obtain ⟨hB, hzr, k, hk, rfl, hO⟩ := hrel
    have HB4 := Lib.hid hB; have HO := Lib.hid hO; clear hB hO hlit a1 l1 b1 hz4
    by_cases hlt : k < n
    · have i1 : (k : Int) < n := by omega
      have i2 : (k : Int) ≤ c := by omega
      have HK := Lib.hid (show k < ts.length by have := HN.out; omega)
      obtain ⟨bb, o, hA', hbb, h0, h1, h2, h3⟩ := (HA.out.below HB4.out) k HK.out
      subst hA'
      have hB5 : Below wr.heap.size wr (wr.alloc (.cells (tk ts k).arr 63)) := (Below.refl _ _).alloc (Nat.le_refl _) _
      have HO5 := Lib.hid (HO.out.to hB5)
      have hz5q : w.heap.size + 1 ≤ (wr.alloc (.cells (tk ts k).arr 63)).heap.size := Nat.le_trans hzr hB5.size
      have HB5 := Lib.hid (below_to HB4.out hB5); have HZ5 := Lib.hid hz5q; clear hB5 hz5q
      by_cases he : (tk ts k).get 2 = x
      · have HE := Lib.hid he; clear he
        have he' : ((tk ts k).get 2 == x) = true := by simp [HE.out]
        go_wp2_with (at_builtin; refine app_int2 (w.heap.size + 1) rfl (.tmp 24) (.tmp 26) 46 2 rfl Try.underlying46 info2 _ (withL ts 2 x k) k rfl (by simp) rfl HO5.out HZ5.out (by have := withL_len ts 2 x k; omega) ?_; intro v6 w6 hO6 hG _; have HB6 := Lib.hid (grown_below HB5.out hG fun b hb => by have := own_lo HO5.out b hb; omega); have HO6 := Lib.hid hO6; have hz6 : w.heap.size + 1 ≤ w6.heap.size := Nat.le_trans HZ5.out hG.size; clear hG hO6)
        go_roundw
        case rel => exact ⟨HB6.out, hz6, k + 1, by omega, by go_num, by rw [withL_yes HE.out]; exact HO6.out⟩
        case measure => simp [intOf]; omega
      · have HE := Lib.hid he; clear he
        have he' : ((tk ts k).get 2 == x) = false := by simpa using HE.out
        go_wp2_with fail
        go_roundw
        case rel => exact ⟨HB5.out, HZ5.out, k + 1, by omega, by go_num, by rw [withL_no HE.out]; exact HO5.out⟩
        case measure => simp [intOf]; omega
    · have hkn : k = n := by omega
      subst hkn
      go_wp2_with fail
      go_ret
      exact ⟨_, rfl, OW.of (own_base (base := w.heap.size + 1) HO.out (by omega)), HB4.out⟩

set_option maxHeartbeats 4000000 in
set_option maxRecDepth 100000 in
theorem with3_any (C : Int) (A : Option Addr) (ts : List T4) (n c : Nat) (x : Int) (w : World) (hn : n = ts.length) (hA : RT w A ts) (hnc : n ≤ c) (h16 : n ≤ 16) :
    Calls Try.prog 52 #[.agg #[.int .i64 C, .slice A n c], .int .i64 3, .int .i64 x] w fun e w' => ∃ v, e = .returned v ∧ OW w' w.heap.size w'.heap.size 2 1 v (withL ts 3 x n).length (icells (withL ts 3 x n)) ∧ Below w.heap.size w w' := by
  have HA := Lib.hid hA; have HN := Lib.hid hn; clear hA hn
  go_enter Try.func52, Try.ntmps52
  go_wp2_with fail
  refine name2 ?_
  intro W3 b1 b2 hz3 hB3
  have hlit := OI.empty (base := w.heap.size + 1) b2 (by omega)
  have hz4 : w.heap.size + 1 ≤ W3.heap.size := by omega
  have HB3 := Lib.hid hB3
  have a1 : W3.cell? ⟨w.heap.size, 1, none⟩ = some (.slice A n c) := b1.cell rfl
  have l1 := b1.lt
  clear hB3 hz3 b2
  go_wp2_with fail
  go_loopw [7, 14] (fun v i wr => Below w.heap.size w wr ∧ w.heap.size + 1 ≤ wr.heap.size ∧ ∃ k : Nat, k ≤ n ∧ i = .int .i64 k ∧ OI wr (w.heap.size + 1) 2 v (withL ts 3 x k)) (fun _ i _ => n - (intOf i).toNat)
  case atStart => exact ⟨HB3.out, hz4, 0, by omega, rfl, hlit⟩
  case round =>
    obtain ⟨hB, hzr, k, hk, rfl, hO⟩ := hrel
    have HB4 := Lib.hid hB; have HO := Lib.hid hO; clear hB hO hlit a1 l1 b1 hz4
    by_cases hlt : k < n
    · have i1 : (k : Int) < n := by omega
      have i2 : (k : Int) ≤ c := by omega
      have HK := Lib.hid (show k < ts.length by have := HN.out; omega)
      obtain ⟨bb, o, hA', hbb, h0, h1, h2, h3⟩ := (HA.out.below HB4.out) k HK.out
      subst hA'
      have hB5 : Below wr.heap.size wr (wr.alloc (.cells (tk ts k).arr 63)) := (Below.refl _ _).alloc (Nat.le_refl _) _
      have HO5 := Lib.hid (HO.out.to hB5)
      have hz5q : w.heap.size + 1 ≤ (wr.alloc (.cells (tk ts k).arr 63)).heap.size := Nat.le_trans hzr hB5.size
      have HB5 := Lib.hid (below_to HB4.out hB5); have HZ5 := Lib.hid hz5q; clear hB5 hz5q
      by_cases he : (tk ts k).get 3 = x
      · have HE := Lib.hid he; clear he
        have he' : ((tk ts k).get 3 == x) = true := by simp [HE.out]
        go_wp2_with (at_builtin; refine app_int2 (w.heap.size + 1) rfl (.tmp 24) (.tmp 26) 46 2 rfl Try.underlying46 info2 _ (withL ts 3 x k) k rfl (by simp) rfl HO5.out HZ5.out (by have := withL_len ts 3 x k; omega) ?_; intro v6 w6 hO6 hG _; have HB6 := Lib.hid (grown_below HB5.out hG fun b hb => by have := own_lo HO5.out b hb; omega); have HO6 := Lib.hid hO6; have hz6 : w.heap.size + 1 ≤ w6.heap.size := Nat.le_trans HZ5.out hG.size; clear hG hO6)
        go_roundw
        case rel => exact ⟨HB6.out, hz6, k + 1, by omega, by go_num, by rw [withL_yes HE.out]; exact HO6.out⟩
        case measure => simp [intOf]; omega
      · have HE := Lib.hid he; clear he
        have he' : ((tk ts k).get 3 == x) = false := by simpa using HE.out
        go_wp2_with fail
        go_roundw
        case rel => exact ⟨HB5.out, HZ5.out, k + 1, by omega, by go_num, by rw [withL_no HE.out]; exact HO5.out⟩
        case measure => simp [intOf]; omega
    · have hkn : k = n := by omega
      subst hkn
      go_wp2_with fail
      go_ret
      exact ⟨_, rfl, OW.of (own_base (base := w.heap.size + 1) HO.out (by omega)), HB4.out⟩

theorem with_met (T : List T4) (t : T4) (s : Nat) : (decide ((withL T ((s + 2) % 4) (t.get s) T.length).length = 0)) = !metT T t s := by
  cases h : metT T t s with
  | true =>
    unfold metT at h
    rw [List.any_eq_true] at h
    obtain ⟨u, hu, e⟩ := h
    obtain ⟨j, hj, rfl⟩ := List.getElem_of_mem hu
    have h1 : (j : Nat) ∈ (List.range T.length).filter (fun j => decide ((tk T j).get ((s + 2) % 4) = t.get s)) := by
      rw [List.mem_filter, List.mem_range]
      exact ⟨hj, by rw [← tk_get hj]; exact e⟩
    have h2 : 0 < (withL T ((s + 2) % 4) (t.get s) T.length).length := by
      unfold withL
      rw [List.length_map]
      exact List.length_pos_of_mem h1
    exact decide_eq_false (by omega)
  | false =>
    refine decide_eq_true ?_
    unfold withL
    rw [List.length_map, List.length_eq_zero_iff, List.filter_eq_nil_iff]
    intro j hj
    rw [List.mem_range] at hj
    unfold metT at h
    rw [List.any_eq_false] at h
    have h2 := h T[j] (List.getElem_mem hj)
    rw [tk_get hj] at h2
    simpa using h2
/-- the tile is bad: a side of it is not met -/
def badK (T : List T4) (t : T4) (k : Nat) : Prop := ∀ j, j < k → metT T t j = true
theorem good_of {T : List T4} {t : T4} (h : badK T t 4) : goodT T t = true := by
  unfold goodT
  rw [h 0 (by omega), h 1 (by omega), h 2 (by omega), h 3 (by omega)]; rfl
theorem bad_of {T : List T4} {t : T4} {k : Nat} (hk : k < 4) (h : metT T t k = false) : goodT T t = false := by
  unfold goodT
  match k, hk with
  | 0, _ => rw [h]; simp
  | 1, _ => rw [h]; simp
  | 2, _ => rw [h]; simp
  | 3, _ => rw [h]; simp
theorem badK_succ {T : List T4} {t : T4} {k : Nat} (h : badK T t k) (hm : metT T t k = true) : badK T t (k + 1) := by
  intro j hj
  by_cases e : j = k
  · subst e; exact hm
  · exact h j (by omega)
theorem ixT0 (a b c d : Int) (w : World) : (Instr.index 63 (Value.agg #[.int .i64 a, .int .i64 b, .int .i64 c, .int .i64 d]) (.int .i64 0)).run Try.prog w = .ok (.int .i64 a) w := by
  simp [Instr.index]; rfl
theorem ixT1 (a b c d : Int) (w : World) : (Instr.index 63 (Value.agg #[.int .i64 a, .int .i64 b, .int .i64 c, .int .i64 d]) (.int .i64 1)).run Try.prog w = .ok (.int .i64 b) w := by
  simp [Instr.index]; rfl
theorem ixT2 (a b c d : Int) (w : World) : (Instr.index 63 (Value.agg #[.int .i64 a, .int .i64 b, .int .i64 c, .int .i64 d]) (.int .i64 2)).run Try.prog w = .ok (.int .i64 c) w := by
  simp [Instr.index]; rfl
theorem ixT3 (a b c d : Int) (w : World) : (Instr.index 63 (Value.agg #[.int .i64 a, .int .i64 b, .int .i64 c, .int .i64 d]) (.int .i64 3)).run Try.prog w = .ok (.int .i64 d) w := by
  simp [Instr.index]; rfl
set_option maxHeartbeats 2000000 in
set_option maxRecDepth 100000 in
theorem trim1_any (C : Int) (A : Option Addr) (T : List T4) (n c B : Nat) (t : T4) (w : World) (hn : n = T.length) (hA : RT w A T) (hnc : n ≤ c) (h16 : n ≤ 16) (hb : BK w B #[.int .i64 C, .slice A n c] 32) :
    Calls Try.prog 51 #[.agg t.arr, .pointer (some ⟨B, 0, none⟩)] w fun e w' => e = .returned (.bool (!goodT T t)) ∧ Below w.heap.size w w' := by
  have HA := Lib.hid hA; have HN := Lib.hid hn; have HBB := Lib.hid hb; clear hA hn hb
  go_enter Try.func51, Try.ntmps51
  go_upto_region 1 with fail
  refine name1 ?_
  intro W1 b1 hz hb0
  have z0 : W1.cell? ⟨w.heap.size, 0, none⟩ = some (.int .i64 (t.get 0)) := b1.cell rfl
  have z1 : W1.cell? ⟨w.heap.size, 1, none⟩ = some (.int .i64 (t.get 1)) := b1.cell rfl
  have z2 : W1.cell? ⟨w.heap.size, 2, none⟩ = some (.int .i64 (t.get 2)) := b1.cell rfl
  have z3 : W1.cell? ⟨w.heap.size, 3, none⟩ = some (.int .i64 (t.get 3)) := b1.cell rfl
  have l1 := b1.lt
  have HB0 := Lib.hid hb0
  clear b1 hz hb0
  go_wp2_with fail
  go_loopw [7] (fun i wr => Below w.heap.size w wr ∧ ∃ k : Nat, k ≤ 4 ∧ i = .int .i64 k ∧ badK T t k) (fun i _ => 4 - (intOf i).toNat)
  case atStart => exact ⟨HB0.out, 0, by omega, rfl, fun j h => absurd h (by omega)⟩
  case round =>
    obtain ⟨hB, k, hk, rfl, hall⟩ := hrel
    have hbk := HBB.out.below hB HBB.out.lt
    have a0 : wr.cell? ⟨B, 0, none⟩ = some (.int .i64 C) := hbk.cell rfl
    have a1 : wr.cell? ⟨B, 1, none⟩ = some (.slice A n c) := hbk.cell rfl
    have la := hbk.lt
    have HB := Lib.hid hB; have HALL := Lib.hid hall
    clear hB hall hbk
    match k, hk with
    | 0, _ =>
      cases hm : metT T t 0 with
      | true =>
        have hw := with_met T t 0
        rw [hm] at hw
        have hz9 : (decide ((withL T 2 (t.get 0) n).length = 0)) = false := by rw [HN.out]; exact hw
        have HM := Lib.hid hm
        have IX := fun w_ => ixT0 (t.get 0) (t.get 1) (t.get 2) (t.get 3) w_
        clear hw hm
        go_wp2_with fail
        refine (with2_any C A T n c (t.get 0) wr HN.out (HA.out.below HB.out) hnc h16).mono ?_
        rintro e w2 ⟨v, rfl, hO, hb2⟩
        obtain ⟨n9, hn9⟩ : ∃ q, q = (withL T 2 (t.get 0) n).length := ⟨_, rfl⟩
        rw [← hn9] at hO hz9
        obtain ⟨A9, c9, e9, -⟩ := OW.form hO
        subst e9
        have g9 : ¬ n9 = 0 := of_decide_eq_false hz9
        have g8 : ((n9 : Int) == 0) = false := by simp; omega
        have HB2 := Lib.hid (below_to HB.out hb2)
        clear hO hb2 hn9 hz9 a0 a1 la z0 z1 z2 z3 l1 IX
        go_wp2_with fail
        go_roundw
        case rel => exact ⟨HB2.out, 0 + 1, by omega, by go_num, badK_succ HALL.out HM.out⟩
        case measure => simp [intOf]
      | false =>
        have hw := with_met T t 0
        rw [hm] at hw
        have hz9 : (decide ((withL T 2 (t.get 0) n).length = 0)) = true := by rw [HN.out]; exact hw
        have HM := Lib.hid hm
        have IX := fun w_ => ixT0 (t.get 0) (t.get 1) (t.get 2) (t.get 3) w_
        clear hw hm
        go_wp2_with fail
        refine (with2_any C A T n c (t.get 0) wr HN.out (HA.out.below HB.out) hnc h16).mono ?_
        rintro e w2 ⟨v, rfl, hO, hb2⟩
        obtain ⟨n9, hn9⟩ : ∃ q, q = (withL T 2 (t.get 0) n).length := ⟨_, rfl⟩
        rw [← hn9] at hO hz9
        obtain ⟨A9, c9, e9, -⟩ := OW.form hO
        subst e9
        have g9 : n9 = 0 := of_decide_eq_true hz9
        subst g9
        have HB2 := Lib.hid (below_to HB.out hb2)
        clear hO hb2 hn9 hz9 a0 a1 la z0 z1 z2 z3 l1 IX
        go_wp2_with fail
        go_ret
        exact ⟨by rw [bad_of (by omega) HM.out]; rfl, HB2.out⟩
    | 1, _ =>
      cases hm : metT T t 1 with
      | true =>
        have hw := with_met T t 1
        rw [hm] at hw
        have hz9 : (decide ((withL T 3 (t.get 1) n).length = 0)) = false := by rw [HN.out]; exact hw
        have HM := Lib.hid hm
        have IX := fun w_ => ixT1 (t.get 0) (t.get 1) (t.get 2) (t.get 3) w_
        clear hw hm
        go_wp2_with fail
        refine (with3_any C A T n c (t.get 1) wr HN.out (HA.out.below HB.out) hnc h16).mono ?_
        rintro e w2 ⟨v, rfl, hO, hb2⟩
        obtain ⟨n9, hn9⟩ : ∃ q, q = (withL T 3 (t.get 1) n).length := ⟨_, rfl⟩
        rw [← hn9] at hO hz9
        obtain ⟨A9, c9, e9, -⟩ := OW.form hO
        subst e9
        have g9 : ¬ n9 = 0 := of_decide_eq_false hz9
        have g8 : ((n9 : Int) == 0) = false := by simp; omega
        have HB2 := Lib.hid (below_to HB.out hb2)
        clear hO hb2 hn9 hz9 a0 a1 la z0 z1 z2 z3 l1 IX
        go_wp2_with fail
        go_roundw
        case rel => exact ⟨HB2.out, 1 + 1, by omega, by go_num, badK_succ HALL.out HM.out⟩
        case measure => simp [intOf]
      | false =>
        have hw := with_met T t 1
        rw [hm] at hw
        have hz9 : (decide ((withL T 3 (t.get 1) n).length = 0)) = true := by rw [HN.out]; exact hw
        have HM := Lib.hid hm
        have IX := fun w_ => ixT1 (t.get 0) (t.get 1) (t.get 2) (t.get 3) w_
        clear hw hm
        go_wp2_with fail
        refine (with3_any C A T n c (t.get 1) wr HN.out (HA.out.below HB.out) hnc h16).mono ?_
        rintro e w2 ⟨v, rfl, hO, hb2⟩
        obtain ⟨n9, hn9⟩ : ∃ q, q = (withL T 3 (t.get 1) n).length := ⟨_, rfl⟩
        rw [← hn9] at hO hz9
        obtain ⟨A9, c9, e9, -⟩ := OW.form hO
        subst e9
        have g9 : n9 = 0 := of_decide_eq_true hz9
        subst g9
        have HB2 := Lib.hid (below_to HB.out hb2)
        clear hO hb2 hn9 hz9 a0 a1 la z0 z1 z2 z3 l1 IX
        go_wp2_with fail
        go_ret
        exact ⟨by rw [bad_of (by omega) HM.out]; rfl, HB2.out⟩
    | 2, _ =>
      cases hm : metT T t 2 with
      | true =>
        have hw := with_met T t 2
        rw [hm] at hw
        have hz9 : (decide ((withL T 0 (t.get 2) n).length = 0)) = false := by rw [HN.out]; exact hw
        have HM := Lib.hid hm
        have IX := fun w_ => ixT2 (t.get 0) (t.get 1) (t.get 2) (t.get 3) w_
        clear hw hm
        go_wp2_with fail
        refine (with0_any C A T n c (t.get 2) wr HN.out (HA.out.below HB.out) hnc h16).mono ?_
        rintro e w2 ⟨v, rfl, hO, hb2⟩
        obtain ⟨n9, hn9⟩ : ∃ q, q = (withL T 0 (t.get 2) n).length := ⟨_, rfl⟩
        rw [← hn9] at hO hz9
        obtain ⟨A9, c9, e9, -⟩ := OW.form hO
        subst e9
        have g9 : ¬ n9 = 0 := of_decide_eq_false hz9
        have g8 : ((n9 : Int) == 0) = false := by simp; omega
        have HB2 := Lib.hid (below_to HB.out hb2)
        clear hO hb2 hn9 hz9 a0 a1 la z0 z1 z2 z3 l1 IX
        go_wp2_with fail
        go_roundw
        case rel => exact ⟨HB2.out, 2 + 1, by omega, by go_num, badK_succ HALL.out HM.out⟩
        case measure => simp [intOf]
      | false =>
        have hw := with_met T t 2
        rw [hm] at hw
        have hz9 : (decide ((withL T 0 (t.get 2) n).length = 0)) = true := by rw [HN.out]; exact hw
        have HM := Lib.hid hm
        have IX := fun w_ => ixT2 (t.get 0) (t.get 1) (t.get 2) (t.get 3) w_
        clear hw hm
        go_wp2_with fail
        refine (with0_any C A T n c (t.get 2) wr HN.out (HA.out.below HB.out) hnc h16).mono ?_
        rintro e w2 ⟨v, rfl, hO, hb2⟩
        obtain ⟨n9, hn9⟩ : ∃ q, q = (withL T 0 (t.get 2) n).length := ⟨_, rfl⟩
        rw [← hn9] at hO hz9
        obtain ⟨A9, c9, e9, -⟩ := OW.form hO
        subst e9
        have g9 : n9 = 0 := of_decide_eq_true hz9
        subst g9
        have HB2 := Lib.hid (below_to HB.out hb2)
        clear hO hb2 hn9 hz9 a0 a1 la z0 z1 z2 z3 l1 IX
        go_wp2_with fail
        go_ret
        exact ⟨by rw [bad_of (by omega) HM.out]; rfl, HB2.out⟩
    | 3, _ =>
      cases hm : metT T t 3 with
      | true =>
        have hw := with_met T t 3
        rw [hm] at hw
        have hz9 : (decide ((withL T 1 (t.get 3) n).length = 0)) = false := by rw [HN.out]; exact hw
        have HM := Lib.hid hm
        have IX := fun w_ => ixT3 (t.get 0) (t.get 1) (t.get 2) (t.get 3) w_
        clear hw hm
        go_wp2_with fail
        refine (with1_any C A T n c (t.get 3) wr HN.out (HA.out.below HB.out) hnc h16).mono ?_
        rintro e w2 ⟨v, rfl, hO, hb2⟩
        obtain ⟨n9, hn9⟩ : ∃ q, q = (withL T 1 (t.get 3) n).length := ⟨_, rfl⟩
        rw [← hn9] at hO hz9
        obtain ⟨A9, c9, e9, -⟩ := OW.form hO
        subst e9
        have g9 : ¬ n9 = 0 := of_decide_eq_false hz9
        have g8 : ((n9 : Int) == 0) = false := by simp; omega
        have HB2 := Lib.hid (below_to HB.out hb2)
        clear hO hb2 hn9 hz9 a0 a1 la z0 z1 z2 z3 l1 IX
        go_wp2_with fail
        go_roundw
        case rel => exact ⟨HB2.out, 3 + 1, by omega, by go_num, badK_succ HALL.out HM.out⟩
        case measure => simp [intOf]
      | false =>
        have hw := with_met T t 3
        rw [hm] at hw
        have hz9 : (decide ((withL T 1 (t.get 3) n).length = 0)) = true := by rw [HN.out]; exact hw
        have HM := Lib.hid hm
        have IX := fun w_ => ixT3 (t.get 0) (t.get 1) (t.get 2) (t.get 3) w_
        clear hw hm
        go_wp2_with fail
        refine (with1_any C A T n c (t.get 3) wr HN.out (HA.out.below HB.out) hnc h16).mono ?_
        rintro e w2 ⟨v, rfl, hO, hb2⟩
        obtain ⟨n9, hn9⟩ : ∃ q, q = (withL T 1 (t.get 3) n).length := ⟨_, rfl⟩
        rw [← hn9] at hO hz9
        obtain ⟨A9, c9, e9, -⟩ := OW.form hO
        subst e9
        have g9 : n9 = 0 := of_decide_eq_true hz9
        subst g9
        have HB2 := Lib.hid (below_to HB.out hb2)
        clear hO hb2 hn9 hz9 a0 a1 la z0 z1 z2 z3 l1 IX
        go_wp2_with fail
        go_ret
        exact ⟨by rw [bad_of (by omega) HM.out]; rfl, HB2.out⟩
    | 4, _ =>
      go_wp2_with fail
      go_ret
      exact ⟨by rw [good_of HALL.out]; rfl, HB.out⟩
set_option maxHeartbeats 1000000 in
theorem IndexFuncT_any (A : Option Addr) (xs : List T4) (n c : Nat) (g : FuncId) (cap : Array Value) (p : T4 → Bool) (w : World) (hn : n = xs.length) (hA : RT w A xs) (hl : n ≤ 35184372088832)
    (eg : ∀ args w, (callFunc g args).run Try.prog w = .ok (.enter g args) w) (hp : PredT Try.prog g cap p w) :
    Calls Try.prog 50 #[.slice A n c, .func (.func g) #[] cap] w fun e w' => e = .returned (.int .i64 (idxL p xs)) ∧ Below w.heap.size w w' := by
  have HA := Lib.hid hA; have HN := Lib.hid hn; have HP := Lib.hid hp; clear hA hn hp
  go_enter Try.func50, Try.ntmps50
  go_wp2_with fail
  go_loopw [8] (fun i wr => Below w.heap.size w wr ∧ ∃ k : Nat, k ≤ n ∧ i = .int .i64 k ∧ ∀ j (hj : j < xs.length), j < k → p xs[j] = false) (fun i _ => n - (intOf i).toNat)
  case atStart => exact ⟨Below.refl _ _, 0, by omega, rfl, fun j _ h => absurd h (by omega)⟩
  case round =>
    obtain ⟨hB, k, hk, rfl, hall⟩ := hrel
    have hT := HA.out.below hB
    have HB := Lib.hid hB; have HALL := Lib.hid hall; clear hB hall
    by_cases hlt : k < n
    · have i1 : (k : Int) < n := by omega
      have HK := Lib.hid (show k < xs.length by have := HN.out; omega)
      obtain ⟨b, o, rfl, hb, h0, h1, h2, h3⟩ := hT k HK.out
      clear hT
      cases hpk : p (tk xs k)
      · have HX := Lib.hid hpk; clear hpk
        go_wp2_with fail
        refine (HP.out wr (tk xs k) HB.out).mono ?_
        rintro e w1 ⟨rfl, hB1⟩
        rw [HX.out]
        have HB1 := Lib.hid hB1; clear hB1
        go_wp2_with fail
        go_roundw
        case rel => exact ⟨below_to HB.out HB1.out, k + 1, by omega, by go_num, fun j hj hj' => by
            by_cases e : j = k
            · subst e; rw [tk_get]; exact HX.out
            · exact HALL.out j hj (by omega)⟩
        case measure => simp [intOf]; omega
      · have HX := Lib.hid hpk; clear hpk
        go_wp2_with fail
        refine (HP.out wr (tk xs k) HB.out).mono ?_
        rintro e w1 ⟨rfl, hB1⟩
        rw [HX.out]
        have HB1 := Lib.hid hB1; clear hB1
        go_wp2_with fail
        go_ret
        exact ⟨ret_int (idxL_at HK.out HALL.out (by rw [tk_get]; exact HX.out)), below_to HB.out HB1.out⟩
    · go_wp2_with fail
      go_ret
      exact ⟨ret_int (idxL_none fun j hj => HALL.out j hj (by have := HN.out; omega)), HB.out⟩
end Go.Proofs.Ytgdmflmglkakgaa

/-
  Parts of the proof, in their order: Repeat, QImplFreePlan, QImplFreePlan2, PFree.
-/
import Derived.Test.YtcaikaflpmaocaaPk8
import Derived.Test.YtcaikaflpmaocaaPk7
import Derived.Laws.CopyOwn
import Derived.Deep.RegionLaw
import Derived.Outline
namespace Go.Proofs.Ytcaikaflpmaocaa
open Go Go.RowKit Go.Proofs Go.Proofs.YtcaikaflpmaocaaW.PrintWords Go.Proofs.YtcaikaflpmaocaaW.PrintLast Go.Proofs.Ytcaikaflpmaocaa.Q
set_option linter.unusedVariables false
set_option linter.unusedSimpArgs false
theorem R_of_OI {w : World} {base : Nat} {e : TypeId} {v : Value} {xs : List Int} (h : OI w base e v xs) : Kd.R (Kd.int .i64) e w base (fun _ => True) v xs := by
  refine ⟨fun _ _ => trivial, icells xs, h, by rw [icells_length]; exact (Nat.mul_one _).symm, fun j p hp => ?_⟩
  have hj := (List.getElem?_eq_some_iff.1 hp).1
  have e1 : (Kd.int IntKind.i64).sz = 1 := rfl
  have hc : (icells xs)[j]? = some (.int .i64 p) := by rw [icells, List.getElem?_map, hp]; rfl
  have hl : j < (icells xs).length := by rw [icells_length]; exact hj
  rw [e1, Nat.mul_one, List.drop_eq_getElem_cons hl, List.take_succ_cons, List.take_zero]
  rw [List.getElem?_eq_getElem hl] at hc
  have := Option.some.inj hc
  show [_] = [_]
  rw [this]
theorem mul_small (m : Nat) (h1 : 1 ≤ m) (h6 : m ≤ 6) : bits_Mul.f 1 (m : Int) = some (0, (m : Int)) := by
  have : m = 1 ∨ m = 2 ∨ m = 3 ∨ m = 4 ∨ m = 5 ∨ m = 6 := by omega
  rcases this with rfl | rfl | rfl | rfl | rfl | rfl <;> decide
theorem add_min {k m : Nat} (h : k ≤ m) : k + Nat.min k (m - k) ≤ m := by
  have h2 : Nat.min k (m - k) ≤ m - k := Nat.min_le_right k (m - k)
  generalize Nat.min k (m - k) = q at h2
  omega
theorem sub_min {k m : Nat} (h1 : 1 ≤ k) (h : k < m) : m - (((k + Nat.min k (m - k) : Nat) : Int)).toNat < m - ((k : Int)).toNat := by
  have h2 : 1 ≤ Nat.min k (m - k) := Nat.le_min.2 ⟨h1, by omega⟩
  generalize Nat.min k (m - k) = q at h2
  simp only [Int.toNat_natCast]
  omega
theorem splice_rep (L : List Value) (k n : Nat) (v : Value) (hx : ∀ j, j < k → L[j]? = some v) (hk : k ≤ L.length) : ∀ j, j < k + n → (splice L k (List.replicate n v))[j]? = some v := by
  intro j hj
  unfold splice
  by_cases h : j < k
  · rw [List.getElem?_append_left (by rw [List.length_take, Nat.min_eq_left hk]; exact h), List.getElem?_take_of_lt h]
    exact hx j h
  · simp [List.getElem?_append, List.getElem?_replicate, h, List.length_take, Nat.min_eq_left hk, show j - k < n by omega]
set_option maxHeartbeats 4000000 in
set_option maxRecDepth 100000 in
theorem RepeatI_any (x : Int) (A : Option Addr) (c m : Nat) (w : World) (hA : RI w A [x]) (hc : 1 ≤ c) (h1 : 1 ≤ m) (h6 : m ≤ 6) :
    Calls Try.prog 66 #[.slice A 1 c, .int .i64 m] w fun e w' => ∃ v, e = .returned v ∧ Kd.R (Kd.int .i64) 2 w' w.heap.size (fun _ => True) v (List.replicate m x) ∧ Below w.heap.size w w' := by
  obtain ⟨b, o, rfl, hb, hcell⟩ := hA 0 (by simp)
  simp only [Nat.add_zero, show ik [x] 0 = x from rfl] at hcell
  have HM := Lib.hid (mul_small m h1 h6)
  have n0 : ¬ (m : Int) < 0 := by omega
  have m0 : (0 : Int) ≤ (m : Int) := by omega
  have m6 : (m : Int) ≤ 6 := by omega
  clear hA
  go_enter Try.func66, Try.ntmps66
  have HT := Lib.hid (show ((m : Int)).toNat ≤ 35184372088832 by omega)
  go_wp2_with (first | (go_at_call 87; refine (bits_Mul.calls 1 (m : Int) 0 (m : Int) _ HM.out).mono ?_; rintro e w' ⟨rfl, ⟨nd, rfl⟩⟩) | ((with_reducible refine gate_dst (N := 30) rfl ?_); refine Kd.R_make (Kd.int .i64) _ 2 rfl (N := 30) rfl 56 _ _ rfl (m : Int) rfl rfl Try.underlying56 (.int .i64 0) 8 info2 rfl (by decide) (by omega) 0 (ok := fun _ => True) (okp := fun _ => True) rfl (fun _ hk => hk) trivial m0 (Nat.le_trans (Nat.mul_le_mul_right _ HT.out) (by omega)) (Below.refl _ _) (Nat.le_refl _) ?_; intro v w2 ho hbb hg_ hnew_; clear hg_ hnew_; obtain ⟨inner, ho2⟩ := Kd.R_own ho; clear ho; rw [List.length_replicate, Int.toNat_natCast] at ho2; obtain ⟨hl0, hown⟩ := ho2; clear hl0; obtain ⟨g, cap, cur, rfl, hg, hcur, hcap, hcm, hsz, -⟩ := hown.resolve_left (by rintro ⟨-, h0⟩; omega); clear hown; have HS := Lib.hid (show cur.size = cap by simpa using hsz.trans (Nat.mul_one _)); clear hsz; have HB := Lib.hid (show Below w.heap.size w w2 from (pw_below_drewN (Below.refl w.heap.size w) nd).trans hbb); have HC := Lib.hid hcur; clear hbb hcur; have HG := Lib.hid hg; clear hg) | (refine wpList_copy_splice (w := w2) rfl (.tmp 31) (.tmp 32) 56 56 rfl 2 Try.underlying56 rfl (some ⟨g, 0, none⟩) (some ⟨b, o, none⟩) m cap 1 c rfl rfl g 0 cur.toList 2 HC.out [.int .i64 x] (by simp [Nat.min_def]; omega) (fun _ => ⟨rfl, _, rfl, by intro j v hv; match j, hv with | 0, hv => (have hv2 : Value.int .i64 x = v := by simpa using hv); subst hv2; rw [show (⟨b, o, none⟩ : Addr).add 0 = ⟨b, o, none⟩ from rfl]; exact (HB.out.cell (p := ⟨b, o, none⟩) hb).trans hcell | j + 1, hv => simp at hv⟩) (by have := HS.out; simp; omega) (by simp [Value.oneCell']) w.heap.size w HB.out (by have := HG.out; simpa using this) ?_; intro w3 hg3 hB3; have HL := Lib.hid (show (splice cur.toList 0 [Value.int .i64 x]).length = cap by rw [length_splice _ _ _ (by have := HS.out; simp; omega)]; have := HS.out; simpa using this); have HX := Lib.hid (show ∀ j, j < 1 → (splice cur.toList 0 [Value.int .i64 x])[j]? = some (.int .i64 x) by intro j hj; obtain rfl : j = 0 := (Nat.lt_one_iff.1 hj); simp [splice]); have HB3 := Lib.hid hB3; clear HB HC hB3))
  have hg0 : w.heap.size ≤ g := by have := HG.out; simpa using this
  clear HG HM HT
  go_loopw [8] (fun n wr => Below w.heap.size w wr ∧ ∃ (k : Nat) (L : List Value), n = .int .i64 k ∧ 1 ≤ k ∧ k ≤ m ∧ L.length = cap ∧ (∀ j, j < k → L[j]? = some (.int .i64 x)) ∧ wr.heap[g]? = some (.cells L.toArray 2 (0, 0))) (fun n _ => m - (intOf n).toNat)
  case atStart => exact ⟨HB3.out, 1, _, rfl, Nat.le_refl _, h1, HL.out, HX.out, hg3.out⟩
  case round =>
    obtain ⟨hB, k, L, rfl, hk1, hkm, hL, hx, hg⟩ := hrel
    have HB := Lib.hid hB; have HLL := Lib.hid hL; have HXX := Lib.hid hx; have HGG := Lib.hid hg; clear hB hL hx hg
    by_cases hlt : k < m
    · have i1 : (k : Int) < (m : Int) := by omega
      have i2 : ¬ cap = k := by omega
      have i3 : k ≤ cap := by omega
      go_wp2_with fail
      have HCS := Lib.hid (show (List.replicate (Nat.min k (m - k)) (Value.int .i64 x)).length = Nat.min k (m - k) by simp)
      have HG2 := Lib.hid (show BK wr.drew g L.toArray 2 from HGG.out)
      have HB2 := Lib.hid (HB.out.drew)
      have HP := Lib.hid (show 0 < (List.replicate (Nat.min k (m - k)) (Value.int .i64 x)).length → some (⟨g, k, none⟩ : Addr) = some ⟨g, k, none⟩ ∧ ∃ ad, some (⟨g, 0, none⟩ : Addr) = some ad ∧ ∀ j v, (List.replicate (Nat.min k (m - k)) (Value.int .i64 x))[j]? = some v → wr.drew.cell? (ad.add j) = some v from
        fun _ => ⟨rfl, _, rfl, fun j v hv => by
          rw [List.getElem?_replicate] at hv
          split at hv
          · rename_i hj
            obtain rfl := Option.some.inj hv
            have hjk : j < k := Nat.lt_of_lt_of_le hj (Nat.min_le_left _ _)
            have e1 : (⟨g, 0, none⟩ : Addr).add j = ⟨g, j, none⟩ := by rcases j with _ | j; rfl; simp [Addr.add]
            rw [e1]
            exact HG2.out.cell (by simpa using HXX.out j hjk)
          · cases hv⟩)
      have HF := Lib.hid (show k + (List.replicate (Nat.min k (m - k)) (Value.int .i64 x)).length ≤ L.length by
        have e2 := HLL.out
        have e3 : Nat.min k (m - k) ≤ m - k := Nat.min_le_right _ _
        rw [List.length_replicate, e2]
        omega)
      have H1 := Lib.hid (show ∀ v ∈ List.replicate (Nat.min k (m - k)) (Value.int .i64 x), v.oneCell' = true from fun v hv => by obtain rfl := List.eq_of_mem_replicate hv; rfl)
      go_region_law (refine step_copy_splice (by kernel_rfl) (.tmp 41) (.tmp 44) 56 56 (by kernel_rfl) 2 Try.underlying56 (by kernel_rfl) (some ⟨g, k, none⟩) (some ⟨g, 0, none⟩) (m - k) (cap - k) k cap (by kernel_rfl) (by kernel_rfl) g k L 2 HG2.out (List.replicate (Nat.min k (m - k)) (Value.int .i64 x)) HCS.out HP.out HF.out H1.out w.heap.size w HB2.out hg0 ?_; intro w4 hg4 hB4)
      have e5 : IntKind.i64.wrap ((k : Int) + ((Nat.min k (m - k) : Nat) : Int)) = ((k + Nat.min k (m - k) : Nat) : Int) := by
        have e3 : Nat.min k (m - k) ≤ m - k := Nat.min_le_right _ _
        rw [IntWalk.i64_in _ (by omega)]
        omega
      rw [e5]
      have HR4 := Lib.hid hg4
      clear hg4
      refine ⟨⟨_, _, _, _, _, _, _, _, _, _, _, _, _, _, ⟨hB4, k + Nat.min k (m - k), _, rfl, Nat.le_trans hk1 (Nat.le_add_right _ _), add_min hkm, (length_splice _ _ _ HF.out).trans HLL.out, splice_rep L k _ _ HXX.out (by have := HLL.out; omega), HR4.out.out⟩, rfl⟩, ?_⟩
      show m - (((k + Nat.min k (m - k) : Nat) : Int)).toNat < m - ((k : Int)).toNat
      exact sub_min hk1 hlt
    · have hkm2 : k = m := by omega
      have i1 : ¬ (k : Int) < (m : Int) := by omega
      go_wp2_with fail
      go_ret
      have hbk : BK wr g L.toArray 2 := HGG.out
      refine ⟨_, rfl, ?_, HB.out⟩
      have hO := OI.of_block hbk (base := w.heap.size) (xs := List.replicate m x) (cap := cap) hg0 (by simpa using HLL.out) (by simpa using hcap) (by unfold maxLen at hcm; omega) (fun q hq => by
        rw [List.length_replicate] at hq
        have := HXX.out q (by omega)
        simp [ik, List.getD_eq_getElem?_getD, List.getElem?_replicate, hq]
        simpa using this)
      rw [List.length_replicate] at hO
      exact R_of_OI hO
end Go.Proofs.Ytcaikaflpmaocaa
namespace Go.Proofs.Ytcaikaflpmaocaa.Q
open Go Go.RowKit Go.Proofs Go.Proofs.YtcaikaflpmaocaaW.PrintWords Go.Proofs.Ytcaikaflpmaocaa
def slices_Repeat_int64_int64.f (l0 : List Int) (a1 : Int) : Option (List Int) :=
  match l0 with
  | [x] => if 1 ≤ a1 ∧ a1 ≤ 6 then some (List.replicate a1.toNat x) else none
  | _ => none
theorem slices_Repeat_int64_int64.calls (A0 : Option Addr) (c0 : Nat) (l0 : List Int) (a1 : Int) (r : List Int) (w : World) (hr0 : Kd.C (Kd.int .i64) w A0 l0.length l0) (hc0 : l0.length ≤ c0) (h : slices_Repeat_int64_int64.f l0 a1 = some r) :
    Calls Try.prog 66 #[.slice A0 l0.length c0, .int .i64 a1] w fun e w' => ∃ v, e = .returned v ∧ Kd.R (Kd.int .i64) 2 w' w.heap.size (fun _ => True) v r ∧ Below w.heap.size w w' := by
  match l0, hr0, hc0, h with
  | [x], hr0, hc0, h =>
    unfold slices_Repeat_int64_int64.f at h
    simp only at h
    split at h
    · rename_i hq
      obtain rfl := Option.some.inj h
      obtain ⟨m, rfl⟩ := Int.eq_ofNat_of_zero_le (show 0 ≤ a1 by omega)
      exact RepeatI_any x A0 c0 m w (ri_of_C hr0) hc0 (by omega) (by omega)
    · cases h
  | [], _, _, h => cases h
  | _ :: _ :: _, _, _, h => cases h
end Go.Proofs.Ytcaikaflpmaocaa.Q
namespace Go.Proofs.Ytcaikaflpmaocaa.Q
open Go.RowKit Go.Proofs.YtcaikaflpmaocaaW.PrintWords Go.Proofs.YtcaikaflpmaocaaW.PrintLast Go.Proofs.YtcaikaflpmaocaaW.PrintMore
attribute [local go_sem] max2_int min2_int max_two min_two max_three min_three max_four min_four
set_option linter.unusedVariables false
set_option linter.unusedSimpArgs false
def impl_freePlan.l0 : Nat → Int → List (List Int) → Int → Int → Option ((List (List Int)))
 | 0, _, _, _, _ => none
 | k + 1, x1, x5, x7, x8 => if x8 < x7 then ((slices_Repeat_int64_int64.f (([(-1)] : List Int)) x1).bind fun t126 => (if x5.length < 5864062014805 then (impl_freePlan.l0 k x1 (x5 ++ [t126]) x7 (wrap64 (x8 + 1))) else (none))) else (some x5)
def impl_freePlan.f (k : Nat) (a0 : Int) (a1 : Int) : Option ((List (List Int))) := impl_freePlan.l0 k a1 (([] : List (List Int))) a0 0
theorem impl_freePlan.mono_l : ∀ k, (∀ y0 y1 y2 y3, LeO (impl_freePlan.l0 k y0 y1 y2 y3) (impl_freePlan.l0 (k + 1) y0 y1 y2 y3))
 | 0 => fun _ _ _ _ r h => by simp [impl_freePlan.l0] at h
 | k + 1 => by
  have ih0 := impl_freePlan.mono_l k
  ·intro y0 y1 y2 y3
   unfold impl_freePlan.l0
   repeat' first
   | (with_reducible exact ih0 _ _ _ _)
   | (with_reducible exact LeO.refl _)
   | (with_reducible exact LeO.none _)
   | (with_reducible refine LeO.ite ?_ ?_)
   | (with_reducible refine LeO.bind ?_ (fun _ => ?_))
   | exact ih0 _ _ _ _
   | exact LeO.none _
   | refine LeO.ite ?_ ?_
   | refine LeO.bind ?_ (fun _ => ?_)
theorem impl_freePlan.mono : ∀ a0 a1 k, LeO (impl_freePlan.f k a0 a1) (impl_freePlan.f (k + 1) a0 a1) := by
 intro a0 a1 k
 have ih0 := impl_freePlan.mono_l k
 unfold impl_freePlan.f
 repeat' first
   | (with_reducible exact ih0 _ _ _ _)
   | (with_reducible exact LeO.refl _)
   | (with_reducible exact LeO.none _)
   | (with_reducible refine LeO.ite ?_ ?_)
   | (with_reducible refine LeO.bind ?_ (fun _ => ?_))
   | exact ih0 _ _ _ _
   | exact LeO.none _
   | refine LeO.ite ?_ ?_
   | refine LeO.bind ?_ (fun _ => ?_)
set_option maxHeartbeats 8000000 in
set_option maxRecDepth 100000 in
theorem impl_freePlan.calls (k : Nat) (a0 : Int) (a1 : Int) (r : List (List Int)) (w : World) (h : impl_freePlan.f k a0 a1 = some r) :
  Calls Try.prog 39 #[.int .i64 a0, .int .i64 a1] w fun e w' => ∃ v0_ : Value, e = .returned (v0_) ∧ Kd.S (Kd.slice 2 (Kd.int .i64)) 56 w' w.heap.size (fun _ => True) v0_ r ∧ Below w.heap.size w w' := by
 have HB := Aside0.mk (Below.refl w.heap.size w)
 have H : (impl_freePlan.l0 k a1 (([] : List (List Int))) a0 0) = some r := h
 clear h
 obtain ⟨y120, hy120⟩ : ∃ y_ : List (List Int), y_ = (([] : List (List Int))) := ⟨_, rfl⟩
 replace H : (impl_freePlan.l0 k a1 y120 a0 0) = some r := by first | (rw [hy120]; with_reducible exact H) | (have H2_ := (Option.bind_some _ _).symm.trans H; rw [hy120]; with_reducible exact H2_) | (have H2_ := (Option.bind_some _ _).symm.trans H; with_reducible exact H2_) | with_reducible exact H | (rw [hy120]; exact H) | exact H
 have Ny120 := Aside0.mk hy120
 clear hy120
 have H' := Aside0.mk H
 clear H
 go_enter Try.func39, Try.ntmps39
 go_wp2_with (first | ((with_reducible refine gate_dst (N := 6) rfl ?_); refine Kd.S_lit (Kd.slice 2 (Kd.int .i64)) _ 56 ?hg (N := 6) ?hd (xs := ([] : List (List Int))) (inner := []) (ok := fun _ => True) (okp := fun _ => True) ?hr ?hp (fun _ hk => hk) trivial (Below.refl _ _) (Nat.le_refl _) (by simp) ?_; (case hd => rfl); (case hg => rfl); (case hr => first | (go_simp; done) | (go_simp; rfl)); (case hp => exact (Reps.none _ _)); intro v121 w3 ho4 hb hg_ hnew_; clear hg_ hnew_; (first | rw [← Ny120.out] at ho4 | (simp only [Int.reduceToNat] at ho4; rw [← Ny120.out] at ho4)); have n0_ := Aside0.mk (Kd.S_lower ho4 (below_size (by repeat (first | (with_reducible first | exact HB.out | apply below_alloc | apply pw_below_drewN | apply below_drew1) | exact HB.out)))); have n1_ := Aside0.mk (below_step (by repeat (first | (with_reducible first | exact HB.out | apply below_alloc | apply pw_below_drewN | apply below_drew1) | exact HB.out)) hb); clear HB; have HO122 := n0_; have HB := n1_; clear n0_ n1_; clear hb ho4))
 go_loopg [5, 8] k (fun kq v5 v8 w' => ∃ (x5_1 : List (List Int)) (x8_1 : Int), v8 = .int .i64 x8_1 ∧ Aside0 (impl_freePlan.l0 kq a1 x5_1 a0 x8_1 = some r) ∧ Aside0 (kq ≤ k) ∧ Aside0 (Kd.S (Kd.slice 2 (Kd.int .i64)) 56 w' w.heap.size (fun _ => True) v5 x5_1) ∧ Aside0 (Below w.heap.size w w'))
 case atStart => exact ⟨(y120), (0), (by first | rfl | (simp; done) | (simp [*]; done) | (simp; decide +kernel)), H', ⟨Nat.le_refl _⟩, ⟨by (with_reducible repeat (first | apply Kd.S_alloc | apply Kd.S_drewN | apply Kd.S_drew)); exact HO122.out⟩, ⟨by repeat (first | (with_reducible first | exact HB.out | apply below_alloc | apply pw_below_drewN | apply below_drew1) | exact HB.out)⟩⟩
 case round =>
  clear H'
  try clear p2
  try clear c3
  obtain ⟨x5_1, x8_1, rfl, HA, HK1, HO_5, HB⟩ := hrel
  cases gk with
  | zero => exact absurd HA.out (by simp [impl_freePlan.l0])
  | succ k1 =>
   have H := HA.out
   clear HA
   simp only [impl_freePlan.l0] at H
   by_cases c5 : x8_1 < a0
   ·rw [if_pos c5] at H
    have c5b0 : decide (x8_1 < a0) = true := decide_eq_true c5
    clear c5
    obtain ⟨y123, hy123⟩ : ∃ y_ : List Int, y_ = (([(-1)] : List Int)) := ⟨_, rfl⟩
    replace H : ((slices_Repeat_int64_int64.f y123 a1).bind fun t126 => (if x5_1.length < 5864062014805 then (impl_freePlan.l0 k1 a1 (x5_1 ++ [t126]) a0 (wrap64 (x8_1 + 1))) else (none))) = some r := by first | (rw [hy123]; with_reducible exact H) | (have H2_ := (Option.bind_some _ _).symm.trans H; rw [hy123]; with_reducible exact H2_) | (have H2_ := (Option.bind_some _ _).symm.trans H; with_reducible exact H2_) | with_reducible exact H | (rw [hy123]; exact H) | exact H
    have Ny123 := Aside0.mk hy123
    clear hy123
    replace H := Option.bind_eq_some_iff.mp H
    obtain ⟨t126, A60, H⟩ := H
    replace H : (if x5_1.length < 5864062014805 then (impl_freePlan.l0 k1 a1 (x5_1 ++ [t126]) a0 (wrap64 (x8_1 + 1))) else (none)) = some r := H
    have A6 := Aside0.mk A60
    clear A60
    by_cases c7 : x5_1.length < 5864062014805
    ·rw [if_pos c7] at H
     have LMc7 := Aside0.mk c7
     clear c7
     obtain ⟨y129, hy129⟩ : ∃ y_ : List (List Int), y_ = (x5_1 ++ [t126]) := ⟨_, rfl⟩
     replace H : (impl_freePlan.l0 k1 a1 y129 a0 (wrap64 (x8_1 + 1))) = some r := by first | (rw [hy129]; with_reducible exact H) | (have H2_ := (Option.bind_some _ _).symm.trans H; rw [hy129]; with_reducible exact H2_) | (have H2_ := (Option.bind_some _ _).symm.trans H; with_reducible exact H2_) | with_reducible exact H | (rw [hy129]; exact H) | exact H
     have Ny129 := Aside0.mk hy129
     clear hy129
     have H' := Aside0.mk H
     clear H
     go_wp2_with (first | ((with_reducible refine gate_dst (N := 11) rfl ?_); refine Kd.R_lit (Kd.int .i64) _ 2 ?hg (N := 11) ?hd (xs := ([(-1)] : List Int)) (inner := [.int .i64 (-1)]) (ok := fun _ => True) (okp := fun _ => True) ?hr ?hp (fun _ hk => hk) trivial (Below.refl _ _) (Nat.le_refl _) (by simp) ?_; (case hd => rfl); (case hg => rfl); (case hr => first | (go_simp; done) | (go_simp; rfl)); (case hp => exact (Reps.one (show Kd.M (Kd.int .i64) _ _ _ (-1) [.int .i64 (-1)] from rfl) (Reps.none _ _))); intro v124 w8 ho9 hb hg_ hnew_; clear hg_ hnew_; (first | rw [← Ny123.out] at ho9 | (simp only [Int.reduceToNat] at ho9; rw [← Ny123.out] at ho9)); have n0_ := Aside0.mk (Kd.S_elder' (by (with_reducible repeat (first | apply Kd.S_alloc | apply Kd.S_drewN | apply Kd.S_drew)); exact HO_5.out) (Kd.R_base ho9) hb); have n1_ := Aside0.mk (Kd.R_lower ho9 (below_size (by repeat (first | (with_reducible first | exact HB.out | apply below_alloc | apply pw_below_drewN | apply below_drew1) | exact HB.out)))); have n2_ := Aside0.mk (below_step (by repeat (first | (with_reducible first | exact HB.out | apply below_alloc | apply pw_below_drewN | apply below_drew1) | exact HB.out)) hb); clear HO_5; clear HB; have HO_5 := n0_; have HO125 := n1_; have HB := n2_; clear n0_ n1_ n2_; clear hb ho9; obtain ⟨Ao10, co10, eo10⟩ := Kd.R_slice HO125.out; subst eo10) | ((with_reducible refine gate_callee (f := 66) rfl ?_); refine goesL_ (some 13) rfl rfl Try.func66 (by kernel_rfl) rfl #[.slice Ao10 y123.length co10, .int .i64 a1] rfl (by (try simp only [List.map_toArray, List.map_cons, List.map_nil]); first | done | rfl | (simp only [List.length_drop, List.length_take]; rfl)) ?_; (with_reducible refine (slices_Repeat_int64_int64.calls _ _ y123 a1 t126 _ ?side1 ?side2 A6.out).mono ?_); (case side1 => repeat (first | exact (Kd.R_reads' HO125.out).2.2 | (with_reducible refine Kd.C_alloc ?_ _) | (with_reducible refine Kd.C_drewN ?_ _) | (with_reducible refine Kd.C_drew ?_))); (case side2 => exact (Kd.R_reads' HO125.out).2.1); rintro e w11 ⟨v127, rfl, ho0, hb⟩; refine ⟨_, rfl, ?_⟩; have n0_ := Aside0.mk (Kd.S_elder' (by (with_reducible repeat (first | apply Kd.S_alloc | apply Kd.S_drewN | apply Kd.S_drew)); exact HO_5.out) (Kd.R_base ho0) hb); have n1_ := Aside0.mk (Kd.R_elder' (by (with_reducible repeat (first | apply Kd.R_alloc | apply Kd.R_drewN | apply Kd.R_drew)); exact HO125.out) (Kd.R_base ho0) hb); have n2_ := Aside0.mk (Kd.R_lower (Kd.R_new' ho0 (Kd.R_lt (by (with_reducible repeat (first | apply Kd.R_alloc | apply Kd.R_drewN | apply Kd.R_drew)); exact HO125.out))) (below_size (by repeat (first | (with_reducible first | exact HB.out | apply below_alloc | apply pw_below_drewN | apply below_drew1) | exact HB.out)))); have n3_ := Aside0.mk (below_step (by repeat (first | (with_reducible first | exact HB.out | apply below_alloc | apply pw_below_drewN | apply below_drew1) | exact HB.out)) hb); clear HO_5; clear HO125; clear HB; have HO_5 := n0_; have HO125 := n1_; have HO128 := n2_; have HB := n3_; clear n0_ n1_ n2_ n3_; (try clear hb); (try clear hb2); (try clear hk); (try clear hi); (try clear ho0); obtain ⟨Ao13, co13, eo13⟩ := Kd.R_slice HO128.out; subst eo13) | ((with_reducible refine gate_builtin (b := .append) (xs := #[.tmp 10, .tmp 14]) rfl ?_); at_builtin; refine Kd.S_append (Kd.slice 2 (Kd.int .i64)) (w0 := w) w.heap.size rfl (.tmp 10) (.tmp 14) 22 56 (.slice none 0 0) 24 rfl Try.underlying22 info56 rfl (by decide) (by omega) u5 x5_1 t126 [.slice Ao13 t126.length co13] (fun k_ => some k_ ≠ (.slice Ao10 y123.length co10 : Value).ownBlock) (fun k_ => some k_ = (.slice Ao13 t126.length co13 : Value).ownBlock) rfl rfl ?aP (fun k_ hk_ => ((Kd.R_mono (ok' := fun k_ => ((fun k_ => some k_ ≠ (.slice Ao10 y123.length co10 : Value).ownBlock)) k_ ∧ some k_ ≠ (u5 : Value).ownBlock) (Kd.R_apart' (HO128.out) (Kd.S_typed HO_5.out) (by decide)) (fun k_ hk => ⟨hk.1.2, hk.2⟩))).1 k_ hk_.symm) ?aF ?aO ?aB ?aS ?aL ?_; (case aP => exact Kd.M_row (Kd.R_mono (Kd.R_tight rfl (Kd.R_mono (ok' := fun k_ => ((fun k_ => some k_ ≠ (.slice Ao10 y123.length co10 : Value).ownBlock)) k_ ∧ some k_ ≠ (u5 : Value).ownBlock) (Kd.R_apart' (HO128.out) (Kd.S_typed HO_5.out) (by decide)) (fun k_ hk => ⟨hk.1.2, hk.2⟩))) (fun _ h_ => h_))); (case aB => exact (by repeat (first | (with_reducible first | exact HB.out | apply below_alloc | apply pw_below_drewN | apply below_drew1) | exact HB.out))); (case aF => exact (fun k_ hk => Kd.fresh' (Kd.R_lt (by (with_reducible repeat (first | apply Kd.R_alloc | apply Kd.R_drewN | apply Kd.R_drew)); exact HO125.out)) k_ hk)); (case aO => exact (by (with_reducible repeat (first | apply Kd.S_alloc | apply Kd.S_drewN | apply Kd.S_drew)); exact Kd.S_mono HO_5.out (fun k_ hk => ⟨hk.1.2, fun e_ => hk.2 e_⟩))); (case aS => exact (below_size (by repeat (first | (with_reducible first | exact HB.out | apply below_alloc | apply pw_below_drewN | apply below_drew1) | exact HB.out)))); (case aL => have := LMc7.out; omega); intro v130 w12 ho hb hg hat; rw [← Ny129.out] at ho; have n0_ := Aside0.mk (Kd.R_over' (by (with_reducible repeat (first | apply Kd.R_alloc | apply Kd.R_drewN | apply Kd.R_drew)); exact HO125.out) (Kd.S_typed (by (with_reducible repeat (first | apply Kd.S_alloc | apply Kd.S_drewN | apply Kd.S_drew)); exact HO_5.out)) (by decide) hg); have n1_ := Aside0.mk (hb); have n2_ := Aside0.mk (ho); clear HO125; clear HB; clear HO_5; clear HO128; have HO125 := n0_; have HB := n1_; have HO131 := n2_; clear n0_ n1_ n2_; clear ho hb hg hat))
     go_roundg k1
     case measure => have := HK1.out; omega
     case rel => exact ⟨(y129), (wrap64 (x8_1 + 1)), (by first | rfl | (simp; done) | (simp [*]; done) | (simp; decide +kernel)), H', ⟨by have := HK1.out; omega⟩, ⟨by (with_reducible repeat (first | apply Kd.S_alloc | apply Kd.S_drewN | apply Kd.S_drew)); exact Kd.S_mono HO131.out (fun _ hk => trivial)⟩, ⟨by repeat (first | (with_reducible first | exact HB.out | apply below_alloc | apply pw_below_drewN | apply below_drew1) | exact HB.out)⟩⟩
    ·rw [if_neg c7] at H
     exact absurd H (by simp)
   ·rw [if_neg c5] at H
    have c5b0 : decide (x8_1 < a0) = false := decide_eq_false c5
    clear c5
    obtain rfl := Option.some.inj H
    go_wp2
    go_ret
    exact ⟨_, by first | rfl | (simp [errW_none, errW_some] <;> rfl) | (simp [*, errW_none, errW_some] <;> rfl), by (with_reducible repeat (first | apply Kd.S_alloc | apply Kd.S_drewN | apply Kd.S_drew)); exact HO_5.out, by repeat (first | (with_reducible first | exact HB.out | apply below_alloc | apply pw_below_drewN | apply below_drew1) | exact HB.out)⟩
end Go.Proofs.Ytcaikaflpmaocaa.Q
namespace Go.Proofs.Ytcaikaflpmaocaa.Q
open Go.RowKit Go.Proofs.YtcaikaflpmaocaaW.PrintWords Go.Proofs.YtcaikaflpmaocaaW.PrintLast Go.Proofs.YtcaikaflpmaocaaW.PrintMore
attribute [local go_sem] max2_int min2_int max_two min_two max_three min_three max_four min_four
set_option linter.unusedVariables false
set_option linter.unusedSimpArgs false
def impl_FreePlan.f (k : Nat) (a0 : Int) (a1 : Int) : Option ((List (List Int)) × Int) := (impl_within.f a0 1 5).bind fun t132 => (if t132 = true then ((impl_within.f a1 1 5).bind fun t133 => (if t133 = true then ((impl_freePlan.f k a0 a1).bind fun t134 => (some (t134, 0))) else (some (([] : List (List Int)), 2)))) else (some (([] : List (List Int)), 2)))
theorem impl_FreePlan.mono : ∀ a0 a1 k, LeO (impl_FreePlan.f k a0 a1) (impl_FreePlan.f (k + 1) a0 a1) := by
 intro a0 a1 k
 unfold impl_FreePlan.f
 repeat' first
   | (with_reducible exact impl_freePlan.mono _ _ _)
   | (with_reducible exact LeO.refl _)
   | (with_reducible exact LeO.none _)
   | (with_reducible refine LeO.ite ?_ ?_)
   | (with_reducible refine LeO.bind ?_ (fun _ => ?_))
   | exact impl_freePlan.mono _ _ _
   | exact LeO.none _
   | refine LeO.ite ?_ ?_
   | refine LeO.bind ?_ (fun _ => ?_)
set_option maxHeartbeats 8000000 in
set_option maxRecDepth 100000 in
theorem impl_FreePlan.calls (k : Nat) (a0 : Int) (a1 : Int) (r1 : List (List Int)) (r2 : Int) (w : World) (h : impl_FreePlan.f k a0 a1 = some (r1, r2)) :
  Calls Try.prog 11 #[.int .i64 a0, .int .i64 a1] w fun e w' => ∃ v0_ : Value, e = .returned (.tuple #[v0_, .int .i64 r2]) ∧ Kd.S (Kd.slice 2 (Kd.int .i64)) 56 w' w.heap.size (fun _ => True) v0_ r1 ∧ Below w.heap.size w w' := by
 have HB := Aside0.mk (Below.refl w.heap.size w)
 have H : ((impl_within.f a0 1 5).bind fun t132 => (if t132 = true then ((impl_within.f a1 1 5).bind fun t133 => (if t133 = true then ((impl_freePlan.f k a0 a1).bind fun t134 => (some (t134, 0))) else (some (([] : List (List Int)), 2)))) else (some (([] : List (List Int)), 2)))) = some (r1, r2) := h
 clear h
 replace H := Option.bind_eq_some_iff.mp H
 obtain ⟨t132, A30, H⟩ := H
 replace H : (if t132 = true then ((impl_within.f a1 1 5).bind fun t133 => (if t133 = true then ((impl_freePlan.f k a0 a1).bind fun t134 => (some (t134, 0))) else (some (([] : List (List Int)), 2)))) else (some (([] : List (List Int)), 2))) = some (r1, r2) := H
 have A3 := Aside0.mk A30
 clear A30
 by_cases c4 : t132 = true
 ·subst c4
  have H1 : ((impl_within.f a1 1 5).bind fun t133 => (if t133 = true then ((impl_freePlan.f k a0 a1).bind fun t134 => (some (t134, 0))) else (some (([] : List (List Int)), 2)))) = some (r1, r2) := by rw [if_pos rfl] at H; exact H
  clear H
  have H := H1
  clear H1
  replace H := Option.bind_eq_some_iff.mp H
  obtain ⟨t133, A50, H⟩ := H
  replace H : (if t133 = true then ((impl_freePlan.f k a0 a1).bind fun t134 => (some (t134, 0))) else (some (([] : List (List Int)), 2))) = some (r1, r2) := H
  have A5 := Aside0.mk A50
  clear A50
  by_cases c6 : t133 = true
  ·subst c6
   have H1 : ((impl_freePlan.f k a0 a1).bind fun t134 => (some (t134, 0))) = some (r1, r2) := by rw [if_pos rfl] at H; exact H
   clear H
   have H := H1
   clear H1
   replace H := Option.bind_eq_some_iff.mp H
   obtain ⟨t134, A70, H⟩ := H
   replace H : (some (t134, 0)) = some (r1, r2) := H
   have A7 := Aside0.mk A70
   clear A70
   simp only [Option.some.injEq, Prod.mk.injEq] at H
   obtain ⟨rfl, rfl⟩ := H
   go_enter Try.func11, Try.ntmps11
   go_wp2_with (first | ((with_reducible refine gate_callee (f := 38) rfl ?_); refine goesL_ (some 7) rfl rfl Try.func38 (by kernel_rfl) rfl #[.int .i64 a0, .int .i64 1, .int .i64 5] rfl (by (try simp only [List.map_toArray, List.map_cons, List.map_nil]); first | done | rfl | (simp only [List.length_drop, List.length_take]; rfl)) ?_; (with_reducible refine (impl_within.calls a0 1 5 true _ A3.out).mono ?_); rintro e w' ⟨rfl, ⟨nd, rfl⟩⟩; refine ⟨_, rfl, ?_⟩) | (go_at_call 38; (with_reducible refine (impl_within.calls a1 1 5 true _ A5.out).mono ?_); rintro e w' ⟨rfl, ⟨nd, rfl⟩⟩) | ((with_reducible refine gate_callee (f := 39) rfl ?_); refine goesL_ (some 16) rfl rfl Try.func39 (by kernel_rfl) rfl #[.int .i64 a0, .int .i64 a1] rfl (by (try simp only [List.map_toArray, List.map_cons, List.map_nil]); first | done | rfl | (simp only [List.length_drop, List.length_take]; rfl)) ?_; (with_reducible refine (impl_freePlan.calls k a0 a1 t134 _ A7.out).mono ?_); rintro e w8 ⟨v135, rfl, ho0, hb⟩; refine ⟨_, rfl, ?_⟩; have n0_ := Aside0.mk (Kd.S_lower ho0 (below_size (by repeat (first | (with_reducible first | exact HB.out | apply below_alloc | apply pw_below_drewN | apply below_drew1) | exact HB.out)))); have n1_ := Aside0.mk (below_step (by repeat (first | (with_reducible first | exact HB.out | apply below_alloc | apply pw_below_drewN | apply below_drew1) | exact HB.out)) hb); clear HB; have HO136 := n0_; have HB := n1_; clear n0_ n1_; (try clear hb); (try clear hb2); (try clear hk); (try clear hi); (try clear ho0)))
   go_ret2
   exact ⟨_, by first | rfl | (simp [errW_none, errW_some] <;> rfl) | (simp [*, errW_none, errW_some] <;> rfl), by (with_reducible repeat (first | apply Kd.S_alloc | apply Kd.S_drewN | apply Kd.S_drew)); exact HO136.out, by repeat (first | (with_reducible first | exact HB.out | apply below_alloc | apply pw_below_drewN | apply below_drew1) | exact HB.out)⟩
  ·replace c6 := Bool.eq_false_iff.mpr c6
   subst c6
   have H1 : (some (([] : List (List Int)), 2)) = some (r1, r2) := by rw [if_neg (show ¬ (false = true) by decide)] at H; exact H
   clear H
   have H := H1
   clear H1
   simp only [Option.some.injEq, Prod.mk.injEq] at H
   obtain ⟨rfl, rfl⟩ := H
   go_enter Try.func11, Try.ntmps11
   go_wp2_with (first | ((with_reducible refine gate_callee (f := 38) rfl ?_); refine goesL_ (some 7) rfl rfl Try.func38 (by kernel_rfl) rfl #[.int .i64 a0, .int .i64 1, .int .i64 5] rfl (by (try simp only [List.map_toArray, List.map_cons, List.map_nil]); first | done | rfl | (simp only [List.length_drop, List.length_take]; rfl)) ?_; (with_reducible refine (impl_within.calls a0 1 5 true _ A3.out).mono ?_); rintro e w' ⟨rfl, ⟨nd, rfl⟩⟩; refine ⟨_, rfl, ?_⟩) | (go_at_call 38; (with_reducible refine (impl_within.calls a1 1 5 false _ A5.out).mono ?_); rintro e w' ⟨rfl, ⟨nd, rfl⟩⟩))
   go_ret2
   exact ⟨_, by first | rfl | (simp [errW_none, errW_some] <;> rfl) | (simp [*, errW_none, errW_some] <;> rfl), by first | exact Kd.S_nil _ _ _ _ _ | exact Kd.N_nil _ _ _ _ _ | exact Kd.V_nil _ _ _ _ _ | exact Kd.Q_nil _ _ _ _ _ | exact Kd.R_nil _ _ _ _ _, by repeat (first | (with_reducible first | exact HB.out | apply below_alloc | apply pw_below_drewN | apply below_drew1) | exact HB.out)⟩
 ·replace c4 := Bool.eq_false_iff.mpr c4
  subst c4
  have H1 : (some (([] : List (List Int)), 2)) = some (r1, r2) := by rw [if_neg (show ¬ (false = true) by decide)] at H; exact H
  clear H
  have H := H1
  clear H1
  simp only [Option.some.injEq, Prod.mk.injEq] at H
  obtain ⟨rfl, rfl⟩ := H
  go_enter Try.func11, Try.ntmps11
  go_wp2_with (first | ((with_reducible refine gate_callee (f := 38) rfl ?_); refine goesL_ (some 7) rfl rfl Try.func38 (by kernel_rfl) rfl #[.int .i64 a0, .int .i64 1, .int .i64 5] rfl (by (try simp only [List.map_toArray, List.map_cons, List.map_nil]); first | done | rfl | (simp only [List.length_drop, List.length_take]; rfl)) ?_; (with_reducible refine (impl_within.calls a0 1 5 false _ A3.out).mono ?_); rintro e w' ⟨rfl, ⟨nd, rfl⟩⟩; refine ⟨_, rfl, ?_⟩))
  go_ret2
  exact ⟨_, by first | rfl | (simp [errW_none, errW_some] <;> rfl) | (simp [*, errW_none, errW_some] <;> rfl), by first | exact Kd.S_nil _ _ _ _ _ | exact Kd.N_nil _ _ _ _ _ | exact Kd.V_nil _ _ _ _ _ | exact Kd.Q_nil _ _ _ _ _ | exact Kd.R_nil _ _ _ _ _, by repeat (first | (with_reducible first | exact HB.out | apply below_alloc | apply pw_below_drewN | apply below_drew1) | exact HB.out)⟩
end Go.Proofs.Ytcaikaflpmaocaa.Q
namespace Go.Proofs.Ytcaikaflpmaocaa
open Go Go.RowKit Go.Proofs Go.Proofs.YtcaikaflpmaocaaW.PrintWords Go.Proofs.Ytcaikaflpmaocaa.Q
theorem five {a : Int} (h : 1 ≤ a ∧ a ≤ 5) : a = 1 ∨ a = 2 ∨ a = 3 ∨ a = 4 ∨ a = 5 := by omega
theorem implFree_small {a b : Int} (ha : 1 ≤ a ∧ a ≤ 5) (hb : 1 ≤ b ∧ b ≤ 5) : impl_freePlan.f 60 a b = some (List.replicate a.toNat (List.replicate b.toNat (-1))) := by
  rcases five ha with rfl | rfl | rfl | rfl | rfl <;> rcases five hb with rfl | rfl | rfl | rfl | rfl <;> decide +kernel
end Go.Proofs.Ytcaikaflpmaocaa

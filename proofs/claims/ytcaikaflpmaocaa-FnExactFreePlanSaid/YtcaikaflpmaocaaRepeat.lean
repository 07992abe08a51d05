/-
  Contract: slices.Repeat of one number.
-/
import Derived.Test.YtcaikaflpmaocaaBridge
import Derived.Test.YtcaikaflpmaocaaQBitsMul
import Derived.Laws.CopyOwn
import Derived.Deep.RegionLaw
import Derived.Outline
namespace Go.Proofs.Ytcaikaflpmaocaa
open Go Go.RowKit Go.Proofs Go.Proofs.YtcaikaflpmaocaaW.PrintWords Go.Proofs.YtcaikaflpmaocaaW.PrintLast Go.Proofs.Ytcaikaflpmaocaa.Q
set_option linter.unusedVariables false
set_option linter.unusedSimpArgs false
theorem R_of_OI {w : World} {base : Nat} {e : TypeId} {v : Value} {xs : List Int} (h : OI w base e v xs) : Kd.R (Kd.int .i64) e w base (fun _ => True) v xs := by
  refine ⟨fun _ _ => trivial, icells xs, h, by rw [icells_length]; exact (Nat.mul_one _).symm, fun j p hp => ?_⟩
  have hj := (List.getElem?_eq_some_iff.1 hp).1
  have e1 : (Kd.int IntKind.i64).sz = 1 := rfl
  have hc : (icells xs)[j]? = some (.int .i64 p) := by rw [icells, List.getElem?_map, hp]; rfl
  have hl : j < (icells xs).length := by rw [icells_length]; exact hj
  rw [e1, Nat.mul_one, List.drop_eq_getElem_cons hl, List.take_succ_cons, List.take_zero]
  rw [List.getElem?_eq_getElem hl] at hc
  have := Option.some.inj hc
  show [_] = [_]
  rw [this]
theorem mul_small (m : Nat) (h1 : 1 ≤ m) (h6 : m ≤ 6) : bits_Mul.f 1 (m : Int) = some (0, (m : Int)) := by
  have : m = 1 ∨ m = 2 ∨ m = 3 ∨ m = 4 ∨ m = 5 ∨ m = 6 := by omega
  rcases this with rfl | rfl | rfl | rfl | rfl | rfl <;> decide
theorem add_min {k m : Nat} (h : k ≤ m) : k + Nat.min k (m - k) ≤ m := by
  have h2 : Nat.min k (m - k) ≤ m - k := Nat.min_le_right k (m - k)
  generalize Nat.min k (m - k) = q at h2
  omega
theorem sub_min {k m : Nat} (h1 : 1 ≤ k) (h : k < m) : m - (((k + Nat.min k (m - k) : Nat) : Int)).toNat < m - ((k : Int)).toNat := by
  have h2 : 1 ≤ Nat.min k (m - k) := Nat.le_min.2 ⟨h1, by omega⟩
  generalize Nat.min k (m - k) = q at h2
  simp only [Int.toNat_natCast]
  omega
theorem splice_rep (L : List Value) (k n : Nat) (v : Value) (hx : ∀ j, j < k → L[j]? = some v) (hk : k ≤ L.length) : ∀ j, j < k + n → (splice L k (List.replicate n v))[j]? = some v := by
  intro j hj
  unfold splice
  by_cases h : j < k
  · rw [List.getElem?_append_left (by rw [List.length_take, Nat.min_eq_left hk]; exact h), List.getElem?_take_of_lt h]
    exact hx j h
  · simp [List.getElem?_append, List.getElem?_replicate, h, List.length_take, Nat.min_eq_left hk, show j - k < n by omega]
set_option maxHeartbeats 4000000 in
set_option maxRecDepth 100000 in
theorem RepeatI_any (x : Int) (A : Option Addr) (c m : Nat) (w : World) (hA : RI w A [x]) (hc : 1 ≤ c) (h1 : 1 ≤ m) (h6 : m ≤ 6) :
    Calls Try.prog 66 #[.slice A 1 c, .int .i64 m] w fun e w' => ∃ v, e = .returned v ∧ Kd.R (Kd.int .i64) 2 w' w.heap.size (fun _ => True) v (List.replicate m x) ∧ Below w.heap.size w w' := by
  obtain ⟨b, o, rfl, hb, hcell⟩ := hA 0 (by simp)
  simp only [Nat.add_zero, show ik [x] 0 = x from rfl] at hcell
  have HM := Lib.hid (mul_small m h1 h6)
  have n0 : ¬ (m : Int) < 0 := by omega
  have m0 : (0 : Int) ≤ (m : Int) := by omega
  have m6 : (m : Int) ≤ 6 := by omega
  clear hA
  go_enter Try.func66, Try.ntmps66
  have HT := Lib.hid (show ((m : Int)).toNat ≤ 35184372088832 by omega)
  go_wp2_with (first | (go_at_call 87; refine (bits_Mul.calls 1 (m : Int) 0 (m : Int) _ HM.out).mono ?_; rintro e w' ⟨rfl, ⟨nd, rfl⟩⟩) | ((with_reducible refine gate_dst (N := 30) rfl ?_); refine Kd.R_make (Kd.int .i64) _ 2 rfl (N := 30) rfl 56 _ _ rfl (m : Int) rfl rfl Try.underlying56 (.int .i64 0) 8 info2 rfl (by decide) (by omega) 0 (ok := fun _ => True) (okp := fun _ => True) rfl (fun _ hk => hk) trivial m0 (Nat.le_trans (Nat.mul_le_mul_right _ HT.out) (by omega)) (Below.refl _ _) (Nat.le_refl _) ?_; intro v w2 ho hbb hg_ hnew_; clear hg_ hnew_; obtain ⟨inner, ho2⟩ := Kd.R_own ho; clear ho; rw [List.length_replicate, Int.toNat_natCast] at ho2; obtain ⟨hl0, hown⟩ := ho2; clear hl0; obtain ⟨g, cap, cur, rfl, hg, hcur, hcap, hcm, hsz, -⟩ := hown.resolve_left (by rintro ⟨-, h0⟩; omega); clear hown; have HS := Lib.hid (show cur.size = cap by simpa using hsz.trans (Nat.mul_one _)); clear hsz; have HB := Lib.hid (show Below w.heap.size w w2 from (pw_below_drewN (Below.refl w.heap.size w) nd).trans hbb); have HC := Lib.hid hcur; clear hbb hcur; have HG := Lib.hid hg; clear hg) | (refine wpList_copy_splice (w := w2) rfl (.tmp 31) (.tmp 32) 56 56 rfl 2 Try.underlying56 rfl (some ⟨g, 0, none⟩) (some ⟨b, o, none⟩) m cap 1 c rfl rfl g 0 cur.toList 2 HC.out [.int .i64 x] (by simp [Nat.min_def]; omega) (fun _ => ⟨rfl, _, rfl, by intro j v hv; match j, hv with | 0, hv => (have hv2 : Value.int .i64 x = v := by simpa using hv); subst hv2; rw [show (⟨b, o, none⟩ : Addr).add 0 = ⟨b, o, none⟩ from rfl]; exact (HB.out.cell (p := ⟨b, o, none⟩) hb).trans hcell | j + 1, hv => simp at hv⟩) (by have := HS.out; simp; omega) (by simp [Value.oneCell']) w.heap.size w HB.out (by have := HG.out; simpa using this) ?_; intro w3 hg3 hB3; have HL := Lib.hid (show (splice cur.toList 0 [Value.int .i64 x]).length = cap by rw [length_splice _ _ _ (by have := HS.out; simp; omega)]; have := HS.out; simpa using this); have HX := Lib.hid (show ∀ j, j < 1 → (splice cur.toList 0 [Value.int .i64 x])[j]? = some (.int .i64 x) by intro j hj; obtain rfl : j = 0 := (Nat.lt_one_iff.1 hj); simp [splice]); have HB3 := Lib.hid hB3; clear HB HC hB3))
  have hg0 : w.heap.size ≤ g := by have := HG.out; simpa using this
  clear HG HM HT
  go_loopw [8] (fun n wr => Below w.heap.size w wr ∧ ∃ (k : Nat) (L : List Value), n = .int .i64 k ∧ 1 ≤ k ∧ k ≤ m ∧ L.length = cap ∧ (∀ j, j < k → L[j]? = some (.int .i64 x)) ∧ wr.heap[g]? = some (.cells L.toArray 2 (0, 0))) (fun n _ => m - (intOf n).toNat)
  case atStart => exact ⟨HB3.out, 1, _, rfl, Nat.le_refl _, h1, HL.out, HX.out, hg3.out⟩
  case round =>
    obtain ⟨hB, k, L, rfl, hk1, hkm, hL, hx, hg⟩ := hrel
    have HB := Lib.hid hB; have HLL := Lib.hid hL; have HXX := Lib.hid hx; have HGG := Lib.hid hg; clear hB hL hx hg
    by_cases hlt : k < m
    · have i1 : (k : Int) < (m : Int) := by omega
      have i2 : ¬ cap = k := by omega
      have i3 : k ≤ cap := by omega
      go_wp2_with fail
      have HCS := Lib.hid (show (List.replicate (Nat.min k (m - k)) (Value.int .i64 x)).length = Nat.min k (m - k) by simp)
      have HG2 := Lib.hid (show BK wr.drew g L.toArray 2 from HGG.out)
      have HB2 := Lib.hid (HB.out.drew)
      have HP := Lib.hid (show 0 < (List.replicate (Nat.min k (m - k)) (Value.int .i64 x)).length → some (⟨g, k, none⟩ : Addr) = some ⟨g, k, none⟩ ∧ ∃ ad, some (⟨g, 0, none⟩ : Addr) = some ad ∧ ∀ j v, (List.replicate (Nat.min k (m - k)) (Value.int .i64 x))[j]? = some v → wr.drew.cell? (ad.add j) = some v from
        fun _ => ⟨rfl, _, rfl, fun j v hv => by
          rw [List.getElem?_replicate] at hv
          split at hv
          · rename_i hj
            obtain rfl := Option.some.inj hv
            have hjk : j < k := Nat.lt_of_lt_of_le hj (Nat.min_le_left _ _)
            have e1 : (⟨g, 0, none⟩ : Addr).add j = ⟨g, j, none⟩ := by rcases j with _ | j; rfl; simp [Addr.add]
            rw [e1]
            exact HG2.out.cell (by simpa using HXX.out j hjk)
          · cases hv⟩)
      have HF := Lib.hid (show k + (List.replicate (Nat.min k (m - k)) (Value.int .i64 x)).length ≤ L.length by
        have e2 := HLL.out
        have e3 : Nat.min k (m - k) ≤ m - k := Nat.min_le_right _ _
        rw [List.length_replicate, e2]
        omega)
      have H1 := Lib.hid (show ∀ v ∈ List.replicate (Nat.min k (m - k)) (Value.int .i64 x), v.oneCell' = true from fun v hv => by obtain rfl := List.eq_of_mem_replicate hv; rfl)
      go_region_law (refine step_copy_splice (by kernel_rfl) (.tmp 41) (.tmp 44) 56 56 (by kernel_rfl) 2 Try.underlying56 (by kernel_rfl) (some ⟨g, k, none⟩) (some ⟨g, 0, none⟩) (m - k) (cap - k) k cap (by kernel_rfl) (by kernel_rfl) g k L 2 HG2.out (List.replicate (Nat.min k (m - k)) (Value.int .i64 x)) HCS.out HP.out HF.out H1.out w.heap.size w HB2.out hg0 ?_; intro w4 hg4 hB4)
      have e5 : IntKind.i64.wrap ((k : Int) + ((Nat.min k (m - k) : Nat) : Int)) = ((k + Nat.min k (m - k) : Nat) : Int) := by
        have e3 : Nat.min k (m - k) ≤ m - k := Nat.min_le_right _ _
        rw [IntWalk.i64_in _ (by omega)]
        omega
      rw [e5]
      have HR4 := Lib.hid hg4
      clear hg4
      refine ⟨⟨_, _, _, _, _, _, _, _, _, _, _, _, _, _, ⟨hB4, k + Nat.min k (m - k), _, rfl, Nat.le_trans hk1 (Nat.le_add_right _ _), add_min hkm, (length_splice _ _ _ HF.out).trans HLL.out, splice_rep L k _ _ HXX.out (by have := HLL.out; omega), HR4.out.out⟩, rfl⟩, ?_⟩
      show m - (((k + Nat.min k (m - k) : Nat) : Int)).toNat < m - ((k : Int)).toNat
      exact sub_min hk1 hlt
    · have hkm2 : k = m := by omega
      have i1 : ¬ (k : Int) < (m : Int) := by omega
      go_wp2_with fail
      go_ret
      have hbk : BK wr g L.toArray 2 := HGG.out
      refine ⟨_, rfl, ?_, HB.out⟩
      have hO := OI.of_block hbk (base := w.heap.size) (xs := List.replicate m x) (cap := cap) hg0 (by simpa using HLL.out) (by simpa using hcap) (by unfold maxLen at hcm; omega) (fun q hq => by
        rw [List.length_replicate] at hq
        have := HXX.out q (by omega)
        simp [ik, List.getD_eq_getElem?_getD, List.getElem?_replicate, hq]
        simpa using this)
      rw [List.length_replicate] at hO
      exact R_of_OI hO
end Go.Proofs.Ytcaikaflpmaocaa
namespace Go.Proofs.Ytcaikaflpmaocaa.Q
open Go Go.RowKit Go.Proofs Go.Proofs.YtcaikaflpmaocaaW.PrintWords Go.Proofs.Ytcaikaflpmaocaa
def slices_Repeat_int64_int64.f (l0 : List Int) (a1 : Int) : Option (List Int) :=
  match l0 with
  | [x] => if 1 ≤ a1 ∧ a1 ≤ 6 then some (List.replicate a1.toNat x) else none
  | _ => none
theorem slices_Repeat_int64_int64.calls (A0 : Option Addr) (c0 : Nat) (l0 : List Int) (a1 : Int) (r : List Int) (w : World) (hr0 : Kd.C (Kd.int .i64) w A0 l0.length l0) (hc0 : l0.length ≤ c0) (h : slices_Repeat_int64_int64.f l0 a1 = some r) :
    Calls Try.prog 66 #[.slice A0 l0.length c0, .int .i64 a1] w fun e w' => ∃ v, e = .returned v ∧ Kd.R (Kd.int .i64) 2 w' w.heap.size (fun _ => True) v r ∧ Below w.heap.size w w' := by
  match l0, hr0, hc0, h with
  | [x], hr0, hc0, h =>
    unfold slices_Repeat_int64_int64.f at h
    simp only at h
    split at h
    · rename_i hq
      obtain rfl := Option.some.inj h
      obtain ⟨m, rfl⟩ := Int.eq_ofNat_of_zero_le (show 0 ≤ a1 by omega)
      exact RepeatI_any x A0 c0 m w (ri_of_C hr0) hc0 (by omega) (by omega)
    · cases h
  | [], _, _, h => cases h
  | _ :: _ :: _, _, _, h => cases h
end Go.Proofs.Ytcaikaflpmaocaa.Q

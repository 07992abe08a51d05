/-
  Parts of the proof, in their order: PNumP, FilCount, PPlan, QSpecCountFillings, FillingsI, LawCountFillings.
-/
import Derived.Test.YtcaikaflpmaocaaPk14
import Derived.Test.YtcaikaflpmaocaaPk16
import Derived.Test.YtcaikaflpmaocaaPk7
import Derived.Test.YtcaikaflpmaocaaPk9
import Derived.Test.YtcaikaflpmaocaaPk10
import Derived.Test.YtcaikaflpmaocaaPk13
import Derived.Test.YtcaikaflpmaocaaPk17
import Derived.Test.YtcaikaflpmaocaaPk8
import Derived.Deep.RegionHeld3
namespace Go.Proofs.Ytcaikaflpmaocaa
open Go Go.RowKit Go.Proofs Go.Proofs.YtcaikaflpmaocaaW.PrintWords Go.Proofs.YtcaikaflpmaocaaW.PrintMore Go.Proofs.Ytcaikaflpmaocaa.Q
set_option linter.unusedVariables false
set_option linter.unusedSimpArgs false
def numS (c : Nat) (plan bs : List (List Int)) (l : List STile) : Int := onS c plan bs l 0 0
theorem layersT_at (c : Nat) (plan bs : List (List Int)) (l : List STile) : rd_L1 (layersT c plan bs l) 0 = layS c plan bs l 0 := by
  have h := rdL_nat (layersT c plan bs l) 0
  rw [show (((0 : Nat)) : Int) = 0 from rfl] at h
  rw [h]
  simp [layersT, List.getD_eq_getElem?_getD]
theorem layS_at {c : Nat} (plan bs : List (List Int)) (l : List STile) (hc : 0 < c) : rd (layS c plan bs l 0) 0 = cap (numS c plan bs l) := by
  have h : rd (layS c plan bs l 0) ((0 : Nat) : Int) = cap (onS c plan bs l 0 0) := capRow_at (Nat.pow_pos hc)
  exact h
theorem isS_cols {C : Int} {l : List STile} (h : isS C (l.map toT) = true) : (1 ≤ C ∧ C ≤ 6) ∧ l.length ≤ 16 ∧ ∀ t ∈ l, Col C.toNat t := by
  obtain ⟨hc, hl, hok⟩ := isS_iff.1 h
  refine ⟨hc, by simpa using hl, fun t ht => ?_⟩
  obtain ⟨i, hi, rfl⟩ := List.getElem_of_mem ht
  have := (hok i (by simpa using hi)).1
  rw [tk_map _ _ hi] at this
  simp only [tileB, Bool.and_eq_true, inB_iff, T4.get, toT] at this
  simp at this
  unfold Col
  omega
def toldI (x : Int) : Int × Int := if x > 1000000000000000 then (0, 3) else (x, 0)
theorem toldI_cap (x : Int) : toldI (cap x) = toldI x := by
  unfold toldI cap
  by_cases h : x ≤ 1000000000000000
  · rw [if_pos h]
  · rw [if_neg h, if_pos (by omega), if_pos (by omega)]
end Go.Proofs.Ytcaikaflpmaocaa
namespace Go.Proofs.Ytcaikaflpmaocaa
open Go Go.RowKit Go.Proofs Go.Proofs.YtcaikaflpmaocaaW.PrintWords Go.Proofs.YtcaikaflpmaocaaW.PrintLast Go.Proofs.YtcaikaflpmaocaaW.PrintMore Go.Proofs.Ytcaikaflpmaocaa.Q
set_option linter.unusedVariables false
set_option linter.unusedSimpArgs false
theorem on_eq (c : Nat) (plan bs : List (List Int)) (l : List STile) (hc : 0 < c) (hw : 1 ≤ rowLen plan 0) (hcol : ∀ t ∈ l, Col c t) : onw (stepI c plan bs l) l.length (places plan) 0 0 = numS c plan bs l := by
  unfold numS onS stepS stepI
  rw [Nat.sub_zero]
  exact (onw_like c (rowLen plan 0) l (fitP plan bs l) hc (by omega) hcol (places plan) 0 0 0 ⟨rfl, fun _ => rfl⟩).symm
theorem fil_count {w : World} {F : Nat} {C : Int} {cn : Nat} {A : Option Addr} {ts : List T4} {n c : Nat} {A1 : Option Addr} {plan : List (List Int)} {m1 c1 : Nat} {A2 : Option Addr} {bs : List (List Int)} {m2 c2 : Nat} (h : FIL w F C cn A ts n c A1 plan m1 c1 A2 bs m2 c2)
    (hR : RR w A1 plan) (hm1 : m1 = plan.length) (hsh : Shape plan bs) (hcn : 0 < cn) (c6 : cn ≤ 6) (hcol : ∀ t ∈ ts.map toS, Col cn t) :
    Calls Try.prog 53 #[.pointer (some ⟨F, 0, none⟩)] w fun e w' => e = .returned (.int .i64 (cap (numS cn plan bs (ts.map toS)))) ∧ Below w.heap.size w w' := by
  obtain ⟨Ap, cp, gc, cc, ga, ca, ⟨-, -, k2, -⟩, -, k5, -, -, k8, -⟩ := h
  have hst : ∀ q, Stay (stepI cn plan bs (ts.map toS)) (ts.map toS).length (size cn plan) q := fun q => nx_stay false cn (rowLen plan 0) (ts.map toS) _ hcn hsh.w1 hcol q
  have hrow : rowAt (cntL cn plan bs (ts.map toS) (places plan)) (places plan) = fwd (stepI cn plan bs (ts.map toS)) (ts.map toS).length (size cn plan) (places plan) := by simp [rowAt, cntL, List.getD_eq_getElem?_getD]
  have hsz : size cn plan ≤ 46656 := pow_le cn (rowLen plan 0 + 1) c6 (by have := hsh.w5; omega)
  have hs0 : 0 < size cn plan := Nat.pow_pos hcn
  refine (count_any A1 plan m1 c1 (some ⟨gc, 0, none⟩) (cntL cn plan bs (ts.map toS) (places plan)) (places plan + 1) cc F w hm1 hR hsh.h1 hsh.h5 hsh.w5 (by rw [cntL_len]) k8 (cntL_len _ _ _ _ _) ?_ ?_ k2 k5).mono ?_
  · rw [rowLen, hrow, fwd_len]; omega
  · rw [hrow]; exact bd_fwd _ _ _ _ (fun q _ => hst q)
  · rintro e w' ⟨rfl, hb⟩
    refine ⟨?_, hb⟩
    rw [hrow, fwd_count _ _ _ _ hs0 (fun q _ => hst q), on_eq cn plan bs (ts.map toS) hcn hsh.w1 hcol]
theorem counted_any (x : Int) (w : World) : Calls Try.prog 52 #[.int .i64 (cap x)] w fun e w' => e = .returned (pairI (toldI x)) ∧ Below w.heap.size w w' := by
  have hf : impl_counted.f (cap x) = some ((toldI (cap x)).1, (toldI (cap x)).2) := by unfold impl_counted.f toldI; split <;> rfl
  rw [toldI_cap] at hf
  refine (impl_counted.calls (cap x) _ _ w hf).mono ?_
  rintro e w' ⟨rfl, ⟨nd, rfl⟩⟩
  exact ⟨rfl, pw_below_drewN (Below.refl _ _) nd⟩
end Go.Proofs.Ytcaikaflpmaocaa
namespace Go.Proofs.Ytcaikaflpmaocaa
open Go Go.RowKit Go.Proofs Go.Proofs.YtcaikaflpmaocaaW.PrintWords Go.Proofs.YtcaikaflpmaocaaW.PrintMore Go.Proofs.Ytcaikaflpmaocaa.Q
set_option linter.unusedVariables false
set_option linter.unusedSimpArgs false
theorem drop_rd (xs : List Int) (i : Nat) (h : i < xs.length) : xs.drop i = rd xs (i : Int) :: xs.drop (i + 1) := by
  rw [rd_nat, List.drop_eq_getElem_cons h, List.getD_eq_getElem?_getD, List.getElem?_eq_getElem h]; rfl
theorem nxt_wrap (m : Nat) (h : m < 100000000000000) : wrap64 ((m : Int) + 1) = ((m + 1 : Nat) : Int) := by unfold wrap64; omega
def wordB (C : Int) (word : List Int) : Bool := word.all fun x => inB x 0 (C - 1)
theorem specIn_f (n lo hi : Int) : spec_l01In.f n lo hi = some (inB n lo hi) := by
  unfold spec_l01In.f inB
  by_cases h : n ≥ lo
  · rw [if_pos h]; simp [h]
  · rw [if_neg h]; simp at h ⊢; omega
theorem within_f (n lo hi : Int) : impl_within.f n lo hi = some (inB n lo hi) := by
  unfold impl_within.f inB
  by_cases h : n ≥ lo
  · rw [if_pos h]; simp [h]
  · rw [if_neg h]; simp at h ⊢; omega
theorem specWord_ev (C : Int) (l : List STile) (word : List Int) (hC : -9000000000000000000 ≤ C ∧ C ≤ 9000000000000000000) (hw : word.length ≤ 35184372088832) : Ev (fun k => spec_l01Word.f k C l word) (wordB C word) := by
  have hc1 : wrap64 (C - 1) = C - 1 := wrap_id (by omega) (by omega)
  have go : ∀ d i, i + d = word.length → Ev (fun k => spec_l01Word.l0 k word (i : Int) C l) (wordB C (word.drop i)) := by
    intro d
    induction d with
    | zero =>
      intro i hi
      have b1 : ¬ (i : Int) < (word.length : Int) := by omega
      refine Ev.step (fun k => ?_) (Ev.now _)
      rw [spec_l01Word.l0, if_neg b1, List.drop_of_length_le (by omega)]; rfl
    | succ d ih =>
      intro i hi
      have b1 : (i : Int) < (word.length : Int) := by omega
      have b2 : (0 : Int) ≤ (i : Int) := Int.natCast_nonneg i
      have hi9 : i < 100000000000000 := by omega
      have hd := drop_rd word i (by omega)
      cases hq : inB (rd word (i : Int)) 0 (C - 1)
      · have e : wordB C (word.drop i) = false := by rw [hd]; simp [wordB, hq]
        refine Ev.step (fun k => ?_) (Ev.now _)
        rw [spec_l01Word.l0, if_pos b1, if_pos b2, specIn_f, hc1, hq, e]; rfl
      · have e : wordB C (word.drop i) = wordB C (word.drop (i + 1)) := by rw [hd]; simp [wordB, hq]
        rw [e]
        refine Ev.step (fun k => ?_) (ih (i + 1) (by omega))
        rw [spec_l01Word.l0, if_pos b1, if_pos b2, specIn_f, hc1, hq, nxt_wrap i hi9]; rfl
  exact go word.length 0 (by omega)
theorem implIdx_ev (C : Int) (l : List STile) (word : List Int) (hC : -9000000000000000000 ≤ C ∧ C ≤ 9000000000000000000) (hw : word.length ≤ 35184372088832) :
    ∃ j : Int, Ev (fun k => slices_IndexFunc_int64_int64_at_impl_Set_isWord_1.f k word C l) j ∧ (decide (j ≥ 0) = !wordB C word) := by
  have hc1 : wrap64 (C - 1) = C - 1 := wrap_id (by omega) (by omega)
  have go : ∀ d i, i + d = word.length → ∃ j : Int, Ev (fun k => slices_IndexFunc_int64_int64_at_impl_Set_isWord_1.l0 k word (word.length : Int) (i : Int) C l) j ∧ (decide (j ≥ 0) = !wordB C (word.drop i)) := by
    intro d
    induction d with
    | zero =>
      intro i hi
      have b1 : ¬ (i : Int) < (word.length : Int) := by omega
      refine ⟨-1, Ev.step (fun k => ?_) (Ev.now _), ?_⟩
      · rw [slices_IndexFunc_int64_int64_at_impl_Set_isWord_1.l0, if_neg b1]
      · rw [List.drop_of_length_le (by omega)]; simp [wordB]
    | succ d ih =>
      intro i hi
      have b1 : (i : Int) < (word.length : Int) := by omega
      have b2 : (0 : Int) ≤ (i : Int) := Int.natCast_nonneg i
      have hi9 : i < 100000000000000 := by omega
      have hd := drop_rd word i (by omega)
      cases hq : inB (rd word (i : Int)) 0 (C - 1)
      · refine ⟨(i : Int), Ev.step (fun k => ?_) (Ev.now _), ?_⟩
        · rw [slices_IndexFunc_int64_int64_at_impl_Set_isWord_1.l0, if_pos b1, if_pos b2, if_pos b1, impl_Set_isWord_1.f, within_f, hc1, hq]; rfl
        · rw [hd]; simp [wordB, hq]
      · obtain ⟨j, hj, h2⟩ := ih (i + 1) (by omega)
        refine ⟨j, Ev.step (fun k => ?_) hj, ?_⟩
        · rw [slices_IndexFunc_int64_int64_at_impl_Set_isWord_1.l0, if_pos b1, if_pos b2, if_pos b1, impl_Set_isWord_1.f, within_f, hc1, hq, nxt_wrap i hi9]; rfl
        · rw [h2, hd]; simp [wordB, hq]
  exact go word.length 0 (by omega)
def isWordB (C : Int) (word : List Int) : Bool := inB (word.length : Int) 1 20 && wordB C word
theorem implWord_ev (C : Int) (l : List STile) (word : List Int) (hC : -9000000000000000000 ≤ C ∧ C ≤ 9000000000000000000) (hw : word.length ≤ 35184372088832) : Ev (fun k => impl_Set_isWord.f k C l word) (isWordB C word) := by
  cases hq : inB (word.length : Int) 1 20
  · refine Ev.congr (fun k => ?_) (Ev.now _)
    rw [impl_Set_isWord.f, within_f, hq]
    simp [isWordB, hq]
  · obtain ⟨j, hj, h2⟩ := implIdx_ev C l word hC hw
    refine Ev.congr (f := fun k => (slices_IndexFunc_int64_int64_at_impl_Set_isWord_1.f k word C l).bind fun t => some (!(decide (t ≥ 0)))) (fun k => ?_) (Ev.bind hj ?_)
    · rw [impl_Set_isWord.f, within_f, hq, slices_ContainsFunc_int64_int64_at_impl_Set_isWord_1.f]
      cases slices_IndexFunc_int64_int64_at_impl_Set_isWord_1.f k word C l <;> simp
    · rw [h2]
      simp only [Bool.not_not]
      rw [show isWordB C word = wordB C word by simp [isWordB, hq]]
      exact Ev.now _
def entB (m : Int) (r : List Int) : Bool := r.all fun x => inB x (-1) (m - 1)
def rowB (m : Int) (plan : List (List Int)) (y : Nat) : Bool := decide (rowLen plan y = rowLen plan 0) && entB m (rowAt plan y)
def rowsB (m : Int) (plan : List (List Int)) : Nat → Nat → Bool
  | 0, _ => true
  | d + 1, y => rowB m plan y && rowsB m plan d (y + 1)
def longP (plan : List (List Int)) (k : Nat) : Nat := if k % 2 = 1 then rowLen plan 0 else plan.length
def borB (C : Int) (plan bs : List (List Int)) (k : Nat) : Bool := (decide (rowLen bs k = 0) || decide (rowLen bs k = longP plan k)) && wordB C (rowAt bs k)
def borsB (C : Int) (plan bs : List (List Int)) : Nat → Nat → Bool
  | 0, _ => true
  | d + 1, k => borB C plan bs k && borsB C plan bs d (k + 1)
def sizeB (plan : List (List Int)) : Bool := decide (1 ≤ plan.length) && (decide (plan.length ≤ 5) && (decide (1 ≤ rowLen plan 0) && decide (rowLen plan 0 ≤ 5)))
def planB (C : Int) (m : Int) (plan bs : List (List Int)) : Bool := sizeB plan && (decide (bs.length = 4) && (rowsB m plan plan.length 0 && borsB C plan bs 4 0))
def planR (C : Int) (ts : List T4) (plan bs : List (List Int)) : Int := if isS C ts = true then if planB C ts.length plan bs = true then 0 else 2 else 1
def two (b : Bool) : Int := if b = true then 0 else 2
theorem rdRow (x : List (List Int)) (i : Nat) : rd_L1 x (i : Int) = rowAt x i := rdL_nat x i
theorem rdRow0 (x : List (List Int)) : rd_L1 x 0 = rowAt x 0 := rdL_nat x 0
theorem specBors_ev (C : Int) (l : List STile) (plan bs : List (List Int)) (hC : -9000000000000000000 ≤ C ∧ C ≤ 9000000000000000000) (h1 : 1 ≤ plan.length) (h4 : bs.length = 4) (hw : ∀ k, k < 4 → rowLen bs k ≤ 35184372088832) (d : Nat) :
    ∀ k, k + d = 4 → Ev (fun n => spec_l03Plan.l2 n plan bs (k : Int) C l) (two (borsB C plan bs d k)) := by
  induction d with
  | zero =>
    intro k hk
    have b1 : ¬ (k : Int) < 4 := by omega
    refine Ev.step (fun n => ?_) (Ev.now _)
    rw [spec_l03Plan.l2, if_neg b1]; rfl
  | succ d ih =>
    intro k hk
    have b1 : (k : Int) < 4 := by omega
    have b2 : (0 : Int) ≤ (k : Int) := Int.natCast_nonneg k
    have b3 : (k : Int) < (bs.length : Int) := by omega
    have b4 : (0 : Int) < (plan.length : Int) := by omega
    have hk9 : k < 100000000000000 := by omega
    have hword := specWord_ev C l (rowAt bs k) hC (hw k (by omega))
    have hnext := ih (k + 1) (by omega)
    have hgo : Ev (fun n => (spec_l01Word.f n C l (rowAt bs k)).bind fun t => if t = true then spec_l03Plan.l2 n plan bs (wrap64 ((k : Int) + 1)) C l else some 2) (two (wordB C (rowAt bs k) && borsB C plan bs d (k + 1))) := by
      refine Ev.bind hword ?_
      rw [nxt_wrap k hk9]
      cases wordB C (rowAt bs k)
      · exact Ev.congr (fun n => rfl) (Ev.now _)
      · rw [Bool.true_and]; exact Ev.congr (fun n => if_pos rfl) hnext
    have hm : Int.tmod (k : Int) 2 = ((k % 2 : Nat) : Int) := by rw [Int.tmod_eq_emod_of_nonneg b2]; omega
    have hE : borsB C plan bs (d + 1) k = (borB C plan bs k && borsB C plan bs d (k + 1)) := rfl
    have e0 : ((rowAt bs k).length : Int) = 0 ↔ rowLen bs k = 0 := by show ((rowLen bs k : Nat) : Int) = 0 ↔ _; omega
    have key : ∀ L : Nat, longP plan k = L → Ev (fun n => if ((rowAt bs k).length : Int) = 0 then ((spec_l01Word.f n C l (rowAt bs k)).bind fun t => if t = true then spec_l03Plan.l2 n plan bs (wrap64 ((k : Int) + 1)) C l else some 2) else if ((rowAt bs k).length : Int) = (L : Int) then ((spec_l01Word.f n C l (rowAt bs k)).bind fun t => if t = true then spec_l03Plan.l2 n plan bs (wrap64 ((k : Int) + 1)) C l else some 2) else some 2) (two (borsB C plan bs (d + 1) k)) := by
      intro L hL
      rw [hE, borB, hL]
      by_cases z0 : rowLen bs k = 0
      · rw [decide_eq_true z0, Bool.true_or, Bool.true_and]
        exact Ev.congr (fun n => if_pos (e0.2 z0)) hgo
      · by_cases z1 : rowLen bs k = L
        · rw [decide_eq_true z1, Bool.or_true, Bool.true_and]
          have z1' : ((rowAt bs k).length : Int) = (L : Int) := by show ((rowLen bs k : Nat) : Int) = _; omega
          exact Ev.congr (fun n => by rw [if_neg (fun h => z0 (e0.1 h)), if_pos z1']) hgo
        · rw [decide_eq_false z0, decide_eq_false z1]
          have z1' : ¬ ((rowAt bs k).length : Int) = (L : Int) := by show ¬ ((rowLen bs k : Nat) : Int) = _; omega
          exact Ev.congr (fun n => by rw [if_neg (fun h => z0 (e0.1 h)), if_neg z1']; rfl) (Ev.now _)
    by_cases p : k % 2 = 1
    · have p' : Int.tmod (k : Int) 2 = 1 := by rw [hm, p]; rfl
      refine Ev.step (fun n => ?_) (key (rowLen plan 0) (by rw [longP, if_pos p]))
      rw [spec_l03Plan.l2, if_pos b1, if_pos p', if_pos b4, if_pos b2, if_pos b3, rdRow, rdRow0]; rfl
    · have p' : ¬ Int.tmod (k : Int) 2 = 1 := by rw [hm]; omega
      refine Ev.step (fun n => ?_) (key plan.length (by rw [longP, if_neg p]))
      rw [spec_l03Plan.l2, if_pos b1, if_neg p', if_pos b2, if_pos b3, rdRow]
theorem specRows_ev (C : Int) (l : List STile) (plan bs : List (List Int)) (hl : l.length ≤ 1000000) (hC : -9000000000000000000 ≤ C ∧ C ≤ 9000000000000000000) (h1 : 1 ≤ plan.length) (h5 : plan.length ≤ 5) (w5 : rowLen plan 0 ≤ 5) (h4 : bs.length = 4) (hw : ∀ k, k < 4 → rowLen bs k ≤ 35184372088832) (d : Nat) :
    ∀ y, y + d = plan.length → Ev (fun n => spec_l03Plan.l0 n plan bs (y : Int) C l) (two (rowsB l.length plan d y && borsB C plan bs 4 0)) := by
  have hm1 : wrap64 ((l.length : Int) - 1) = (l.length : Int) - 1 := wrap_id (by omega) (by omega)
  induction d with
  | zero =>
    intro y hy
    have b1 : ¬ (y : Int) < (plan.length : Int) := by omega
    refine Ev.step (fun n => ?_) (specBors_ev C l plan bs hC h1 h4 hw 4 0 (by omega))
    rw [spec_l03Plan.l0, if_neg b1]; rfl
  | succ d ih =>
    intro y hy
    have b1 : (y : Int) < (plan.length : Int) := by omega
    have b2 : (0 : Int) ≤ (y : Int) := Int.natCast_nonneg y
    have b4 : (0 : Int) < (plan.length : Int) := by omega
    have hy9 : y < 100000000000000 := by omega
    have hE : rowsB l.length plan (d + 1) y = (rowB l.length plan y && rowsB l.length plan d (y + 1)) := rfl
    by_cases hlen : rowLen plan y = rowLen plan 0
    · have hlen' : ((rowAt plan y).length : Int) = ((rowAt plan 0).length : Int) := by show ((rowLen plan y : Nat) : Int) = ((rowLen plan 0 : Nat) : Int); rw [hlen]
      have cells : ∀ e x, x + e = rowLen plan y → Ev (fun n => spec_l03Plan.l1 n plan bs (y : Int) (x : Int) C l) (two (entB l.length ((rowAt plan y).drop x) && (rowsB l.length plan d (y + 1) && borsB C plan bs 4 0))) := by
        intro e
        induction e with
        | zero =>
          intro x hx
          have c1 : ¬ (x : Int) < ((rowAt plan y).length : Int) := by have : rowLen plan y = (rowAt plan y).length := rfl; omega
          rw [List.drop_of_length_le (by have : rowLen plan y = (rowAt plan y).length := rfl; omega)]
          refine Ev.step (fun n => ?_) (ih (y + 1) (by omega))
          rw [spec_l03Plan.l1, if_pos b2, if_pos b1, rdRow, if_neg c1, nxt_wrap y hy9]
        | succ e ih2 =>
          intro x hx
          have hxl : x < (rowAt plan y).length := by have : rowLen plan y = (rowAt plan y).length := rfl; omega
          have c1 : (x : Int) < ((rowAt plan y).length : Int) := by omega
          have c2 : (0 : Int) ≤ (x : Int) := Int.natCast_nonneg x
          have hx9 : x < 100000000000000 := by omega
          have hd := drop_rd (rowAt plan y) x hxl
          cases hq : inB (rd (rowAt plan y) (x : Int)) (-1) ((l.length : Int) - 1)
          · have e9 : entB l.length ((rowAt plan y).drop x) = false := by rw [hd]; simp [entB, hq]
            rw [e9]
            refine Ev.step (fun n => ?_) (Ev.now _)
            rw [spec_l03Plan.l1, if_pos b2, if_pos b1, rdRow, if_pos c1, if_pos c2, specIn_f, hm1, hq]; rfl
          · have e9 : entB l.length ((rowAt plan y).drop x) = entB l.length ((rowAt plan y).drop (x + 1)) := by rw [hd]; simp [entB, hq]
            rw [e9]
            refine Ev.step (fun n => ?_) (ih2 (x + 1) (by omega))
            rw [spec_l03Plan.l1, if_pos b2, if_pos b1, rdRow, if_pos c1, if_pos c2, specIn_f, hm1, hq, nxt_wrap x hx9]; rfl
      have h0 := cells (rowLen plan y) 0 (by omega)
      rw [List.drop_zero] at h0
      rw [hE, rowB, decide_eq_true hlen, Bool.true_and, Bool.and_assoc]
      refine Ev.step (fun n => ?_) h0
      rw [spec_l03Plan.l0, if_pos b1, if_pos b2, if_pos b4, rdRow, rdRow0, if_pos hlen']; rfl
    · have hlen' : ¬ ((rowAt plan y).length : Int) = ((rowAt plan 0).length : Int) := by show ¬ ((rowLen plan y : Nat) : Int) = ((rowLen plan 0 : Nat) : Int); omega
      rw [hE, rowB, decide_eq_false hlen, Bool.false_and, Bool.false_and]
      refine Ev.step (fun n => ?_) (Ev.now _)
      rw [spec_l03Plan.l0, if_pos b1, if_pos b2, if_pos b4, rdRow, rdRow0, if_neg hlen']; rfl
theorem specPlan_ev (C : Int) (l : List STile) (plan bs : List (List Int)) (hl : l.length ≤ 35184372088832) (hp : plan.length ≤ 10000000) (hw : ∀ k, k < 4 → rowLen bs k ≤ 35184372088832) : Ev (fun n => spec_l03Plan.f n C l plan bs) (planR C (l.map toT) plan bs) := by
  have hin : spec_l01Is.f C l = some (isS C (l.map toT)) := by
    unfold spec_l01Is.f
    rw [if_pos (by simpa [inLim] using hl)]
  unfold planR
  rw [List.length_map]
  cases hs : isS C (l.map toT)
  · exact Ev.congr (fun n => by rw [spec_l03Plan.f, hin, hs]; rfl) (Ev.now _)
  · obtain ⟨⟨c1, c6⟩, hl16, -⟩ := isS_iff.1 hs
    rw [List.length_map] at hl16
    rw [if_pos rfl]
    have hj : ∀ b : Bool, (b = false → 1 ≤ plan.length ∧ plan.length ≤ 5 ∧ rowLen plan 0 ≤ 5 ∧ bs.length = 4) → Ev (fun n => spec_l03Plan.j0 n plan bs b C l) (if b = true then 2 else two (rowsB l.length plan plan.length 0 && borsB C plan bs 4 0)) := by
      intro b hb
      cases b
      · obtain ⟨a1, a2, a3, a4⟩ := hb rfl
        refine Ev.step (fun n => ?_) (specRows_ev C l plan bs (by omega) ⟨by omega, by omega⟩ a1 a2 a3 a4 hw plan.length 0 (by omega))
        rw [spec_l03Plan.j0]; rfl
      · refine Ev.step (fun n => ?_) (Ev.now _)
        rw [spec_l03Plan.j0]; rfl
    have e0 : ((rd_L1 plan 0).length : Int) = ((rowLen plan 0 : Nat) : Int) := by rw [rdRow0]; rfl
    by_cases z1 : 1 ≤ plan.length
    · have y1 : ¬ (plan.length : Int) < 1 := by omega
      have y0 : (0 : Int) < (plan.length : Int) := by omega
      by_cases z5 : plan.length ≤ 5
      · have y5 : ¬ (plan.length : Int) > 5 := by omega
        by_cases x1 : 1 ≤ rowLen plan 0
        · have v1 : ¬ ((rd_L1 plan 0).length : Int) < 1 := by rw [e0]; omega
          by_cases x5 : rowLen plan 0 ≤ 5
          · have v5 : ¬ ((rd_L1 plan 0).length : Int) > 5 := by rw [e0]; omega
            have hsz : sizeB plan = true := by simp [sizeB, z1, z5, x1, x5]
            by_cases z4 : bs.length = 4
            · have v4 : ((bs.length : Int) != 4) = false := by simp [z4]
              have h := hj false (fun _ => ⟨z1, z5, x5, z4⟩)
              refine Ev.congr (fun n => by rw [spec_l03Plan.f, hin, hs, Option.bind_some, if_pos rfl, if_neg y1, if_neg y5, if_pos y0, if_neg v1, if_neg v5, v4]) ?_
              rw [planB, hsz, decide_eq_true z4, Bool.true_and, Bool.true_and]
              exact h
            · have v4 : ((bs.length : Int) != 4) = true := by simp; omega
              have h := hj true (fun h => by cases h)
              refine Ev.congr (fun n => by rw [spec_l03Plan.f, hin, hs, Option.bind_some, if_pos rfl, if_neg y1, if_neg y5, if_pos y0, if_neg v1, if_neg v5, v4]) ?_
              rw [planB, decide_eq_false z4, Bool.false_and, Bool.and_false]
              exact h
          · have v5 : ((rd_L1 plan 0).length : Int) > 5 := by rw [e0]; omega
            have h := hj true (fun h => by cases h)
            refine Ev.congr (fun n => by rw [spec_l03Plan.f, hin, hs, Option.bind_some, if_pos rfl, if_neg y1, if_neg y5, if_pos y0, if_neg v1, if_pos v5]) ?_
            rw [planB, sizeB, decide_eq_false x5, Bool.and_false, Bool.and_false, Bool.and_false, Bool.false_and]
            exact h
        · have v1 : ((rd_L1 plan 0).length : Int) < 1 := by rw [e0]; omega
          have h := hj true (fun h => by cases h)
          refine Ev.congr (fun n => by rw [spec_l03Plan.f, hin, hs, Option.bind_some, if_pos rfl, if_neg y1, if_neg y5, if_pos y0, if_pos v1]) ?_
          rw [planB, sizeB, decide_eq_false x1, Bool.false_and, Bool.and_false, Bool.and_false, Bool.false_and]
          exact h
      · have y5 : (plan.length : Int) > 5 := by omega
        have h := hj true (fun h => by cases h)
        refine Ev.congr (fun n => by rw [spec_l03Plan.f, hin, hs, Option.bind_some, if_pos rfl, if_neg y1, if_pos y5]) ?_
        rw [planB, sizeB, decide_eq_false z5, Bool.false_and, Bool.and_false, Bool.false_and]
        exact h
    · have y1 : (plan.length : Int) < 1 := by omega
      have h := hj true (fun h => by cases h)
      refine Ev.congr (fun n => by rw [spec_l03Plan.f, hin, hs, Option.bind_some, if_pos rfl, if_pos y1]) ?_
      rw [planB, sizeB, decide_eq_false z1, Bool.false_and, Bool.false_and]
      exact h
def entsB (m : Int) (plan : List (List Int)) : Nat → Nat → Bool
  | 0, _ => true
  | d + 1, y => entB m (rowAt plan y) && entsB m plan d (y + 1)
def tabY (plan : List (List Int)) (y : Nat) : Bool := decide (rowLen plan y = rowLen plan 0) && (decide (1 ≤ rowLen plan y) && decide (rowLen plan y ≤ 5))
def tabsB (plan : List (List Int)) : Nat → Nat → Bool
  | 0, _ => true
  | d + 1, y => tabY plan y && tabsB plan d (y + 1)
def tab5 (plan : List (List Int)) : Bool := decide (1 ≤ plan.length) && (decide (plan.length ≤ 5) && tabsB plan plan.length 0)
theorem isTable_ev (plan : List (List Int)) (hp : plan.length ≤ 10000000) : Ev (fun n => impl_isTable.f n plan 5) (tab5 plan) := by
  have go : ∀ d y, y + d = plan.length → Ev (fun n => impl_isTable.l0 n plan 5 plan (plan.length : Int) (y : Int)) (tabsB plan d y) := by
    intro d
    induction d with
    | zero =>
      intro y hy
      have b1 : ¬ (y : Int) < (plan.length : Int) := by omega
      refine Ev.step (fun n => ?_) (Ev.now _)
      rw [impl_isTable.l0, if_neg b1]; rfl
    | succ d ih =>
      intro y hy
      have b1 : (y : Int) < (plan.length : Int) := by omega
      have b2 : (0 : Int) ≤ (y : Int) := Int.natCast_nonneg y
      have b4 : (0 : Int) < (plan.length : Int) := by omega
      have hE : tabsB plan (d + 1) y = (tabY plan y && tabsB plan d (y + 1)) := rfl
      have ey : ((rowAt plan y).length : Int) = ((rowLen plan y : Nat) : Int) := rfl
      have e0 : ((rowAt plan 0).length : Int) = ((rowLen plan 0 : Nat) : Int) := rfl
      have hn := ih (y + 1) (by omega)
      by_cases q1 : rowLen plan y = rowLen plan 0
      · have q1' : ((rowLen plan y : Nat) : Int) = ((rowLen plan 0 : Nat) : Int) := by rw [q1]
        by_cases q2 : 1 ≤ rowLen plan y
        · have q2' : ¬ ((rowLen plan y : Nat) : Int) < 1 := by omega
          by_cases q3 : rowLen plan y ≤ 5
          · have q3' : ¬ ((rowLen plan y : Nat) : Int) > 5 := by omega
            rw [hE, tabY, decide_eq_true q1, decide_eq_true q2, decide_eq_true q3, Bool.true_and, Bool.true_and, Bool.true_and]
            refine Ev.step (fun n => ?_) hn
            rw [impl_isTable.l0, if_pos b1, if_pos b2, if_pos b1, if_pos b4, rdRow, rdRow0, ey, e0, if_pos q1', if_neg q2', if_neg q3', nxt_wrap y (by omega)]
          · have q3' : ((rowLen plan y : Nat) : Int) > 5 := by omega
            rw [hE, tabY, decide_eq_false q3, Bool.and_false, Bool.and_false, Bool.false_and]
            refine Ev.step (fun n => ?_) (Ev.now _)
            rw [impl_isTable.l0, if_pos b1, if_pos b2, if_pos b1, if_pos b4, rdRow, rdRow0, ey, e0, if_pos q1', if_neg q2', if_pos q3']
        · have q2' : ((rowLen plan y : Nat) : Int) < 1 := by omega
          rw [hE, tabY, decide_eq_false q2, Bool.false_and, Bool.and_false, Bool.false_and]
          refine Ev.step (fun n => ?_) (Ev.now _)
          rw [impl_isTable.l0, if_pos b1, if_pos b2, if_pos b1, if_pos b4, rdRow, rdRow0, ey, e0, if_pos q1', if_pos q2']
      · have q1' : ¬ ((rowLen plan y : Nat) : Int) = ((rowLen plan 0 : Nat) : Int) := by omega
        rw [hE, tabY, decide_eq_false q1, Bool.false_and, Bool.false_and]
        refine Ev.step (fun n => ?_) (Ev.now _)
        rw [impl_isTable.l0, if_pos b1, if_pos b2, if_pos b1, if_pos b4, rdRow, rdRow0, ey, e0, if_neg q1']
  by_cases z1 : 1 ≤ plan.length
  · have y1 : ¬ (plan.length : Int) < 1 := by omega
    refine Ev.congr (fun n => by rw [impl_isTable.f, if_neg y1]) ?_
    by_cases z5 : plan.length ≤ 5
    · have y5 : decide ((plan.length : Int) > 5) = false := decide_eq_false (by omega)
      rw [tab5, decide_eq_true z1, decide_eq_true z5, Bool.true_and, Bool.true_and]
      refine Ev.step (fun n => ?_) (go plan.length 0 (by omega))
      rw [y5, impl_isTable.j0]; rfl
    · have y5 : decide ((plan.length : Int) > 5) = true := decide_eq_true (by omega)
      rw [tab5, decide_eq_false z5, Bool.false_and, Bool.and_false]
      refine Ev.step (fun n => ?_) (Ev.now _)
      rw [y5, impl_isTable.j0]; rfl
  · have y1 : (plan.length : Int) < 1 := by omega
    rw [tab5, decide_eq_false z1, Bool.false_and]
    refine Ev.congr (fun n => by rw [impl_isTable.f, if_pos y1]) ?_
    refine Ev.step (fun n => ?_) (Ev.now _)
    rw [impl_isTable.j0]; rfl
theorem entOne (m x : Int) (hm : 0 ≤ m) : inB x (-1) (m - 1) = (decide (x = -1) || inB x 0 (m - 1)) := by
  rw [Bool.eq_iff_iff, Bool.or_eq_true, decide_eq_true_eq]
  simp only [inB, Bool.and_eq_true, decide_eq_true_eq]
  omega
theorem isPlan_ev (C : Int) (l : List STile) (plan : List (List Int)) (hl : l.length ≤ 1000000) (hp : plan.length ≤ 10000000) (hr : ∀ r ∈ plan, r.length ≤ 10000000) : Ev (fun n => impl_Set_isPlan.f n C l plan) (entsB l.length plan plan.length 0 && tab5 plan) := by
  have hm1 : wrap64 ((l.length : Int) - 1) = (l.length : Int) - 1 := wrap_id (by omega) (by omega)
  have go : ∀ d y, y + d = plan.length → Ev (fun n => impl_Set_isPlan.l0 n plan plan (plan.length : Int) (y : Int) C l) (entsB l.length plan d y && tab5 plan) := by
    intro d
    induction d with
    | zero =>
      intro y hy
      have b1 : ¬ (y : Int) < (plan.length : Int) := by omega
      refine Ev.step (f := fun n => (impl_isTable.f n plan 5).bind fun t => some t) (fun n => ?_) (Ev.bind (isTable_ev plan hp) (Ev.now _))
      rw [impl_Set_isPlan.l0, if_neg b1]
    | succ d ih =>
      intro y hy
      have b1 : (y : Int) < (plan.length : Int) := by omega
      have b2 : (0 : Int) ≤ (y : Int) := Int.natCast_nonneg y
      have hn := ih (y + 1) (by omega)
      have hrow : (rowAt plan y).length ≤ 10000000 := by rw [rowAt_at (by omega)]; exact hr _ (List.getElem_mem (by omega))
      have cells : ∀ e x, x + e = (rowAt plan y).length → Ev (fun n => impl_Set_isPlan.l1 n plan plan (plan.length : Int) (y : Int) (rowAt plan y) ((rowAt plan y).length : Int) (x : Int) C l) (entB l.length ((rowAt plan y).drop x) && (entsB l.length plan d (y + 1) && tab5 plan)) := by
        intro e
        induction e with
        | zero =>
          intro x hx
          have c1 : ¬ (x : Int) < ((rowAt plan y).length : Int) := by omega
          rw [List.drop_of_length_le (by omega)]
          refine Ev.step (fun n => ?_) hn
          rw [impl_Set_isPlan.l1, if_neg c1, nxt_wrap y (by omega)]
        | succ e ih2 =>
          intro x hx
          have c1 : (x : Int) < ((rowAt plan y).length : Int) := by omega
          have c2 : (0 : Int) ≤ (x : Int) := Int.natCast_nonneg x
          have hd := drop_rd (rowAt plan y) x (by omega)
          have hn2 := ih2 (x + 1) (by omega)
          have hE : entB l.length ((rowAt plan y).drop x) = (inB (rd (rowAt plan y) (x : Int)) (-1) ((l.length : Int) - 1) && entB l.length ((rowAt plan y).drop (x + 1))) := by rw [hd]; rfl
          rw [hE, entOne _ _ (Int.natCast_nonneg _)]
          by_cases q : rd (rowAt plan y) (x : Int) = -1
          · rw [decide_eq_true q, Bool.true_or, Bool.true_and]
            refine Ev.step (fun n => ?_) hn2
            rw [impl_Set_isPlan.l1, if_pos c1, if_pos c2, if_pos c1, if_pos q, nxt_wrap x (by omega)]
          · rw [decide_eq_false q, Bool.false_or]
            cases hq : inB (rd (rowAt plan y) (x : Int)) 0 ((l.length : Int) - 1)
            · refine Ev.step (fun n => ?_) (Ev.now _)
              rw [impl_Set_isPlan.l1, if_pos c1, if_pos c2, if_pos c1, if_neg q, impl_Set_isNumber.f, within_f, hm1, hq]; rfl
            · rw [Bool.true_and]
              refine Ev.step (fun n => ?_) hn2
              rw [impl_Set_isPlan.l1, if_pos c1, if_pos c2, if_pos c1, if_neg q, impl_Set_isNumber.f, within_f, hm1, hq, nxt_wrap x (by omega)]; rfl
      have h0 := cells (rowAt plan y).length 0 (by omega)
      rw [List.drop_zero] at h0
      have hE : entsB l.length plan (d + 1) y = (entB l.length (rowAt plan y) && entsB l.length plan d (y + 1)) := rfl
      rw [hE, Bool.and_assoc]
      refine Ev.step (fun n => ?_) h0
      rw [impl_Set_isPlan.l0, if_pos b1, if_pos b2, if_pos b1, rdRow]; rfl
  refine Ev.congr (fun n => by rw [impl_Set_isPlan.f]; rfl) (go plan.length 0 (by omega))
theorem row_nil {xs : List (List Int)} {k : Nat} (h : rowLen xs k = 0) : rowAt xs k = [] := List.length_eq_zero_iff.1 h
theorem borB_nil {C : Int} {plan bs : List (List Int)} {k : Nat} (h : rowLen bs k = 0) : borB C plan bs k = true := by
  rw [borB, decide_eq_true h, row_nil h]; rfl
theorem implBors_ev (C : Int) (l : List STile) (plan bs : List (List Int)) (hC : -9000000000000000000 ≤ C ∧ C ≤ 9000000000000000000) (h1 : 1 ≤ plan.length) (h5 : plan.length ≤ 5) (w5 : rowLen plan 0 ≤ 5) (h4 : bs.length = 4) (d : Nat) :
    ∀ k, k + d = 4 → Ev (fun n => impl_Set_areBorders.l0 n plan bs (bs.length : Int) (k : Int) C l) (borsB C plan bs d k) := by
  induction d with
  | zero =>
    intro k hk
    have b1 : ¬ (k : Int) < (bs.length : Int) := by omega
    refine Ev.step (fun n => ?_) (Ev.now _)
    rw [impl_Set_areBorders.l0, if_neg b1]; rfl
  | succ d ih =>
    intro k hk
    have b1 : (k : Int) < (bs.length : Int) := by omega
    have b2 : (0 : Int) ≤ (k : Int) := Int.natCast_nonneg k
    have b4 : (0 : Int) < (plan.length : Int) := by omega
    have hk9 : k < 100000000000000 := by omega
    have hnext := ih (k + 1) (by omega)
    have hE : borsB C plan bs (d + 1) k = (borB C plan bs k && borsB C plan bs d (k + 1)) := rfl
    have e0 : ((rowAt bs k).length : Int) = ((rowLen bs k : Nat) : Int) := rfl
    have key : ∀ L : Nat, L ≤ 5 → longP plan k = L → Ev (fun n => if ((rowAt bs k).length : Int) > 0 then (if ((rowAt bs k).length : Int) = (L : Int) then ((impl_Set_isWord.f n C l (rowAt bs k)).bind fun t => if t = true then impl_Set_areBorders.l0 n plan bs (bs.length : Int) (wrap64 ((k : Int) + 1)) C l else some false) else some false) else impl_Set_areBorders.l0 n plan bs (bs.length : Int) (wrap64 ((k : Int) + 1)) C l) (borsB C plan bs (d + 1) k) := by
      intro L hL5 hL
      rw [hE, e0, nxt_wrap k hk9]
      by_cases z0 : rowLen bs k = 0
      · have z0' : ¬ ((rowLen bs k : Nat) : Int) > 0 := by omega
        rw [borB_nil z0, Bool.true_and]
        exact Ev.congr (fun n => if_neg z0') hnext
      · have z0' : ((rowLen bs k : Nat) : Int) > 0 := by omega
        by_cases z1 : rowLen bs k = L
        · have z1' : ((rowLen bs k : Nat) : Int) = (L : Int) := by omega
          have hw := implWord_ev C l (rowAt bs k) hC (by have : (rowAt bs k).length = rowLen bs k := rfl; omega)
          have hb : isWordB C (rowAt bs k) = wordB C (rowAt bs k) := by
            rw [isWordB, inB_iff.2 ⟨by rw [e0]; omega, by rw [e0]; omega⟩, Bool.true_and]
          have e2 : borB C plan bs k = wordB C (rowAt bs k) := by rw [borB, hL, decide_eq_true z1, Bool.or_true, Bool.true_and]
          refine Ev.congr (fun n => by rw [if_pos z0', if_pos z1']) (Ev.bind hw ?_)
          rw [hb, e2]
          cases wordB C (rowAt bs k)
          · exact Ev.congr (fun n => rfl) (Ev.now _)
          · rw [Bool.true_and]; exact Ev.congr (fun n => if_pos rfl) hnext
        · have z1' : ¬ ((rowLen bs k : Nat) : Int) = (L : Int) := by omega
          have e2 : borB C plan bs k = false := by rw [borB, hL, decide_eq_false z0, decide_eq_false z1]; rfl
          rw [e2, Bool.false_and]
          exact Ev.congr (fun n => by rw [if_pos z0', if_neg z1']) (Ev.now _)
    have jt : k % 2 = 1 → Ev (fun n => impl_Set_areBorders.j1 n plan (rowAt bs k) (plan.length : Int) bs (bs.length : Int) (k : Int) true C l) (borsB C plan bs (d + 1) k) := by
      intro p
      refine Ev.step (fun n => ?_) (key (rowLen plan 0) w5 (by rw [longP, if_pos p]))
      rw [impl_Set_areBorders.j1, if_pos rfl, if_pos b4, rdRow0]; rfl
    have jf : ¬ k % 2 = 1 → Ev (fun n => impl_Set_areBorders.j1 n plan (rowAt bs k) (plan.length : Int) bs (bs.length : Int) (k : Int) false C l) (borsB C plan bs (d + 1) k) := by
      intro p
      refine Ev.step (fun n => ?_) (key plan.length h5 (by rw [longP, if_neg p]))
      rw [impl_Set_areBorders.j1]; rfl
    by_cases k1 : (k : Int) = 1
    · refine Ev.step (fun n => ?_) (jt (by omega))
      rw [impl_Set_areBorders.l0, if_pos b1, if_pos b2, if_pos b1, if_pos k1, rdRow]
    · by_cases k3 : (k : Int) = 3
      · refine Ev.step (fun n => ?_) (jt (by omega))
        have e3 : ((k : Int) == 3) = true := by simp [k3]
        rw [impl_Set_areBorders.l0, if_pos b1, if_pos b2, if_pos b1, if_neg k1, rdRow, e3]
      · refine Ev.step (fun n => ?_) (jf (by omega))
        have e3 : ((k : Int) == 3) = false := by simp [k3]
        rw [impl_Set_areBorders.l0, if_pos b1, if_pos b2, if_pos b1, if_neg k1, rdRow, e3]
theorem rowsB_iff (m : Int) (plan : List (List Int)) (d : Nat) : ∀ y, rowsB m plan d y = true ↔ ∀ i, y ≤ i → i < y + d → rowLen plan i = rowLen plan 0 ∧ entB m (rowAt plan i) = true := by
  induction d with
  | zero => intro y; simp [rowsB]; intro i h1 h2; omega
  | succ d ih =>
    intro y
    rw [rowsB, rowB, Bool.and_eq_true, Bool.and_eq_true, decide_eq_true_eq, ih]
    constructor
    · rintro ⟨h1, h2⟩ i hi hi2
      by_cases e : i = y
      · subst e; exact h1
      · exact h2 i (by omega) (by omega)
    · intro h
      exact ⟨h y (Nat.le_refl _) (by omega), fun i hi hi2 => h i (by omega) (by omega)⟩
theorem entsB_iff (m : Int) (plan : List (List Int)) (d : Nat) : ∀ y, entsB m plan d y = true ↔ ∀ i, y ≤ i → i < y + d → entB m (rowAt plan i) = true := by
  induction d with
  | zero => intro y; simp [entsB]; intro i h1 h2; omega
  | succ d ih =>
    intro y
    rw [entsB, Bool.and_eq_true, ih]
    constructor
    · rintro ⟨h1, h2⟩ i hi hi2
      by_cases e : i = y
      · subst e; exact h1
      · exact h2 i (by omega) (by omega)
    · intro h
      exact ⟨h y (Nat.le_refl _) (by omega), fun i hi hi2 => h i (by omega) (by omega)⟩
theorem tabsB_iff (plan : List (List Int)) (d : Nat) : ∀ y, tabsB plan d y = true ↔ ∀ i, y ≤ i → i < y + d → rowLen plan i = rowLen plan 0 ∧ 1 ≤ rowLen plan i ∧ rowLen plan i ≤ 5 := by
  induction d with
  | zero => intro y; simp [tabsB]; intro i h1 h2; omega
  | succ d ih =>
    intro y
    rw [tabsB, tabY, Bool.and_eq_true, Bool.and_eq_true, Bool.and_eq_true, decide_eq_true_eq, decide_eq_true_eq, decide_eq_true_eq, ih]
    constructor
    · rintro ⟨h1, h2⟩ i hi hi2
      by_cases e : i = y
      · subst e; exact h1
      · exact h2 i (by omega) (by omega)
    · intro h
      exact ⟨h y (Nat.le_refl _) (by omega), fun i hi hi2 => h i (by omega) (by omega)⟩
theorem borsB_iff (C : Int) (plan bs : List (List Int)) (d : Nat) : ∀ y, borsB C plan bs d y = true ↔ ∀ i, y ≤ i → i < y + d → borB C plan bs i = true := by
  induction d with
  | zero => intro y; simp [borsB]; intro i h1 h2; omega
  | succ d ih =>
    intro y
    rw [borsB, Bool.and_eq_true, ih]
    constructor
    · rintro ⟨h1, h2⟩ i hi hi2
      by_cases e : i = y
      · subst e; exact h1
      · exact h2 i (by omega) (by omega)
    · intro h
      exact ⟨h y (Nat.le_refl _) (by omega), fun i hi hi2 => h i (by omega) (by omega)⟩
theorem plan_same (m : Int) (plan : List (List Int)) : (entsB m plan plan.length 0 && tab5 plan) = (sizeB plan && rowsB m plan plan.length 0) := by
  rw [Bool.eq_iff_iff]
  simp only [Bool.and_eq_true, tab5, sizeB, decide_eq_true_eq, entsB_iff, tabsB_iff, rowsB_iff]
  constructor
  · rintro ⟨h1, h2, h3, h4⟩
    have h0 := h4 0 (Nat.le_refl _) (by omega)
    exact ⟨⟨h2, h3, h0.2.1, h0.2.2⟩, fun i hi hi2 => ⟨(h4 i hi hi2).1, h1 i hi hi2⟩⟩
  · rintro ⟨⟨h2, h3, h5, h6⟩, h4⟩
    exact ⟨fun i hi hi2 => (h4 i hi hi2).2, h2, h3, fun i hi hi2 => ⟨(h4 i hi hi2).1, by rw [(h4 i hi hi2).1]; exact h5, by rw [(h4 i hi hi2).1]; exact h6⟩⟩
theorem implPlan_ev (C : Int) (l : List STile) (plan bs : List (List Int)) (hl : l.length ≤ 35184372088832) (hp : plan.length ≤ 10000000) (hr : ∀ r ∈ plan, r.length ≤ 10000000) (hb : bs.length ≤ 10000000) : Ev (fun n => impl_planCode.f n C l plan bs) (planR C (l.map toT) plan bs) := by
  have hin : inLim l.length = true := by simpa [inLim] using hl
  unfold planR
  rw [List.length_map]
  cases hs : isS C (l.map toT)
  · refine Ev.congr (fun n => ?_) (Ev.now _)
    rw [impl_planCode.f, impl_setCode_at_impl_planCode_1.f, impl_IsSet.f, if_pos hin, hs]; rfl
  · obtain ⟨⟨c1, c6⟩, hl16, -⟩ := isS_iff.1 hs
    rw [List.length_map] at hl16
    rw [if_pos rfl]
    have hcl : Ev (fun n => impl_planCode_1.f n C l plan bs) (planB C l.length plan bs) := by
      have hP := isPlan_ev C l plan (by omega) hp hr
      rw [plan_same] at hP
      refine Ev.congr (f := fun n => (impl_Set_isPlan.f n C l plan).bind fun t => if t = true then ((impl_Set_areBorders.f n C l plan bs).bind fun u => some u) else some false) (fun n => by rw [impl_planCode_1.f]) (Ev.bind hP ?_)
      cases hq : (sizeB plan && rowsB l.length plan plan.length 0)
      · have e : planB C l.length plan bs = false := by
          rw [planB]
          rw [Bool.and_eq_false_iff] at hq
          rcases hq with hq | hq
          · rw [hq]; rfl
          · rw [hq, Bool.false_and, Bool.and_false, Bool.and_false]
        rw [e]
        exact Ev.congr (fun n => rfl) (Ev.now _)
      · obtain ⟨q1, q2⟩ := Bool.and_eq_true_iff.1 hq
        have e : planB C l.length plan bs = (decide (bs.length = 4) && borsB C plan bs 4 0) := by rw [planB, q1, q2, Bool.true_and, Bool.true_and]
        rw [e]
        have q3 := q1
        simp only [sizeB, Bool.and_eq_true, decide_eq_true_eq] at q3
        by_cases z4 : bs.length = 4
        · have z4' : (bs.length : Int) = 4 := by omega
          rw [decide_eq_true z4, Bool.true_and]
          refine Ev.congr (f := fun n => (impl_Set_areBorders.l0 n plan bs (bs.length : Int) 0 C l).bind fun u => some u) (fun n => by rw [if_pos rfl, impl_Set_areBorders.f, if_pos z4']) (Ev.bind (implBors_ev C l plan bs ⟨by omega, by omega⟩ q3.1 q3.2.1 q3.2.2.2 z4 4 0 (by omega)) (Ev.now _))
        · have z4' : ¬ (bs.length : Int) = 4 := by omega
          rw [decide_eq_false z4, Bool.false_and]
          refine Ev.congr (fun n => by rw [if_pos rfl, impl_Set_areBorders.f, if_neg z4']; rfl) (Ev.now _)
    refine Ev.congr (f := fun n => (impl_planCode_1.f n C l plan bs).bind fun b => if b = true then some 0 else some 2) (fun n => ?_) (Ev.bind hcl ?_)
    · rw [impl_planCode.f, impl_setCode_at_impl_planCode_1.f, impl_IsSet.f, if_pos hin, hs]
      simp only [Option.bind_some, if_true]
      cases impl_planCode_1.f n C l plan bs with
      | none => rfl
      | some b => cases b <;> rfl
    · cases planB C l.length plan bs
      · exact Ev.congr (fun n => rfl) (Ev.now _)
      · exact Ev.congr (fun n => rfl) (Ev.now _)
theorem plan_shape {C m : Int} {plan bs : List (List Int)} (h : planB C m plan bs = true) : Shape plan bs := by
  simp only [planB, sizeB, Bool.and_eq_true, decide_eq_true_eq, rowsB_iff, borsB_iff] at h
  obtain ⟨⟨h1, h5, w1, w5⟩, h4, hr, hb⟩ := h
  refine ⟨h1, h5, w1, w5, fun y hy => (hr y (Nat.zero_le _) (by omega)).1, h4, fun k hk => ?_⟩
  have := hb k (Nat.zero_le _) (by omega)
  simp only [borB, Bool.and_eq_true, Bool.or_eq_true, decide_eq_true_eq] at this
  exact this.1
end Go.Proofs.Ytcaikaflpmaocaa
namespace Go.Proofs.Ytcaikaflpmaocaa.Q
open Go.RowKit Go.Proofs.YtcaikaflpmaocaaW.PrintWords Go.Proofs.YtcaikaflpmaocaaW.PrintLast Go.Proofs.YtcaikaflpmaocaaW.PrintMore
attribute [local go_sem] max2_int min2_int max_two min_two max_three min_three max_four min_four
set_option linter.unusedVariables false
set_option linter.unusedSimpArgs false
def spec_CountFillings.f (k : Nat) (a0_0 : Int) (l0_1 : List (S85)) (l1 : List (List Int)) (l2 : List (List Int)) : Option (Int × Int) := (spec_l03Plan.f k a0_0 l0_1 l1 l2).bind fun t303 => (if t303 = 0 then ((spec_l03Layers.f k a0_0 l0_1 l1 l2).bind fun t304 => (if 0 < (t304.length : Int) then (if 0 < ((rd_L1 t304 0).length : Int) then (if (rd (rd_L1 t304 0) 0) > 1000000000000000 then (some (0, 3)) else (some (rd (rd_L1 t304 0) 0, 0))) else (none)) else (none))) else (some (0, t303)))
theorem spec_CountFillings.mono : ∀ a0 a1 a2 a3 k, LeO (spec_CountFillings.f k a0 a1 a2 a3) (spec_CountFillings.f (k + 1) a0 a1 a2 a3) := by
 intro a0 a1 a2 a3 k
 unfold spec_CountFillings.f
 repeat' first
   | (with_reducible exact spec_l03Layers.mono _ _ _ _ _)
   | (with_reducible exact spec_l03Plan.mono _ _ _ _ _)
   | (with_reducible exact LeO.refl _)
   | (with_reducible exact LeO.none _)
   | (with_reducible refine LeO.ite ?_ ?_)
   | (with_reducible refine LeO.bind ?_ (fun _ => ?_))
   | exact spec_l03Layers.mono _ _ _ _ _
   | exact spec_l03Plan.mono _ _ _ _ _
   | exact LeO.none _
   | refine LeO.ite ?_ ?_
   | refine LeO.bind ?_ (fun _ => ?_)
set_option maxHeartbeats 8000000 in
set_option maxRecDepth 100000 in
theorem spec_CountFillings.calls (k : Nat) (a0_0 : Int) (A0_1 : Option Addr) (c0_1 : Nat) (l0_1 : List (S85)) (A1 : Option Addr) (c1 : Nat) (l1 : List (List Int)) (A2 : Option Addr) (c2 : Nat) (l2 : List (List Int)) (r1 : Int) (r2 : Int) (w : World) (hr0_1 : Kd.C k85 w A0_1 l0_1.length l0_1) (hc0_1 : l0_1.length ≤ c0_1) (hr1 : Kd.C (Kd.slice 2 (Kd.int .i64)) w A1 l1.length l1) (hc1 : l1.length ≤ c1) (hr2 : Kd.C (Kd.slice 2 (Kd.int .i64)) w A2 l2.length l2) (hc2 : l2.length ≤ c2) (h : spec_CountFillings.f k a0_0 l0_1 l1 l2 = some (r1, r2)) :
  Calls Try.prog 26 #[.agg #[.int .i64 a0_0, .slice A0_1 l0_1.length c0_1], .slice A1 l1.length c1, .slice A2 l2.length c2] w fun e w' => e = .returned (.tuple #[.int .i64 r1, .int .i64 r2]) ∧ Below w.heap.size w w' := by
 have hu36 := Try.underlying36
 have HR0_1 := Aside0.mk hr0_1
 have HC0_1 := Aside0.mk hc0_1
 clear hr0_1 hc0_1
 have HR1 := Aside0.mk hr1
 have HC1 := Aside0.mk hc1
 clear hr1 hc1
 have HR2 := Aside0.mk hr2
 have HC2 := Aside0.mk hc2
 clear hr2 hc2
 have HB := Aside0.mk (Below.refl w.heap.size w)
 have H : ((spec_l03Plan.f k a0_0 l0_1 l1 l2).bind fun t303 => (if t303 = 0 then ((spec_l03Layers.f k a0_0 l0_1 l1 l2).bind fun t304 => (if 0 < (t304.length : Int) then (if 0 < ((rd_L1 t304 0).length : Int) then (if (rd (rd_L1 t304 0) 0) > 1000000000000000 then (some (0, 3)) else (some (rd (rd_L1 t304 0) 0, 0))) else (none)) else (none))) else (some (0, t303)))) = some (r1, r2) := h
 clear h
 replace H := Option.bind_eq_some_iff.mp H
 obtain ⟨t303, A40, H⟩ := H
 replace H : (if t303 = 0 then ((spec_l03Layers.f k a0_0 l0_1 l1 l2).bind fun t304 => (if 0 < (t304.length : Int) then (if 0 < ((rd_L1 t304 0).length : Int) then (if (rd (rd_L1 t304 0) 0) > 1000000000000000 then (some (0, 3)) else (some (rd (rd_L1 t304 0) 0, 0))) else (none)) else (none))) else (some (0, t303))) = some (r1, r2) := H
 have A4 := Aside0.mk A40
 clear A40
 by_cases c5 : t303 = 0
 ·rw [if_pos c5] at H
  have c5b0 : (t303 == 0) = true := beq_iff_eq.mpr c5
  have c5b1 : (t303 != 0) = false := bne_eq_false_iff_eq.mpr c5
  clear c5
  replace H := Option.bind_eq_some_iff.mp H
  obtain ⟨t304, A60, H⟩ := H
  replace H : (if 0 < (t304.length : Int) then (if 0 < ((rd_L1 t304 0).length : Int) then (if (rd (rd_L1 t304 0) 0) > 1000000000000000 then (some (0, 3)) else (some (rd (rd_L1 t304 0) 0, 0))) else (none)) else (none)) = some (r1, r2) := H
  have A6 := Aside0.mk A60
  clear A60
  by_cases c7 : 0 < (t304.length : Int)
  ·rw [if_pos c7] at H
   have c7b0 : decide (0 < (t304.length : Int)) = true := decide_eq_true c7
   have c7b1 : decide (0 < t304.length) = true := decide_eq_true (by omega)
   clear c7
   by_cases c8 : 0 < ((rd_L1 t304 0).length : Int)
   ·rw [if_pos c8] at H
    have c8b0 : decide (0 < ((rd_L1 t304 0).length : Int)) = true := decide_eq_true c8
    have c8b1 : decide (0 < (rd_L1 t304 0).length) = true := decide_eq_true (by omega)
    clear c8
    by_cases c9 : (rd (rd_L1 t304 0) 0) > 1000000000000000
    ·rw [if_pos c9] at H
     have c9b0 : decide (1000000000000000 < (rd (rd_L1 t304 0) 0)) = true := decide_eq_true c9
     clear c9
     simp only [Option.some.injEq, Prod.mk.injEq] at H
     obtain ⟨rfl, rfl⟩ := H
     go_enter Try.func26, Try.ntmps26
     go_wp2_with (first | ((with_reducible refine gate_dst (N := 3) rfl ?_); refine box_event ?hg (N := 3) ?hd (cs := #[.int .i64 a0_0, .slice A0_1 l0_1.length c0_1]) (t := 36) ?hr ?_; (case hd => rfl); (case hg => rfl); (case hr => first | (go_simp; done) | (go_simp; rfl)); intro gb302 hg w10 hbox hb; have n0_ := Aside0.mk (below_step (by repeat (first | (with_reducible first | exact HB.out | apply below_alloc | apply pw_below_drewN | apply below_drew1) | exact HB.out)) hb); have n1_ := Aside0.mk (hbox); have n2_ := Aside0.mk ((by rw [hg]; exact (below_size (by repeat (first | (with_reducible first | exact HB.out | apply below_alloc | apply pw_below_drewN | apply below_drew1) | exact HB.out))) : w.heap.size ≤ gb302)); have n3_ := Aside0.mk ((by rw [hg]; exact (below_size (by repeat (first | (with_reducible first | exact HB.out | apply below_alloc | apply pw_below_drewN | apply below_drew1) | exact HB.out))) : w.heap.size ≤ gb302)); clear HB; have HB := n0_; have BK302 := n1_; have GW302 := n2_; have GE302 := n3_; clear n0_ n1_ n2_ n3_; clear hb hbox hg; have hcz11_0 : w10.cell? ⟨gb302, 0, none⟩ = some (.int .i64 a0_0) := (blk_cell BK302.out 0).trans rfl; have hcz11_1 : w10.cell? ⟨gb302, 1, none⟩ = some (.slice A0_1 l0_1.length c0_1) := (blk_cell BK302.out 1).trans rfl; have hfz11_0 := blk_frozen BK302.out 0; have hfz11_1 := blk_frozen BK302.out 1) | ((with_reducible refine gate_callee (f := 56) rfl ?_); refine goesL_ (some 13) rfl rfl Try.func56 (by kernel_rfl) rfl #[.agg #[.int .i64 a0_0, .slice A0_1 l0_1.length c0_1], .slice A1 l1.length c1, .slice A2 l2.length c2] rfl (by (try simp only [List.map_toArray, List.map_cons, List.map_nil]); first | done | rfl | (simp only [List.length_drop, List.length_take]; rfl)) ?_; (with_reducible refine (spec_l03Plan.calls k a0_0 _ _ l0_1 _ _ l1 _ _ l2 t303 _ ?side1 ?side2 ?side3 ?side4 ?side5 ?side6 A4.out).mono ?_); (case side1 => repeat (first | exact (Kd.C_below HR0_1.out HB.out) | (with_reducible refine Kd.C_alloc ?_ _) | (with_reducible refine Kd.C_drewN ?_ _) | (with_reducible refine Kd.C_drew ?_))); (case side2 => exact HC0_1.out); (case side3 => repeat (first | exact (Kd.C_below HR1.out HB.out) | (with_reducible refine Kd.C_alloc ?_ _) | (with_reducible refine Kd.C_drewN ?_ _) | (with_reducible refine Kd.C_drew ?_))); (case side4 => exact HC1.out); (case side5 => repeat (first | exact (Kd.C_below HR2.out HB.out) | (with_reducible refine Kd.C_alloc ?_ _) | (with_reducible refine Kd.C_drewN ?_ _) | (with_reducible refine Kd.C_drew ?_))); (case side6 => exact HC2.out); rintro e w12 ⟨rfl, hb⟩; refine ⟨_, rfl, ?_⟩; have n0_ := Aside0.mk (blk_below (g := gb302) (o := .cells #[.int .i64 a0_0, .slice A0_1 l0_1.length c0_1] 36 (0, 0)) (by (with_reducible repeat (first | refine blk_drewN ?_ _ | refine blk_drew ?_ | refine blk_alloc ?_ _)); exact BK302.out) hb); have n1_ := Aside0.mk (below_step (by repeat (first | (with_reducible first | exact HB.out | apply below_alloc | apply pw_below_drewN | apply below_drew1 | refine below_set ?_ GE302.out) | exact HB.out)) hb); clear BK302; clear HB; have BK302 := n0_; have HB := n1_; clear n0_ n1_; (try clear hb); (try clear hb2); (try clear hk); (try clear hi); have hcz13_0 : w12.cell? ⟨gb302, 0, none⟩ = some (.int .i64 a0_0) := (blk_cell BK302.out 0).trans rfl; have hcz13_1 : w12.cell? ⟨gb302, 1, none⟩ = some (.slice A0_1 l0_1.length c0_1) := (blk_cell BK302.out 1).trans rfl; have hfz13_0 := blk_frozen BK302.out 0; have hfz13_1 := blk_frozen BK302.out 1) | ((with_reducible refine gate_callee (f := 57) rfl ?_); refine goesL_ (some 20) rfl rfl Try.func57 (by kernel_rfl) rfl #[.agg #[.int .i64 a0_0, .slice A0_1 l0_1.length c0_1], .slice A1 l1.length c1, .slice A2 l2.length c2] rfl (by (try simp only [List.map_toArray, List.map_cons, List.map_nil]); first | done | rfl | (simp only [List.length_drop, List.length_take]; rfl)) ?_; (with_reducible refine (spec_l03Layers.calls k a0_0 _ _ l0_1 _ _ l1 _ _ l2 t304 _ ?side1 ?side2 ?side3 ?side4 ?side5 ?side6 A6.out).mono ?_); (case side1 => repeat (first | exact (Kd.C_below HR0_1.out HB.out) | (with_reducible refine Kd.C_alloc ?_ _) | (with_reducible refine Kd.C_drewN ?_ _) | (with_reducible refine Kd.C_drew ?_))); (case side2 => exact HC0_1.out); (case side3 => repeat (first | exact (Kd.C_below HR1.out HB.out) | (with_reducible refine Kd.C_alloc ?_ _) | (with_reducible refine Kd.C_drewN ?_ _) | (with_reducible refine Kd.C_drew ?_))); (case side4 => exact HC1.out); (case side5 => repeat (first | exact (Kd.C_below HR2.out HB.out) | (with_reducible refine Kd.C_alloc ?_ _) | (with_reducible refine Kd.C_drewN ?_ _) | (with_reducible refine Kd.C_drew ?_))); (case side6 => exact HC2.out); rintro e w14 ⟨v305, rfl, ho0, hb⟩; refine ⟨_, rfl, ?_⟩; have n0_ := Aside0.mk (Kd.S_lower ho0 (below_size (by repeat (first | (with_reducible first | exact HB.out | apply below_alloc | apply pw_below_drewN | apply below_drew1 | refine below_set ?_ GE302.out) | exact HB.out)))); have n1_ := Aside0.mk (blk_below (g := gb302) (o := .cells #[.int .i64 a0_0, .slice A0_1 l0_1.length c0_1] 36 (0, 0)) (by (with_reducible repeat (first | refine blk_drewN ?_ _ | refine blk_drew ?_ | refine blk_alloc ?_ _)); exact BK302.out) hb); have n2_ := Aside0.mk (below_step (by repeat (first | (with_reducible first | exact HB.out | apply below_alloc | apply pw_below_drewN | apply below_drew1 | refine below_set ?_ GE302.out) | exact HB.out)) hb); clear BK302; clear HB; have HO306 := n0_; have BK302 := n1_; have HB := n2_; clear n0_ n1_ n2_; (try clear hb); (try clear hb2); (try clear hk); (try clear hi); (try clear ho0); obtain ⟨Ao15, co15, eo15⟩ := Kd.S_slice HO306.out; subst eo15; have p307 : 0 ≤ (0 : Int) := (by omega); have q307 : 0 < (t304.length : Int) := of_decide_eq_true (by first | (with_reducible assumption) | assumption); obtain ⟨ad307, A307_0, c307_0, e307, hx307_0, hl307_0, hi307_0⟩ := at_L1 (Kd.S_reads' HO306.out).2.2 0 p307 q307; cases e307; obtain ⟨ce307, hce307, hMe307, hcc307⟩ := Kd.S_get HO306.out [] 0 p307 (by first | exact q307 | exact of_decide_eq_true (by first | (with_reducible assumption) | assumption) | (have e_ := (Kd.S_reads' HO306.out).1; omega)); obtain ⟨ve307_0, rfl, ge307_0⟩ := hMe307; have hv307_0 := hcc307 0 _ rfl; rw [Nat.add_zero, show ((Kd.slice 2 (Kd.int .i64))).sz = 1 from rfl, Nat.mul_one] at hv307_0; replace hv307_0 := Option.some.inj (hv307_0.symm.trans hx307_0); rw [hv307_0] at ge307_0; have HL307_0 := Aside0.mk (show Kd.R (Kd.int .i64) 2 _ _ _ _ (rd_L1 t304 0) from ge307_0); clear hv307_0 ge307_0; clear hcc307 hce307; have qi307 : (0 < t304.length) = True := eq_true (by omega); (try rw [show ((0 : Int)).toNat = 0 from rfl] at hx307_0); (try rw [Addr.add_zero'] at hx307_0); have HR307_0 := Aside0.mk hi307_0; have HC307_0 := Aside0.mk hl307_0; clear hi307_0 hl307_0; replace p307 := eq_true p307; replace q307 := eq_true q307; have p308 : 0 ≤ (0 : Int) := (by omega); have q308 : 0 < ((rd_L1 t304 0).length : Int) := of_decide_eq_true (by first | (with_reducible assumption) | assumption); obtain ⟨ad308, e308, hx308_0⟩ := Kd.at_int (by repeat (first | (with_reducible exact HR307_0.out) | (with_reducible refine Kd.C_alloc ?_ _) | (with_reducible refine Kd.C_drewN ?_ _) | (with_reducible refine Kd.C_drew ?_) | exact HR307_0.out)) 0 p308 q308; cases e308; have qi308 : (0 < (rd_L1 t304 0).length) = True := eq_true (by omega); (try rw [show ((0 : Int)).toNat = 0 from rfl] at hx308_0); (try rw [Addr.add_zero'] at hx308_0); replace p308 := eq_true p308; replace q308 := eq_true q308))
     go_ret2
     exact ⟨by first | rfl | (simp [errW_none, errW_some] <;> rfl) | (simp [*, errW_none, errW_some] <;> rfl), by repeat (first | (with_reducible first | exact HB.out | apply below_alloc | apply pw_below_drewN | apply below_drew1 | refine below_set ?_ GE302.out) | exact HB.out)⟩
    ·rw [if_neg c9] at H
     have c9b0 : decide (1000000000000000 < (rd (rd_L1 t304 0) 0)) = false := decide_eq_false c9
     clear c9
     simp only [Option.some.injEq, Prod.mk.injEq] at H
     obtain ⟨rfl, rfl⟩ := H
     go_enter Try.func26, Try.ntmps26
     go_wp2_with (first | ((with_reducible refine gate_dst (N := 3) rfl ?_); refine box_event ?hg (N := 3) ?hd (cs := #[.int .i64 a0_0, .slice A0_1 l0_1.length c0_1]) (t := 36) ?hr ?_; (case hd => rfl); (case hg => rfl); (case hr => first | (go_simp; done) | (go_simp; rfl)); intro gb302 hg w16 hbox hb; have n0_ := Aside0.mk (below_step (by repeat (first | (with_reducible first | exact HB.out | apply below_alloc | apply pw_below_drewN | apply below_drew1) | exact HB.out)) hb); have n1_ := Aside0.mk (hbox); have n2_ := Aside0.mk ((by rw [hg]; exact (below_size (by repeat (first | (with_reducible first | exact HB.out | apply below_alloc | apply pw_below_drewN | apply below_drew1) | exact HB.out))) : w.heap.size ≤ gb302)); have n3_ := Aside0.mk ((by rw [hg]; exact (below_size (by repeat (first | (with_reducible first | exact HB.out | apply below_alloc | apply pw_below_drewN | apply below_drew1) | exact HB.out))) : w.heap.size ≤ gb302)); clear HB; have HB := n0_; have BK302 := n1_; have GW302 := n2_; have GE302 := n3_; clear n0_ n1_ n2_ n3_; clear hb hbox hg; have hcz17_0 : w16.cell? ⟨gb302, 0, none⟩ = some (.int .i64 a0_0) := (blk_cell BK302.out 0).trans rfl; have hcz17_1 : w16.cell? ⟨gb302, 1, none⟩ = some (.slice A0_1 l0_1.length c0_1) := (blk_cell BK302.out 1).trans rfl; have hfz17_0 := blk_frozen BK302.out 0; have hfz17_1 := blk_frozen BK302.out 1) | ((with_reducible refine gate_callee (f := 56) rfl ?_); refine goesL_ (some 13) rfl rfl Try.func56 (by kernel_rfl) rfl #[.agg #[.int .i64 a0_0, .slice A0_1 l0_1.length c0_1], .slice A1 l1.length c1, .slice A2 l2.length c2] rfl (by (try simp only [List.map_toArray, List.map_cons, List.map_nil]); first | done | rfl | (simp only [List.length_drop, List.length_take]; rfl)) ?_; (with_reducible refine (spec_l03Plan.calls k a0_0 _ _ l0_1 _ _ l1 _ _ l2 t303 _ ?side1 ?side2 ?side3 ?side4 ?side5 ?side6 A4.out).mono ?_); (case side1 => repeat (first | exact (Kd.C_below HR0_1.out HB.out) | (with_reducible refine Kd.C_alloc ?_ _) | (with_reducible refine Kd.C_drewN ?_ _) | (with_reducible refine Kd.C_drew ?_))); (case side2 => exact HC0_1.out); (case side3 => repeat (first | exact (Kd.C_below HR1.out HB.out) | (with_reducible refine Kd.C_alloc ?_ _) | (with_reducible refine Kd.C_drewN ?_ _) | (with_reducible refine Kd.C_drew ?_))); (case side4 => exact HC1.out); (case side5 => repeat (first | exact (Kd.C_below HR2.out HB.out) | (with_reducible refine Kd.C_alloc ?_ _) | (with_reducible refine Kd.C_drewN ?_ _) | (with_reducible refine Kd.C_drew ?_))); (case side6 => exact HC2.out); rintro e w18 ⟨rfl, hb⟩; refine ⟨_, rfl, ?_⟩; have n0_ := Aside0.mk (blk_below (g := gb302) (o := .cells #[.int .i64 a0_0, .slice A0_1 l0_1.length c0_1] 36 (0, 0)) (by (with_reducible repeat (first | refine blk_drewN ?_ _ | refine blk_drew ?_ | refine blk_alloc ?_ _)); exact BK302.out) hb); have n1_ := Aside0.mk (below_step (by repeat (first | (with_reducible first | exact HB.out | apply below_alloc | apply pw_below_drewN | apply below_drew1 | refine below_set ?_ GE302.out) | exact HB.out)) hb); clear BK302; clear HB; have BK302 := n0_; have HB := n1_; clear n0_ n1_; (try clear hb); (try clear hb2); (try clear hk); (try clear hi); have hcz19_0 : w18.cell? ⟨gb302, 0, none⟩ = some (.int .i64 a0_0) := (blk_cell BK302.out 0).trans rfl; have hcz19_1 : w18.cell? ⟨gb302, 1, none⟩ = some (.slice A0_1 l0_1.length c0_1) := (blk_cell BK302.out 1).trans rfl; have hfz19_0 := blk_frozen BK302.out 0; have hfz19_1 := blk_frozen BK302.out 1) | ((with_reducible refine gate_callee (f := 57) rfl ?_); refine goesL_ (some 20) rfl rfl Try.func57 (by kernel_rfl) rfl #[.agg #[.int .i64 a0_0, .slice A0_1 l0_1.length c0_1], .slice A1 l1.length c1, .slice A2 l2.length c2] rfl (by (try simp only [List.map_toArray, List.map_cons, List.map_nil]); first | done | rfl | (simp only [List.length_drop, List.length_take]; rfl)) ?_; (with_reducible refine (spec_l03Layers.calls k a0_0 _ _ l0_1 _ _ l1 _ _ l2 t304 _ ?side1 ?side2 ?side3 ?side4 ?side5 ?side6 A6.out).mono ?_); (case side1 => repeat (first | exact (Kd.C_below HR0_1.out HB.out) | (with_reducible refine Kd.C_alloc ?_ _) | (with_reducible refine Kd.C_drewN ?_ _) | (with_reducible refine Kd.C_drew ?_))); (case side2 => exact HC0_1.out); (case side3 => repeat (first | exact (Kd.C_below HR1.out HB.out) | (with_reducible refine Kd.C_alloc ?_ _) | (with_reducible refine Kd.C_drewN ?_ _) | (with_reducible refine Kd.C_drew ?_))); (case side4 => exact HC1.out); (case side5 => repeat (first | exact (Kd.C_below HR2.out HB.out) | (with_reducible refine Kd.C_alloc ?_ _) | (with_reducible refine Kd.C_drewN ?_ _) | (with_reducible refine Kd.C_drew ?_))); (case side6 => exact HC2.out); rintro e w20 ⟨v305, rfl, ho0, hb⟩; refine ⟨_, rfl, ?_⟩; have n0_ := Aside0.mk (Kd.S_lower ho0 (below_size (by repeat (first | (with_reducible first | exact HB.out | apply below_alloc | apply pw_below_drewN | apply below_drew1 | refine below_set ?_ GE302.out) | exact HB.out)))); have n1_ := Aside0.mk (blk_below (g := gb302) (o := .cells #[.int .i64 a0_0, .slice A0_1 l0_1.length c0_1] 36 (0, 0)) (by (with_reducible repeat (first | refine blk_drewN ?_ _ | refine blk_drew ?_ | refine blk_alloc ?_ _)); exact BK302.out) hb); have n2_ := Aside0.mk (below_step (by repeat (first | (with_reducible first | exact HB.out | apply below_alloc | apply pw_below_drewN | apply below_drew1 | refine below_set ?_ GE302.out) | exact HB.out)) hb); clear BK302; clear HB; have HO306 := n0_; have BK302 := n1_; have HB := n2_; clear n0_ n1_ n2_; (try clear hb); (try clear hb2); (try clear hk); (try clear hi); (try clear ho0); obtain ⟨Ao21, co21, eo21⟩ := Kd.S_slice HO306.out; subst eo21; have p307 : 0 ≤ (0 : Int) := (by omega); have q307 : 0 < (t304.length : Int) := of_decide_eq_true (by first | (with_reducible assumption) | assumption); obtain ⟨ad307, A307_0, c307_0, e307, hx307_0, hl307_0, hi307_0⟩ := at_L1 (Kd.S_reads' HO306.out).2.2 0 p307 q307; cases e307; obtain ⟨ce307, hce307, hMe307, hcc307⟩ := Kd.S_get HO306.out [] 0 p307 (by first | exact q307 | exact of_decide_eq_true (by first | (with_reducible assumption) | assumption) | (have e_ := (Kd.S_reads' HO306.out).1; omega)); obtain ⟨ve307_0, rfl, ge307_0⟩ := hMe307; have hv307_0 := hcc307 0 _ rfl; rw [Nat.add_zero, show ((Kd.slice 2 (Kd.int .i64))).sz = 1 from rfl, Nat.mul_one] at hv307_0; replace hv307_0 := Option.some.inj (hv307_0.symm.trans hx307_0); rw [hv307_0] at ge307_0; have HL307_0 := Aside0.mk (show Kd.R (Kd.int .i64) 2 _ _ _ _ (rd_L1 t304 0) from ge307_0); clear hv307_0 ge307_0; clear hcc307 hce307; have qi307 : (0 < t304.length) = True := eq_true (by omega); (try rw [show ((0 : Int)).toNat = 0 from rfl] at hx307_0); (try rw [Addr.add_zero'] at hx307_0); have HR307_0 := Aside0.mk hi307_0; have HC307_0 := Aside0.mk hl307_0; clear hi307_0 hl307_0; replace p307 := eq_true p307; replace q307 := eq_true q307; have p308 : 0 ≤ (0 : Int) := (by omega); have q308 : 0 < ((rd_L1 t304 0).length : Int) := of_decide_eq_true (by first | (with_reducible assumption) | assumption); obtain ⟨ad308, e308, hx308_0⟩ := Kd.at_int (by repeat (first | (with_reducible exact HR307_0.out) | (with_reducible refine Kd.C_alloc ?_ _) | (with_reducible refine Kd.C_drewN ?_ _) | (with_reducible refine Kd.C_drew ?_) | exact HR307_0.out)) 0 p308 q308; cases e308; have qi308 : (0 < (rd_L1 t304 0).length) = True := eq_true (by omega); (try rw [show ((0 : Int)).toNat = 0 from rfl] at hx308_0); (try rw [Addr.add_zero'] at hx308_0); replace p308 := eq_true p308; replace q308 := eq_true q308))
     go_ret2
     exact ⟨by first | rfl | (simp [errW_none, errW_some] <;> rfl) | (simp [*, errW_none, errW_some] <;> rfl), by repeat (first | (with_reducible first | exact HB.out | apply below_alloc | apply pw_below_drewN | apply below_drew1 | refine below_set ?_ GE302.out) | exact HB.out)⟩
   ·rw [if_neg c8] at H
    exact absurd H (by simp)
  ·rw [if_neg c7] at H
   exact absurd H (by simp)
 ·rw [if_neg c5] at H
  have c5b0 : (t303 == 0) = false := beq_eq_false_iff_ne.mpr c5
  have c5b1 : (t303 != 0) = true := bne_iff_ne.mpr c5
  simp only [Option.some.injEq, Prod.mk.injEq] at H
  obtain ⟨rfl, rfl⟩ := H
  go_enter Try.func26, Try.ntmps26
  go_wp2_with (first | ((with_reducible refine gate_dst (N := 3) rfl ?_); refine box_event ?hg (N := 3) ?hd (cs := #[.int .i64 a0_0, .slice A0_1 l0_1.length c0_1]) (t := 36) ?hr ?_; (case hd => rfl); (case hg => rfl); (case hr => first | (go_simp; done) | (go_simp; rfl)); intro gb302 hg w22 hbox hb; have n0_ := Aside0.mk (below_step (by repeat (first | (with_reducible first | exact HB.out | apply below_alloc | apply pw_below_drewN | apply below_drew1) | exact HB.out)) hb); have n1_ := Aside0.mk (hbox); have n2_ := Aside0.mk ((by rw [hg]; exact (below_size (by repeat (first | (with_reducible first | exact HB.out | apply below_alloc | apply pw_below_drewN | apply below_drew1) | exact HB.out))) : w.heap.size ≤ gb302)); have n3_ := Aside0.mk ((by rw [hg]; exact (below_size (by repeat (first | (with_reducible first | exact HB.out | apply below_alloc | apply pw_below_drewN | apply below_drew1) | exact HB.out))) : w.heap.size ≤ gb302)); clear HB; have HB := n0_; have BK302 := n1_; have GW302 := n2_; have GE302 := n3_; clear n0_ n1_ n2_ n3_; clear hb hbox hg; have hcz23_0 : w22.cell? ⟨gb302, 0, none⟩ = some (.int .i64 a0_0) := (blk_cell BK302.out 0).trans rfl; have hcz23_1 : w22.cell? ⟨gb302, 1, none⟩ = some (.slice A0_1 l0_1.length c0_1) := (blk_cell BK302.out 1).trans rfl; have hfz23_0 := blk_frozen BK302.out 0; have hfz23_1 := blk_frozen BK302.out 1) | ((with_reducible refine gate_callee (f := 56) rfl ?_); refine goesL_ (some 13) rfl rfl Try.func56 (by kernel_rfl) rfl #[.agg #[.int .i64 a0_0, .slice A0_1 l0_1.length c0_1], .slice A1 l1.length c1, .slice A2 l2.length c2] rfl (by (try simp only [List.map_toArray, List.map_cons, List.map_nil]); first | done | rfl | (simp only [List.length_drop, List.length_take]; rfl)) ?_; (with_reducible refine (spec_l03Plan.calls k a0_0 _ _ l0_1 _ _ l1 _ _ l2 t303 _ ?side1 ?side2 ?side3 ?side4 ?side5 ?side6 A4.out).mono ?_); (case side1 => repeat (first | exact (Kd.C_below HR0_1.out HB.out) | (with_reducible refine Kd.C_alloc ?_ _) | (with_reducible refine Kd.C_drewN ?_ _) | (with_reducible refine Kd.C_drew ?_))); (case side2 => exact HC0_1.out); (case side3 => repeat (first | exact (Kd.C_below HR1.out HB.out) | (with_reducible refine Kd.C_alloc ?_ _) | (with_reducible refine Kd.C_drewN ?_ _) | (with_reducible refine Kd.C_drew ?_))); (case side4 => exact HC1.out); (case side5 => repeat (first | exact (Kd.C_below HR2.out HB.out) | (with_reducible refine Kd.C_alloc ?_ _) | (with_reducible refine Kd.C_drewN ?_ _) | (with_reducible refine Kd.C_drew ?_))); (case side6 => exact HC2.out); rintro e w24 ⟨rfl, hb⟩; refine ⟨_, rfl, ?_⟩; have n0_ := Aside0.mk (blk_below (g := gb302) (o := .cells #[.int .i64 a0_0, .slice A0_1 l0_1.length c0_1] 36 (0, 0)) (by (with_reducible repeat (first | refine blk_drewN ?_ _ | refine blk_drew ?_ | refine blk_alloc ?_ _)); exact BK302.out) hb); have n1_ := Aside0.mk (below_step (by repeat (first | (with_reducible first | exact HB.out | apply below_alloc | apply pw_below_drewN | apply below_drew1 | refine below_set ?_ GE302.out) | exact HB.out)) hb); clear BK302; clear HB; have BK302 := n0_; have HB := n1_; clear n0_ n1_; (try clear hb); (try clear hb2); (try clear hk); (try clear hi)))
  go_ret2
  exact ⟨by first | rfl | (simp [errW_none, errW_some] <;> rfl) | (simp [*, errW_none, errW_some] <;> rfl), by repeat (first | (with_reducible first | exact HB.out | apply below_alloc | apply pw_below_drewN | apply below_drew1 | refine below_set ?_ GE302.out) | exact HB.out)⟩
end Go.Proofs.Ytcaikaflpmaocaa.Q
namespace Go.Proofs.Ytcaikaflpmaocaa
open Go Go.RowKit Go.Proofs Go.Proofs.YtcaikaflpmaocaaW.PrintWords Go.Proofs.YtcaikaflpmaocaaW.PrintLast Go.Proofs.YtcaikaflpmaocaaW.PrintMore Go.Proofs.Ytcaikaflpmaocaa.Q
set_option linter.unusedVariables false
set_option linter.unusedSimpArgs false
def fillsR (C : Int) (ts : List T4) (plan bs : List (List Int)) : Int × Int := if planR C ts plan bs = 0 then toldI (numS C.toNat plan bs (ts.map toS)) else (0, planR C ts plan bs)
theorem planR_zero {C : Int} {ts : List T4} {plan bs : List (List Int)} (h : planR C ts plan bs = 0) : isS C ts = true ∧ Shape plan bs := by
  unfold planR at h
  by_cases h1 : isS C ts = true
  · rw [if_pos h1] at h
    by_cases h2 : planB C ts.length plan bs = true
    · exact ⟨h1, plan_shape h2⟩
    · rw [if_neg h2] at h; omega
  · rw [if_neg h1] at h; omega
theorem specFillings_ev (C : Int) (l : List STile) (plan bs : List (List Int)) (hl : l.length ≤ 35184372088832) (hp : plan.length ≤ 10000000) (hw : ∀ k, k < 4 → rowLen bs k ≤ 35184372088832) : Ev (fun n => spec_CountFillings.f n C l plan bs) (fillsR C (l.map toT) plan bs) := by
  refine Ev.congr (f := fun n => (spec_l03Plan.f n C l plan bs).bind fun t => if t = 0 then ((spec_l03Layers.f n C l plan bs).bind fun t304 => (if 0 < (t304.length : Int) then (if 0 < ((rd_L1 t304 0).length : Int) then (if (rd (rd_L1 t304 0) 0) > 1000000000000000 then (some (0, 3)) else (some (rd (rd_L1 t304 0) 0, 0))) else (none)) else (none))) else some (0, t)) (fun n => by rw [spec_CountFillings.f]) (Ev.bind (specPlan_ev C l plan bs hl hp hw) ?_)
  unfold fillsR
  by_cases h0 : planR C (l.map toT) plan bs = 0
  · obtain ⟨hs, hsh⟩ := planR_zero h0
    obtain ⟨hC, hl16, hcol⟩ := isS_cols hs
    rw [if_pos h0, map_toST]
    have hc : 0 < C.toNat := by omega
    have hL := specLayers_ev C C.toNat l plan bs (by omega) hc (by omega) hsh hcol (by omega)
    refine Ev.congr (fun n => if_pos h0) (Ev.bind hL ?_)
    have b1 : (0 : Int) < ((layersT C.toNat plan bs l).length : Int) := by simp [layersT]
    have b2 : (0 : Int) < ((rd_L1 (layersT C.toNat plan bs l) 0).length : Int) := by
      rw [layersT_at, layS, capRow_len]
      exact Int.ofNat_lt.2 (Nat.pow_pos hc)
    have e : (if cap (numS C.toNat plan bs l) > 1000000000000000 then some ((0 : Int), (3 : Int)) else some (cap (numS C.toNat plan bs l), 0)) = some (toldI (numS C.toNat plan bs l)) := by
      rw [← toldI_cap (numS C.toNat plan bs l), toldI]; split <;> rfl
    refine Ev.congr (fun n => ?_) (Ev.now _)
    rw [if_pos b1, if_pos b2, layersT_at, layS_at _ _ _ hc, e]
  · rw [if_neg h0]
    exact Ev.congr (fun n => if_neg h0) (Ev.now _)
theorem nameG {P : Program} {c : Code} {Q : Exit → Act → World → Prop} {a : Act} {w : World} {C1 : Array Value} {E1 : TypeId}
    (h : ∀ W, BK W w.heap.size C1 E1 → Below w.heap.size w W → c.wp P Q a W) : c.wp P Q a (w.alloc (.cells C1 E1)) := h _ (BK.new _ _ _) (below_alloc (Below.refl _ _) _)
set_option maxHeartbeats 4000000 in
set_option maxRecDepth 100000 in
theorem implCountFillings_any (C : Int) (A : Option Addr) (ts : List T4) (n c : Nat) (A1 : Option Addr) (plan : List (List Int)) (m1 c1 : Nat) (A2 : Option Addr) (bs : List (List Int)) (m2 c2 : Nat) (w : World)
    (hn : n = ts.length) (hA : RT w A ts) (hnc : n ≤ c) (hl : n ≤ 35184372088832) (hm1 : m1 = plan.length) (hA1 : RR w A1 plan) (hc1 : m1 ≤ c1) (hl1 : m1 ≤ 10000000 ∧ rowsz0 plan ≤ 10000000) (hm2 : m2 = bs.length) (hA2 : RR w A2 bs) (hc2 : m2 ≤ c2) (hl2 : m2 ≤ 10000000 ∧ rowsz0 bs ≤ 10000000) :
    Calls Try.prog 28 #[.agg #[.int .i64 C, .slice A n c], .slice A1 m1 c1, .slice A2 m2 c2] w fun e w' => e = .returned (pairI (fillsR C ts plan bs)) ∧ Below w.heap.size w w' := by
  have HN := Lib.hid hn; have HA := Lib.hid hA; have HM1 := Lib.hid hm1; have HA1 := Lib.hid hA1; have HM2 := Lib.hid hm2; have HA2 := Lib.hid hA2; have HL1 := Lib.hid hl1; have HL2 := Lib.hid hl2
  clear hn hA hm1 hA1 hm2 hA2 hl1 hl2
  go_enter Try.func28, Try.ntmps28
  go_upto_region 1 with fail
  refine nameG ?_
  intro W1 b1 hb0
  have z0 : W1.cell? ⟨w.heap.size, 0, none⟩ = some (.int .i64 C) := b1.cell rfl
  have z1 : W1.cell? ⟨w.heap.size, 1, none⟩ = some (.slice A n c) := b1.cell rfl
  have l1 := b1.lt
  have HB1 := Lib.hid b1; have HB0 := Lib.hid hb0
  clear b1 hb0
  go_wp2_with fail
  obtain ⟨k, hk⟩ := (implPlan_ev C (ts.map toS) plan bs (by rw [List.length_map, ← HN.out]; exact hl) (by rw [← HM1.out]; exact HL1.out.1) (rows_lens HL1.out.2) (by rw [← HM2.out]; exact HL2.out.1)).rounds
  have hcalls := impl_planCode.calls k C A c (ts.map toS) A1 c1 plan A2 c2 bs _ W1 (C_of_rt (HA.out.below HB0.out) (by rw [← HN.out]; omega)) (by rw [List.length_map, ← HN.out]; exact hnc) (C_of_rr (HA1.out.below HB0.out) (by rw [← HM1.out]; have := HL1.out.1; omega)) (by rw [← HM1.out]; exact hc1) (C_of_rr (HA2.out.below HB0.out) (by rw [← HM2.out]; have := HL2.out.1; omega)) (by rw [← HM2.out]; exact hc2) hk
  rw [List.length_map, ← HN.out, map_toTS, ← HM1.out, ← HM2.out] at hcalls
  refine hcalls.mono ?_
  clear hcalls hk
  rintro e W2 ⟨rfl, hb2⟩
  have b1 := (hb2.block _ l1).trans HB1.out
  have l1' := BK.lt b1
  have y0 : W2.cell? ⟨w.heap.size, 0, none⟩ = some (.int .i64 C) := BK.cell b1 rfl
  have y1 : W2.cell? ⟨w.heap.size, 1, none⟩ = some (.slice A n c) := BK.cell b1 rfl
  have HE2 := Lib.hid (below_to HB0.out hb2)
  clear b1 hb2 z0 z1 l1
  by_cases h0 : planR C ts plan bs = 0
  · obtain ⟨hs, hsh⟩ := planR_zero h0
    have hs2 : isS C ((ts.map toS).map toT) = true := by rw [map_toTS]; exact hs
    obtain ⟨hC, hl16, hcol⟩ := isS_cols hs2
    have HCOL := Lib.hid hcol; have HC := Lib.hid hC; have HSH := Lib.hid hsh; have H0 := Lib.hid h0
    have HL := Lib.hid (show n ≤ 1000 by rw [HN.out]; simpa using Nat.le_trans hl16 (by omega))
    rw [h0]
    clear hs hs2 hcol hC hl16 h0 hsh
    go_wp2_with fail
    refine (newFiller_any C C.toNat A ts n c A1 plan m1 c1 A2 bs m2 c2 W2 (by have := HC.out; omega) (by have := HC.out; omega) (by have := HC.out; omega) HN.out (HA.out.below HE2.out) HL.out HM1.out (HA1.out.below HE2.out) HM2.out (HA2.out.below HE2.out) HSH.out HCOL.out).mono ?_
    rintro e W9 ⟨F, rfl, hb9, -, hfil⟩
    have HB9 := Lib.hid (below_to HE2.out hb9); have HFIL := Lib.hid hfil
    clear hb9 hfil y0 y1 l1'
    go_wp2_with fail
    refine (fil_count HFIL.out (HA1.out.below HB9.out) HM1.out HSH.out (by have := HC.out; omega) (by have := HC.out; omega) HCOL.out).mono ?_
    rintro e W10 ⟨rfl, hb10⟩
    have HB10 := Lib.hid (below_to HB9.out hb10)
    clear hb10
    go_wp2_with fail
    refine (counted_any _ W10).mono ?_
    rintro e W11 ⟨rfl, hb11⟩
    have HB11 := Lib.hid (below_to HB10.out hb11)
    clear hb11
    have e : fillsR C ts plan bs = toldI (numS C.toNat plan bs (ts.map toS)) := by rw [fillsR, if_pos H0.out]
    have HE := Lib.hid e; clear e
    simp only [pairI]
    go_wp2_with fail
    go_ret2
    exact ⟨congrArg Ending.returned (by rw [HE.out]; rfl), HB11.out⟩
  · have v0 : (planR C ts plan bs != 0) = true := by simp [h0]
    have e : fillsR C ts plan bs = (0, planR C ts plan bs) := by rw [fillsR, if_neg h0]
    have HE := Lib.hid e; clear e
    obtain ⟨z, hz⟩ : ∃ z : Int, z = planR C ts plan bs := ⟨_, rfl⟩
    rw [← hz] at v0 h0 ⊢
    have HZ := Lib.hid hz; clear hz v0
    have v1 : ¬ z = 0 := h0
    go_wp2_with fail
    go_ret2
    exact ⟨congrArg Ending.returned (by rw [HE.out, ← HZ.out]; rfl), HE2.out⟩
theorem specCountFillings_any (C : Int) (A : Option Addr) (ts : List T4) (n c : Nat) (A1 : Option Addr) (plan : List (List Int)) (m1 c1 : Nat) (A2 : Option Addr) (bs : List (List Int)) (m2 c2 : Nat) (w : World)
    (hn : n = ts.length) (hA : RT w A ts) (hnc : n ≤ c) (hl : n ≤ 35184372088832) (hm1 : m1 = plan.length) (hA1 : RR w A1 plan) (hc1 : m1 ≤ c1) (hl1 : m1 ≤ 10000000 ∧ rowsz0 plan ≤ 10000000) (hm2 : m2 = bs.length) (hA2 : RR w A2 bs) (hc2 : m2 ≤ c2) (hl2 : m2 ≤ 10000000 ∧ rowsz0 bs ≤ 10000000) :
    Calls Try.prog 26 #[.agg #[.int .i64 C, .slice A n c], .slice A1 m1 c1, .slice A2 m2 c2] w fun e w' => e = .returned (pairI (fillsR C ts plan bs)) ∧ Below w.heap.size w w' := by
  subst hn hm1 hm2
  have hlens : ∀ k, k < 4 → rowLen bs k ≤ 35184372088832 := by
    intro k _
    by_cases hk : k < bs.length
    · have := rows_lens hl2.2 bs[k] (List.getElem_mem hk)
      rw [rowLen, rowAt_at hk]; omega
    · rw [rowLen, rowAt, List.getD_eq_getElem?_getD, List.getElem?_eq_none (by omega)]; simp
  obtain ⟨k, hk⟩ := (specFillings_ev C (ts.map toS) plan bs (by simpa using hl) hl1.1 hlens).rounds
  rw [map_toTS] at hk
  have h := spec_CountFillings.calls k C A c (ts.map toS) A1 c1 plan A2 c2 bs (fillsR C ts plan bs).1 (fillsR C ts plan bs).2 w (C_of_rt hA (by omega)) (by simpa using hnc) (C_of_rr hA1 (by omega)) hc1 (C_of_rr hA2 (by omega)) hc2 hk
  rw [List.length_map] at h
  exact h
end Go.Proofs.Ytcaikaflpmaocaa
namespace Go.Proofs.Ytcaikaflpmaocaa
open Go Go.RowKit Go.Proofs
set_option linter.unusedVariables false
set_option linter.unusedSimpArgs false
set_option maxHeartbeats 16000000 in
set_option maxRecDepth 100000 in
theorem lawCountFillings_any (w : World) (C0 : Int) (A0 : Option Addr) (ts0 : List T4) (n0 c0 : Nat) (hn0 : n0 = ts0.length) (hA0 : RT w A0 ts0) (hnc0 : n0 ≤ c0) (hl0 : n0 ≤ 35184372088832) (hC0 : -9223372036854775808 ≤ C0 ∧ C0 ≤ 9223372036854775807) (A1 : Option Addr) (ts1 : List (List Int)) (n1 c1 : Nat) (hn1 : n1 = ts1.length) (hA1 : RR w A1 ts1) (hnc1 : n1 ≤ c1) (hl1 : n1 ≤ 35184372088832) (A2 : Option Addr) (ts2 : List (List Int)) (n2 c2 : Nat) (hn2 : n2 = ts2.length) (hA2 : RR w A2 ts2) (hnc2 : n2 ≤ c2) (hl2 : n2 ≤ 35184372088832) :
    Calls Try.prog 7 #[.agg #[.int .i64 C0, .slice A0 n0 c0], .slice A1 n1 c1, .slice A2 n2 c2] w fun e w' => e = .returned (.bool true) ∧ Below w.heap.size w w' := by
  subst hn0
  have HA0 := Lib.hid hA0; clear hA0
  subst hn1
  have HA1 := Lib.hid hA1; clear hA1
  subst hn2
  have HA2 := Lib.hid hA2; clear hA2
  by_cases hbig0 : (1048576 : Int) < ((ts0.length : Nat) : Int)
  · go_enter Try.func7, Try.ntmps7
    go_wp2_with fail
    refine namec1 ?_
    intro w1 b0 hz hB
    have tw1 : w.heap.size + 1 ≤ w1.heap.size := by omega
    clear hz
    have sw1 : w.heap.size ≤ w1.heap.size := hB.size
    have hE := Lib.hid (hB)
    clear hB
    refine (szSet_any C0 A0 ts0.length c0 (1048576) w1 (by omega) (by omega) (by omega)).mono ?_
    rintro e w2 ⟨rfl, hB⟩
    rw [if_pos (show (1048576 : Int) < (ts0.length : Nat) by omega)]
    replace b0 := b0.below hB b0.lt
    have sw2 : w1.heap.size ≤ w2.heap.size := hB.size
    replace hE := Lib.hid (below_to hE.out hB)
    clear hB
    go_wp2_with fail
    go_ret
    exact ⟨rfl, hE.out⟩
  · replace hbig0 : ((ts0.length : Nat) : Int) ≤ 1048576 := by omega
    by_cases hbig1 : ((1048576 - ((ts0.length : Nat) : Int)) : Int) < (((ts1.length + rowsz0 ts1) : Nat) : Int)
    · go_enter Try.func7, Try.ntmps7
      go_wp2_with fail
      refine namec1 ?_
      intro w1 b0 hz hB
      have tw1 : w.heap.size + 1 ≤ w1.heap.size := by omega
      clear hz
      have sw1 : w.heap.size ≤ w1.heap.size := hB.size
      have hE := Lib.hid (hB)
      clear hB
      refine (szSet_any C0 A0 ts0.length c0 (1048576) w1 (by omega) (by omega) (by omega)).mono ?_
      rintro e w2 ⟨rfl, hB⟩
      rw [if_neg (show ¬ (1048576 : Int) < (ts0.length : Nat) by omega)]
      replace b0 := b0.below hB b0.lt
      have sw2 : w1.heap.size ≤ w2.heap.size := hB.size
      replace hE := Lib.hid (below_to hE.out hB)
      clear hB
      have l0 := b0.lt
      have c0_0 : w2.cell? ⟨w.heap.size, 0, none⟩ = some (.int .i64 C0) := b0.cell rfl
      have c0_1 : w2.cell? ⟨w.heap.size, 1, none⟩ = some (.slice A0 ts0.length c0) := b0.cell rfl
      go_wp2_with fail
      clear l0 c0_0 c0_1
      refine (szInt64SS_any A1 ts1 ts1.length c1 ((1048576 - ((ts0.length : Nat) : Int))) w2 rfl (HA1.out.below hE.out) hnc1 (by omega) (by omega) (by omega)).mono ?_
      rintro e w3 ⟨rfl, hB⟩
      rw [if_pos (show ((1048576 - ((ts0.length : Nat) : Int)) : Int) < ((ts1.length + rowsz0 ts1) : Nat) by omega)]
      replace b0 := b0.below hB b0.lt
      have sw3 : w2.heap.size ≤ w3.heap.size := hB.size
      replace hE := Lib.hid (below_to hE.out hB)
      clear hB
      go_wp2_with fail
      go_ret
      exact ⟨rfl, hE.out⟩
    · replace hbig1 : (((ts1.length + rowsz0 ts1) : Nat) : Int) ≤ (1048576 - ((ts0.length : Nat) : Int)) := by omega
      by_cases hbig2 : (((1048576 - ((ts0.length : Nat) : Int)) - (((ts1.length + rowsz0 ts1) : Nat) : Int)) : Int) < (((ts2.length + rowsz0 ts2) : Nat) : Int)
      · go_enter Try.func7, Try.ntmps7
        go_wp2_with fail
        refine namec1 ?_
        intro w1 b0 hz hB
        have tw1 : w.heap.size + 1 ≤ w1.heap.size := by omega
        clear hz
        have sw1 : w.heap.size ≤ w1.heap.size := hB.size
        have hE := Lib.hid (hB)
        clear hB
        refine (szSet_any C0 A0 ts0.length c0 (1048576) w1 (by omega) (by omega) (by omega)).mono ?_
        rintro e w2 ⟨rfl, hB⟩
        rw [if_neg (show ¬ (1048576 : Int) < (ts0.length : Nat) by omega)]
        replace b0 := b0.below hB b0.lt
        have sw2 : w1.heap.size ≤ w2.heap.size := hB.size
        replace hE := Lib.hid (below_to hE.out hB)
        clear hB
        have l0 := b0.lt
        have c0_0 : w2.cell? ⟨w.heap.size, 0, none⟩ = some (.int .i64 C0) := b0.cell rfl
        have c0_1 : w2.cell? ⟨w.heap.size, 1, none⟩ = some (.slice A0 ts0.length c0) := b0.cell rfl
        go_wp2_with fail
        clear l0 c0_0 c0_1
        refine (szInt64SS_any A1 ts1 ts1.length c1 ((1048576 - ((ts0.length : Nat) : Int))) w2 rfl (HA1.out.below hE.out) hnc1 (by omega) (by omega) (by omega)).mono ?_
        rintro e w3 ⟨rfl, hB⟩
        rw [if_neg (show ¬ ((1048576 - ((ts0.length : Nat) : Int)) : Int) < ((ts1.length + rowsz0 ts1) : Nat) by omega)]
        replace b0 := b0.below hB b0.lt
        have sw3 : w2.heap.size ≤ w3.heap.size := hB.size
        replace hE := Lib.hid (below_to hE.out hB)
        clear hB
        have l0 := b0.lt
        have c0_0 : w3.cell? ⟨w.heap.size, 0, none⟩ = some (.int .i64 C0) := b0.cell rfl
        have c0_1 : w3.cell? ⟨w.heap.size, 1, none⟩ = some (.slice A0 ts0.length c0) := b0.cell rfl
        go_wp2_with fail
        clear l0 c0_0 c0_1
        refine (szInt64SS_any A2 ts2 ts2.length c2 (((1048576 - ((ts0.length : Nat) : Int)) - (((ts1.length + rowsz0 ts1) : Nat) : Int))) w3 rfl (HA2.out.below hE.out) hnc2 (by omega) (by omega) (by omega)).mono ?_
        rintro e w4 ⟨rfl, hB⟩
        rw [if_pos (show (((1048576 - ((ts0.length : Nat) : Int)) - (((ts1.length + rowsz0 ts1) : Nat) : Int)) : Int) < ((ts2.length + rowsz0 ts2) : Nat) by omega)]
        replace b0 := b0.below hB b0.lt
        have sw4 : w3.heap.size ≤ w4.heap.size := hB.size
        replace hE := Lib.hid (below_to hE.out hB)
        clear hB
        go_wp2_with fail
        go_ret
        exact ⟨rfl, hE.out⟩
      · replace hbig2 : (((ts2.length + rowsz0 ts2) : Nat) : Int) ≤ ((1048576 - ((ts0.length : Nat) : Int)) - (((ts1.length + rowsz0 ts1) : Nat) : Int)) := by omega
        obtain ⟨r_, hr_⟩ : ∃ r, fillsR C0 ts0 ts1 ts2 = r := ⟨_, rfl⟩
        obtain ⟨r1, r2⟩ := r_
        have HR := Lib.hid hr_; clear hr_
        go_enter Try.func7, Try.ntmps7
        go_wp2_with fail
        refine namec1 ?_
        intro w1 b0 hz hB
        have tw1 : w.heap.size + 1 ≤ w1.heap.size := by omega
        clear hz
        have sw1 : w.heap.size ≤ w1.heap.size := hB.size
        have hE := Lib.hid (hB)
        clear hB
        refine (szSet_any C0 A0 ts0.length c0 (1048576) w1 (by omega) (by omega) (by omega)).mono ?_
        rintro e w2 ⟨rfl, hB⟩
        rw [if_neg (show ¬ (1048576 : Int) < (ts0.length : Nat) by omega)]
        replace b0 := b0.below hB b0.lt
        have sw2 : w1.heap.size ≤ w2.heap.size := hB.size
        replace hE := Lib.hid (below_to hE.out hB)
        clear hB
        have l0 := b0.lt
        have c0_0 : w2.cell? ⟨w.heap.size, 0, none⟩ = some (.int .i64 C0) := b0.cell rfl
        have c0_1 : w2.cell? ⟨w.heap.size, 1, none⟩ = some (.slice A0 ts0.length c0) := b0.cell rfl
        go_wp2_with fail
        clear l0 c0_0 c0_1
        refine (szInt64SS_any A1 ts1 ts1.length c1 ((1048576 - ((ts0.length : Nat) : Int))) w2 rfl (HA1.out.below hE.out) hnc1 (by omega) (by omega) (by omega)).mono ?_
        rintro e w3 ⟨rfl, hB⟩
        rw [if_neg (show ¬ ((1048576 - ((ts0.length : Nat) : Int)) : Int) < ((ts1.length + rowsz0 ts1) : Nat) by omega)]
        replace b0 := b0.below hB b0.lt
        have sw3 : w2.heap.size ≤ w3.heap.size := hB.size
        replace hE := Lib.hid (below_to hE.out hB)
        clear hB
        have l0 := b0.lt
        have c0_0 : w3.cell? ⟨w.heap.size, 0, none⟩ = some (.int .i64 C0) := b0.cell rfl
        have c0_1 : w3.cell? ⟨w.heap.size, 1, none⟩ = some (.slice A0 ts0.length c0) := b0.cell rfl
        go_wp2_with fail
        clear l0 c0_0 c0_1
        refine (szInt64SS_any A2 ts2 ts2.length c2 (((1048576 - ((ts0.length : Nat) : Int)) - (((ts1.length + rowsz0 ts1) : Nat) : Int))) w3 rfl (HA2.out.below hE.out) hnc2 (by omega) (by omega) (by omega)).mono ?_
        rintro e w4 ⟨rfl, hB⟩
        rw [if_neg (show ¬ (((1048576 - ((ts0.length : Nat) : Int)) - (((ts1.length + rowsz0 ts1) : Nat) : Int)) : Int) < ((ts2.length + rowsz0 ts2) : Nat) by omega)]
        replace b0 := b0.below hB b0.lt
        have sw4 : w3.heap.size ≤ w4.heap.size := hB.size
        replace hE := Lib.hid (below_to hE.out hB)
        clear hB
        have l0 := b0.lt
        have c0_0 : w4.cell? ⟨w.heap.size, 0, none⟩ = some (.int .i64 C0) := b0.cell rfl
        have c0_1 : w4.cell? ⟨w.heap.size, 1, none⟩ = some (.slice A0 ts0.length c0) := b0.cell rfl
        go_wp2_with fail
        clear l0 c0_0 c0_1
        refine (toSet_any C0 A0 ts0 ts0.length c0 w4 rfl (HA0.out.below hE.out) (by omega)).mono ?_
        rintro e w5 ⟨v_, rfl, hO, hB⟩
        obtain ⟨A1_, c1_, rfl, -, -⟩ := hO.reads
        have O1 := Lib.hid (OW.of hO)
        clear hO
        replace b0 := b0.below hB b0.lt
        have sw5 : w4.heap.size ≤ w5.heap.size := hB.size
        replace hE := Lib.hid (below_to hE.out hB)
        clear hB
        have l0 := b0.lt
        have c0_0 : w5.cell? ⟨w.heap.size, 0, none⟩ = some (.int .i64 C0) := b0.cell rfl
        have c0_1 : w5.cell? ⟨w.heap.size, 1, none⟩ = some (.slice A0 ts0.length c0) := b0.cell rfl
        go_wp2_with fail
        clear l0 c0_0 c0_1
        refine (toInt64SS_any A1 ts1 ts1.length c1 w5 rfl (HA1.out.below hE.out) hnc1 (by omega)).mono ?_
        rintro e w6 ⟨v_, rfl, hO, hB⟩
        obtain ⟨A2_, c2_, rfl⟩ := hO.form0
        have O2 := Lib.hid hO
        clear hO
        replace b0 := b0.below hB b0.lt
        replace O1 := Lib.hid (O1.out.to hB)
        have sw6 : w5.heap.size ≤ w6.heap.size := hB.size
        replace hE := Lib.hid (below_to hE.out hB)
        clear hB
        have l0 := b0.lt
        have c0_0 : w6.cell? ⟨w.heap.size, 0, none⟩ = some (.int .i64 C0) := b0.cell rfl
        have c0_1 : w6.cell? ⟨w.heap.size, 1, none⟩ = some (.slice A0 ts0.length c0) := b0.cell rfl
        go_wp2_with fail
        clear l0 c0_0 c0_1
        refine (toInt64SS_any A2 ts2 ts2.length c2 w6 rfl (HA2.out.below hE.out) hnc2 (by omega)).mono ?_
        rintro e w7 ⟨v_, rfl, hO, hB⟩
        obtain ⟨A3_, c3_, rfl⟩ := hO.form0
        have O3 := Lib.hid hO
        clear hO
        replace b0 := b0.below hB b0.lt
        replace O1 := Lib.hid (O1.out.to hB)
        replace O2 := Lib.hid (O2.out.to hB)
        have sw7 : w6.heap.size ≤ w7.heap.size := hB.size
        replace hE := Lib.hid (below_to hE.out hB)
        clear hB
        have l0 := b0.lt
        have c0_0 : w7.cell? ⟨w.heap.size, 0, none⟩ = some (.int .i64 C0) := b0.cell rfl
        have c0_1 : w7.cell? ⟨w.heap.size, 1, none⟩ = some (.slice A0 ts0.length c0) := b0.cell rfl
        go_wp2_with fail
        clear l0 c0_0 c0_1
        refine (specCountFillings_any C0 A1_ ts0 ts0.length c1_ A2_ ts1 ts1.length c2_ A3_ ts2 ts2.length c3_ w7 rfl (rt_of O1.out rfl) (le_of O1.out) (by omega) rfl (rr_of O2.out rfl) (le_ofS O2.out) (by omega) rfl (rr_of O3.out rfl) (le_ofS O3.out) (by omega)).mono ?_
        rintro e w8 ⟨rfl, hB⟩
        rw [HR.out]
        simp only [pairI]
        replace b0 := b0.below hB b0.lt
        replace O1 := Lib.hid (O1.out.to hB)
        replace O2 := Lib.hid (O2.out.to hB)
        replace O3 := Lib.hid (O3.out.to hB)
        have sw8 : w7.heap.size ≤ w8.heap.size := hB.size
        replace hE := Lib.hid (below_to hE.out hB)
        clear hB
        have l0 := b0.lt
        have c0_0 : w8.cell? ⟨w.heap.size, 0, none⟩ = some (.int .i64 C0) := b0.cell rfl
        have c0_1 : w8.cell? ⟨w.heap.size, 1, none⟩ = some (.slice A0 ts0.length c0) := b0.cell rfl
        go_wp2_with fail
        clear l0 c0_0 c0_1
        refine (toSet_any C0 A0 ts0 ts0.length c0 w8 rfl (HA0.out.below hE.out) (by omega)).mono ?_
        rintro e w9 ⟨v_, rfl, hO, hB⟩
        obtain ⟨A4_, c4_, rfl, -, -⟩ := hO.reads
        have O4 := Lib.hid (OW.of hO)
        clear hO
        replace b0 := b0.below hB b0.lt
        replace O1 := Lib.hid (O1.out.to hB)
        replace O2 := Lib.hid (O2.out.to hB)
        replace O3 := Lib.hid (O3.out.to hB)
        have sw9 : w8.heap.size ≤ w9.heap.size := hB.size
        replace hE := Lib.hid (below_to hE.out hB)
        clear hB
        have l0 := b0.lt
        have c0_0 : w9.cell? ⟨w.heap.size, 0, none⟩ = some (.int .i64 C0) := b0.cell rfl
        have c0_1 : w9.cell? ⟨w.heap.size, 1, none⟩ = some (.slice A0 ts0.length c0) := b0.cell rfl
        go_wp2_with fail
        clear l0 c0_0 c0_1
        refine namec1 ?_
        intro w10 b1 hz hB
        have tw10 : w9.heap.size + 1 ≤ w10.heap.size := by omega
        clear hz
        replace b0 := b0.below hB b0.lt
        replace O1 := Lib.hid (O1.out.to hB)
        replace O2 := Lib.hid (O2.out.to hB)
        replace O3 := Lib.hid (O3.out.to hB)
        replace O4 := Lib.hid (O4.out.to hB)
        have sw10 : w9.heap.size ≤ w10.heap.size := hB.size
        replace hE := Lib.hid (below_to hE.out hB)
        clear hB
        refine (toInt64SS_any A1 ts1 ts1.length c1 w10 rfl (HA1.out.below hE.out) hnc1 (by omega)).mono ?_
        rintro e w11 ⟨v_, rfl, hO, hB⟩
        obtain ⟨A5_, c5_, rfl⟩ := hO.form0
        have O5 := Lib.hid hO
        clear hO
        replace b0 := b0.below hB b0.lt
        replace b1 := b1.below hB b1.lt
        replace O1 := Lib.hid (O1.out.to hB)
        replace O2 := Lib.hid (O2.out.to hB)
        replace O3 := Lib.hid (O3.out.to hB)
        replace O4 := Lib.hid (O4.out.to hB)
        have sw11 : w10.heap.size ≤ w11.heap.size := hB.size
        replace hE := Lib.hid (below_to hE.out hB)
        clear hB
        have l0 := b0.lt
        have c0_0 : w11.cell? ⟨w.heap.size, 0, none⟩ = some (.int .i64 C0) := b0.cell rfl
        have c0_1 : w11.cell? ⟨w.heap.size, 1, none⟩ = some (.slice A0 ts0.length c0) := b0.cell rfl
        have l1 := b1.lt
        have c1_0 : w11.cell? ⟨w9.heap.size, 0, none⟩ = some (.int .i64 C0) := b1.cell rfl
        have c1_1 : w11.cell? ⟨w9.heap.size, 1, none⟩ = some (.slice A4_ ts0.length c4_) := b1.cell rfl
        go_wp2_with fail
        clear l0 c0_0 c0_1 l1 c1_0 c1_1
        refine (toInt64SS_any A2 ts2 ts2.length c2 w11 rfl (HA2.out.below hE.out) hnc2 (by omega)).mono ?_
        rintro e w12 ⟨v_, rfl, hO, hB⟩
        obtain ⟨A6_, c6_, rfl⟩ := hO.form0
        have O6 := Lib.hid hO
        clear hO
        replace b0 := b0.below hB b0.lt
        replace b1 := b1.below hB b1.lt
        replace O1 := Lib.hid (O1.out.to hB)
        replace O2 := Lib.hid (O2.out.to hB)
        replace O3 := Lib.hid (O3.out.to hB)
        replace O4 := Lib.hid (O4.out.to hB)
        replace O5 := Lib.hid (O5.out.to hB)
        have sw12 : w11.heap.size ≤ w12.heap.size := hB.size
        replace hE := Lib.hid (below_to hE.out hB)
        clear hB
        have l0 := b0.lt
        have c0_0 : w12.cell? ⟨w.heap.size, 0, none⟩ = some (.int .i64 C0) := b0.cell rfl
        have c0_1 : w12.cell? ⟨w.heap.size, 1, none⟩ = some (.slice A0 ts0.length c0) := b0.cell rfl
        have l1 := b1.lt
        have c1_0 : w12.cell? ⟨w9.heap.size, 0, none⟩ = some (.int .i64 C0) := b1.cell rfl
        have c1_1 : w12.cell? ⟨w9.heap.size, 1, none⟩ = some (.slice A4_ ts0.length c4_) := b1.cell rfl
        go_wp2_with fail
        clear l0 c0_0 c0_1 l1 c1_0 c1_1
        refine (implCountFillings_any C0 A4_ ts0 ts0.length c4_ A5_ ts1 ts1.length c5_ A6_ ts2 ts2.length c6_ w12 rfl (rt_of O4.out rfl) (le_of O4.out) (by omega) rfl (rr_of O5.out rfl) (le_ofS O5.out) (by omega) rfl (rr_of O6.out rfl) (le_ofS O6.out) (by omega)).mono ?_
        rintro e w13 ⟨rfl, hB⟩
        rw [HR.out]
        simp only [pairI]
        replace b0 := b0.below hB b0.lt
        replace b1 := b1.below hB b1.lt
        replace O1 := Lib.hid (O1.out.to hB)
        replace O2 := Lib.hid (O2.out.to hB)
        replace O3 := Lib.hid (O3.out.to hB)
        replace O4 := Lib.hid (O4.out.to hB)
        replace O5 := Lib.hid (O5.out.to hB)
        replace O6 := Lib.hid (O6.out.to hB)
        have sw13 : w12.heap.size ≤ w13.heap.size := hB.size
        replace hE := Lib.hid (below_to hE.out hB)
        clear hB
        have l0 := b0.lt
        have c0_0 : w13.cell? ⟨w.heap.size, 0, none⟩ = some (.int .i64 C0) := b0.cell rfl
        have c0_1 : w13.cell? ⟨w.heap.size, 1, none⟩ = some (.slice A0 ts0.length c0) := b0.cell rfl
        have l1 := b1.lt
        have c1_0 : w13.cell? ⟨w9.heap.size, 0, none⟩ = some (.int .i64 C0) := b1.cell rfl
        have c1_1 : w13.cell? ⟨w9.heap.size, 1, none⟩ = some (.slice A4_ ts0.length c4_) := b1.cell rfl
        go_wp2_with fail
        clear l0 c0_0 c0_1 l1 c1_0 c1_1
        have hD : Below w13.heap.size w13 w13.drew := (Below.refl _ _).drew
        replace b0 := b0.below hD b0.lt
        replace b1 := b1.below hD b1.lt
        replace O1 := Lib.hid (O1.out.to hD)
        replace O2 := Lib.hid (O2.out.to hD)
        replace O3 := Lib.hid (O3.out.to hD)
        replace O4 := Lib.hid (O4.out.to hD)
        replace O5 := Lib.hid (O5.out.to hD)
        replace O6 := Lib.hid (O6.out.to hD)
        replace hE := Lib.hid (below_to hE.out hD)
        clear hD
        have d1_w13 : w13.heap.size ≤ w13.drew.heap.size := Nat.le_refl _
        have d2_w13 : w13.drew.heap.size ≤ w13.heap.size := Nat.le_refl _
        go_region_held3 (fun w_ => w_.cell? ⟨w.heap.size, 0, none⟩ = some (.int .i64 C0) ∧ w_.cell? ⟨w.heap.size, 1, none⟩ = some (.slice A0 ts0.length c0) ∧ w_.cell? ⟨w9.heap.size, 0, none⟩ = some (.int .i64 C0) ∧ w_.cell? ⟨w9.heap.size, 1, none⟩ = some (.slice A4_ ts0.length c4_)) (first | exact ⟨b0.cell rfl, b0.cell rfl, b1.cell rfl, b1.cell rfl⟩)
          (first
            | (go_at_call 17; refine (toSet_any C0 A0 ts0 ts0.length c0 w13.drew rfl (HA0.out.below hE.out) (by omega)).mono ?_; rintro e w14 ⟨v_, rfl, hO, hB⟩; obtain ⟨A7_, c7_, rfl, -, -⟩ := hO.reads; have O7 := Lib.hid (OW.of hO); clear hO; replace b0 := b0.below hB b0.lt; replace b1 := b1.below hB b1.lt; replace O1 := Lib.hid (O1.out.to hB); replace O2 := Lib.hid (O2.out.to hB); replace O3 := Lib.hid (O3.out.to hB); replace O4 := Lib.hid (O4.out.to hB); replace O5 := Lib.hid (O5.out.to hB); replace O6 := Lib.hid (O6.out.to hB); have sw14 : w13.drew.heap.size ≤ w14.heap.size := hB.size; replace hE := Lib.hid (below_to hE.out hB); clear hB)
            | (go_at_call 19; refine (eqSet_any C0 C0 A4_ A7_ ts0 ts0 ts0.length ts0.length c4_ c7_ w14 rfl rfl (rt_of O4.out rfl) (rt_of O7.out rfl) (by omega) (by omega)).mono ?_; rintro e w15 ⟨rfl, hB⟩; simp only [decide_true, Bool.and_self]; replace b0 := b0.below hB b0.lt; replace b1 := b1.below hB b1.lt; replace O1 := Lib.hid (O1.out.to hB); replace O2 := Lib.hid (O2.out.to hB); replace O3 := Lib.hid (O3.out.to hB); replace O4 := Lib.hid (O4.out.to hB); replace O5 := Lib.hid (O5.out.to hB); replace O6 := Lib.hid (O6.out.to hB); replace O7 := Lib.hid (O7.out.to hB); have sw15 : w14.heap.size ≤ w15.heap.size := hB.size; replace hE := Lib.hid (below_to hE.out hB); clear hB))
        have l0 := b0.lt
        have c0_0 : w15.cell? ⟨w.heap.size, 0, none⟩ = some (.int .i64 C0) := b0.cell rfl
        have c0_1 : w15.cell? ⟨w.heap.size, 1, none⟩ = some (.slice A0 ts0.length c0) := b0.cell rfl
        have l1 := b1.lt
        have c1_0 : w15.cell? ⟨w9.heap.size, 0, none⟩ = some (.int .i64 C0) := b1.cell rfl
        have c1_1 : w15.cell? ⟨w9.heap.size, 1, none⟩ = some (.slice A4_ ts0.length c4_) := b1.cell rfl
        go_wp2_with fail
        clear l0 c0_0 c0_1 l1 c1_0 c1_1
        refine (toInt64SS_any A1 ts1 ts1.length c1 w15 rfl (HA1.out.below hE.out) hnc1 (by omega)).mono ?_
        rintro e w16 ⟨v_, rfl, hO, hB⟩
        obtain ⟨A8_, c8_, rfl⟩ := hO.form0
        have O8 := Lib.hid hO
        clear hO
        replace b0 := b0.below hB b0.lt
        replace b1 := b1.below hB b1.lt
        replace O1 := Lib.hid (O1.out.to hB)
        replace O2 := Lib.hid (O2.out.to hB)
        replace O3 := Lib.hid (O3.out.to hB)
        replace O4 := Lib.hid (O4.out.to hB)
        replace O5 := Lib.hid (O5.out.to hB)
        replace O6 := Lib.hid (O6.out.to hB)
        replace O7 := Lib.hid (O7.out.to hB)
        have sw16 : w15.heap.size ≤ w16.heap.size := hB.size
        replace hE := Lib.hid (below_to hE.out hB)
        clear hB
        have l0 := b0.lt
        have c0_0 : w16.cell? ⟨w.heap.size, 0, none⟩ = some (.int .i64 C0) := b0.cell rfl
        have c0_1 : w16.cell? ⟨w.heap.size, 1, none⟩ = some (.slice A0 ts0.length c0) := b0.cell rfl
        have l1 := b1.lt
        have c1_0 : w16.cell? ⟨w9.heap.size, 0, none⟩ = some (.int .i64 C0) := b1.cell rfl
        have c1_1 : w16.cell? ⟨w9.heap.size, 1, none⟩ = some (.slice A4_ ts0.length c4_) := b1.cell rfl
        go_wp2_with fail
        clear l0 c0_0 c0_1 l1 c1_0 c1_1
        refine (eqInt64SS_any A5_ A8_ ts1 ts1 ts1.length ts1.length c5_ c8_ w16 rfl rfl (rr_of O5.out rfl) (rr_of O8.out rfl) (by omega) (by omega)).mono ?_
        rintro e w17 ⟨rfl, hB⟩
        simp only [decide_true, Bool.and_self]
        replace b0 := b0.below hB b0.lt
        replace b1 := b1.below hB b1.lt
        replace O1 := Lib.hid (O1.out.to hB)
        replace O2 := Lib.hid (O2.out.to hB)
        replace O3 := Lib.hid (O3.out.to hB)
        replace O4 := Lib.hid (O4.out.to hB)
        replace O5 := Lib.hid (O5.out.to hB)
        replace O6 := Lib.hid (O6.out.to hB)
        replace O7 := Lib.hid (O7.out.to hB)
        replace O8 := Lib.hid (O8.out.to hB)
        have sw17 : w16.heap.size ≤ w17.heap.size := hB.size
        replace hE := Lib.hid (below_to hE.out hB)
        clear hB
        have l0 := b0.lt
        have c0_0 : w17.cell? ⟨w.heap.size, 0, none⟩ = some (.int .i64 C0) := b0.cell rfl
        have c0_1 : w17.cell? ⟨w.heap.size, 1, none⟩ = some (.slice A0 ts0.length c0) := b0.cell rfl
        have l1 := b1.lt
        have c1_0 : w17.cell? ⟨w9.heap.size, 0, none⟩ = some (.int .i64 C0) := b1.cell rfl
        have c1_1 : w17.cell? ⟨w9.heap.size, 1, none⟩ = some (.slice A4_ ts0.length c4_) := b1.cell rfl
        go_wp2_with fail
        clear l0 c0_0 c0_1 l1 c1_0 c1_1
        refine (toInt64SS_any A2 ts2 ts2.length c2 w17 rfl (HA2.out.below hE.out) hnc2 (by omega)).mono ?_
        rintro e w18 ⟨v_, rfl, hO, hB⟩
        obtain ⟨A9_, c9_, rfl⟩ := hO.form0
        have O9 := Lib.hid hO
        clear hO
        replace b0 := b0.below hB b0.lt
        replace b1 := b1.below hB b1.lt
        replace O1 := Lib.hid (O1.out.to hB)
        replace O2 := Lib.hid (O2.out.to hB)
        replace O3 := Lib.hid (O3.out.to hB)
        replace O4 := Lib.hid (O4.out.to hB)
        replace O5 := Lib.hid (O5.out.to hB)
        replace O6 := Lib.hid (O6.out.to hB)
        replace O7 := Lib.hid (O7.out.to hB)
        replace O8 := Lib.hid (O8.out.to hB)
        have sw18 : w17.heap.size ≤ w18.heap.size := hB.size
        replace hE := Lib.hid (below_to hE.out hB)
        clear hB
        have l0 := b0.lt
        have c0_0 : w18.cell? ⟨w.heap.size, 0, none⟩ = some (.int .i64 C0) := b0.cell rfl
        have c0_1 : w18.cell? ⟨w.heap.size, 1, none⟩ = some (.slice A0 ts0.length c0) := b0.cell rfl
        have l1 := b1.lt
        have c1_0 : w18.cell? ⟨w9.heap.size, 0, none⟩ = some (.int .i64 C0) := b1.cell rfl
        have c1_1 : w18.cell? ⟨w9.heap.size, 1, none⟩ = some (.slice A4_ ts0.length c4_) := b1.cell rfl
        go_wp2_with fail
        clear l0 c0_0 c0_1 l1 c1_0 c1_1
        refine (eqInt64SS_any A6_ A9_ ts2 ts2 ts2.length ts2.length c6_ c9_ w18 rfl rfl (rr_of O6.out rfl) (rr_of O9.out rfl) (by omega) (by omega)).mono ?_
        rintro e w19 ⟨rfl, hB⟩
        simp only [decide_true, Bool.and_self]
        replace b0 := b0.below hB b0.lt
        replace b1 := b1.below hB b1.lt
        replace O1 := Lib.hid (O1.out.to hB)
        replace O2 := Lib.hid (O2.out.to hB)
        replace O3 := Lib.hid (O3.out.to hB)
        replace O4 := Lib.hid (O4.out.to hB)
        replace O5 := Lib.hid (O5.out.to hB)
        replace O6 := Lib.hid (O6.out.to hB)
        replace O7 := Lib.hid (O7.out.to hB)
        replace O8 := Lib.hid (O8.out.to hB)
        replace O9 := Lib.hid (O9.out.to hB)
        have sw19 : w18.heap.size ≤ w19.heap.size := hB.size
        replace hE := Lib.hid (below_to hE.out hB)
        clear hB
        go_wp2_with fail
        go_ret
        exact ⟨rfl, hE.out⟩
end Go.Proofs.Ytcaikaflpmaocaa

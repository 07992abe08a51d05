/-
  Parts of the proof, in their order: PText.
-/
import Derived.Test.YtbcnddeelefomaaDoorPk11
import Derived.Test.YtbcnddeelefomaaDoorPk10
import Derived.Lib.JoinLaws
/-
  Plain: the text of a set, as both write it.
-/
namespace Go.Proofs.YtbcnddeelefomaaDoor
open Go Go.RowKit Go.Proofs Go.Proofs.YtbcnddeelefomaaDoorW.PrintWords Go.Proofs.YtbcnddeelefomaaDoorW.PrintMore Go.Proofs.YtbcnddeelefomaaDoor.Q
set_option linter.unusedVariables false
set_option linter.unusedSimpArgs false

def bz (l : List UInt8) : ByteArray := ⟨l.toArray⟩
theorem bz_size (l : List UInt8) : (bz l).size = l.length := by simp [bz, ByteArray.size]
theorem bz_app (a b : List UInt8) : bz a ++ bz b = bz (a ++ b) := by
  apply ByteArray.ext
  simp [bz, ByteArray.data_append]
theorem bz_list (s : ByteArray) : bz s.data.toList = s := rfl
theorem wrap_idT {x : Int} (h : -9223372036854775808 ≤ x) (h2 : x ≤ 9223372036854775807) : wrap64 x = x := by unfold wrap64; omega
theorem succ_wrapT (i : Nat) (h : i ≤ 100000000) : wrap64 ((i : Int) + 1) = ((i + 1 : Nat) : Int) := by rw [wrap_idT (by omega) (by omega)]; omega
theorem rdT_natT (l : List STile) (i : Nat) (h : i < l.length) : rd_T50 l (i : Int) = l[i] := by
  simp [rd_T50, List.getD_eq_getElem?_getD, List.getElem?_eq_getElem h]
theorem isS_fineT {C : Int} {l : List STile} (h : isS C (l.map toT) = true) : (1 ≤ C ∧ C ≤ 6) ∧ l.length ≤ 16 ∧ ∀ t ∈ l, (0 ≤ t.f0 ∧ t.f0 < C) ∧ (0 ≤ t.f1 ∧ t.f1 < C) ∧ (0 ≤ t.f2 ∧ t.f2 < C) ∧ 0 ≤ t.f3 ∧ t.f3 < C := by
  obtain ⟨hc, hl, hok⟩ := isS_iff.1 h
  refine ⟨hc, by simpa using hl, fun t ht => ?_⟩
  obtain ⟨i, hi, rfl⟩ := List.getElem_of_mem ht
  have := (hok i (by simpa using hi)).1
  rw [tk_map _ _ hi] at this
  simp only [tileB, Bool.and_eq_true, inB_iff, T4.get, toT] at this
  simp at this
  omega
def Digs (l : List STile) : Prop := ∀ t ∈ l, (0 ≤ t.f0 ∧ t.f0 < 10) ∧ (0 ≤ t.f1 ∧ t.f1 < 10) ∧ (0 ≤ t.f2 ∧ t.f2 < 10) ∧ 0 ≤ t.f3 ∧ t.f3 < 10
theorem isS_digs {C : Int} {l : List STile} (h : isS C (l.map toT) = true) : (0 ≤ C ∧ C < 10) ∧ l.length ≤ 16 ∧ Digs l := by
  obtain ⟨hc, hl, ht⟩ := isS_fineT h
  exact ⟨by omega, hl, fun t m => by have := ht t m; omega⟩
/-- a tile's digits; the text of a set -/
def tileS (t : STile) : List UInt8 := [dig t.f0, dig t.f1, dig t.f2, dig t.f3]
def tailS (l : List STile) : List UInt8 := l.flatMap fun t => 44 :: tileS t
def bodyS : List STile → List UInt8
  | [] => []
  | t :: l => tileS t ++ tailS l
def textS (C : Int) (l : List STile) : List UInt8 := dig C :: 58 :: bodyS l
theorem join_body (l : List STile) : Lib.join (l.map tileS) [44] = bodyS l := by
  cases l with
  | nil => rfl
  | cons t l =>
    rw [List.map_cons, Lib.join_cons]
    show tileS t ++ Lib.joinTail [44] (l.map tileS) = tileS t ++ tailS l
    congr 1
    induction l with
    | nil => rfl
    | cons u l ih => simp only [Lib.joinTail, tailS, List.map_cons, List.flatten_cons, List.flatMap_cons] at ih ⊢; rw [ih]; simp
theorem tail_len (l : List STile) : (tailS l).length = 5 * l.length := by
  induction l with
  | nil => rfl
  | cons t l ih => simp only [tailS, List.flatMap_cons, List.length_append, List.length_cons, tileS] at ih ⊢; simp at ih ⊢; omega
theorem body_len (l : List STile) : (bodyS l).length ≤ 5 * l.length := by
  cases l with
  | nil => simp [bodyS]
  | cons t l => simp only [bodyS, List.length_append, tail_len]; simp [tileS]; omega
theorem text_len (C : Int) (l : List STile) : (textS C l).length ≤ 2 + 5 * l.length := by
  have := body_len l
  simp [textS]; omega
theorem dec_ev (n : Int) (h : 0 ≤ n ∧ n < 10) : Ev (fun k => spec_l01Dec.f k n) (bz [dig n]) := by
  refine Ev.step (f := fun _ => some (bz [dig n])) (fun k => ?_) (Ev.now _)
  have e : strOfNums [(wrap64 (48 + n)) % 256] = bz [dig n] := by
    have e1 : (wrap64 (48 + n)) % 256 = 48 + n := by rw [wrap_idT (by omega) (by omega)]; omega
    rw [e1]
    obtain ⟨m, rfl⟩ := Int.eq_ofNat_of_zero_le h.1
    have e2 : (48 + (m : Int)).toNat = 48 + m := by omega
    simp only [strOfNums, bz, dig, List.map_cons, List.map_nil, e2, Int.toNat_natCast]
  rw [spec_l01Dec.f, if_neg (by omega), if_pos (by omega), e]
theorem sz_ok {a b n : Nat} (ha : a ≤ 100000000) (hb : b ≤ 100000000) : a + b ≤ 9223372036854775807 := by omega
theorem specText_l1 (C : Int) (l : List STile) (hd : Digs l) (hl : l.length ≤ 16) (i : Nat) (hi : i < l.length) (x : List UInt8) (hx : x.length ≤ 1000) (r : ByteArray)
    (h : Ev (fun k => spec_l01Text.l0 k (bz (x ++ tileS l[i])) ((i + 1 : Nat) : Int) C l) r) : Ev (fun k => spec_l01Text.l1 k (bz x) (i : Int) 0 C l) r := by
  have b2 : (0 : Int) ≤ (i : Int) := Int.natCast_nonneg i
  have b3 : (i : Int) < (l.length : Int) := by omega
  have ht := hd l[i] (List.getElem_mem hi)
  have er : rd_T50 l (i : Int) = l[i] := rdT_natT l i hi
  have w1 : wrap64 ((0 : Int) + 1) = 1 := by decide +kernel
  have w2 : wrap64 ((1 : Int) + 1) = 2 := by decide +kernel
  have w3 : wrap64 ((2 : Int) + 1) = 3 := by decide +kernel
  have w4 : wrap64 ((3 : Int) + 1) = 4 := by decide +kernel
  have st : ∀ (y : List UInt8) (n : Int) (q : Int) (k : Nat), y.length ≤ 2000 → (if (bz y).size + (bz [dig n]).size ≤ 9223372036854775807 then spec_l01Text.l1 k (bz y ++ bz [dig n]) (i : Int) q C l else none) = spec_l01Text.l1 k (bz (y ++ [dig n])) (i : Int) q C l := by
    intro y n q k hy
    rw [if_pos (by rw [bz_size, bz_size]; simp; omega), bz_app]
  refine Ev.step (f := fun k => (spec_l01Dec.f k l[i].f0).bind fun t112 => (if (bz x).size + t112.size ≤ 9223372036854775807 then (spec_l01Text.l1 k (bz x ++ t112) (i : Int) 1 C l) else none)) (fun k => by rw [spec_l01Text.l1, if_pos (by decide), if_pos b2, if_pos b3, if_pos rfl, er, w1]) ?_
  refine Ev.bind (dec_ev _ ht.1) (Ev.congr (fun k => st x _ 1 k (by omega)) ?_)
  refine Ev.step (f := fun k => (spec_l01Dec.f k l[i].f1).bind fun t112 => (if (bz (x ++ [dig l[i].f0])).size + t112.size ≤ 9223372036854775807 then (spec_l01Text.l1 k (bz (x ++ [dig l[i].f0]) ++ t112) (i : Int) 2 C l) else none)) (fun k => by rw [spec_l01Text.l1, if_pos (by decide), if_pos b2, if_pos b3, if_neg (by decide), if_pos rfl, er, w2]) ?_
  refine Ev.bind (dec_ev _ ht.2.1) (Ev.congr (fun k => st _ _ 2 k (by simp; omega)) ?_)
  refine Ev.step (f := fun k => (spec_l01Dec.f k l[i].f2).bind fun t112 => (if (bz (x ++ [dig l[i].f0] ++ [dig l[i].f1])).size + t112.size ≤ 9223372036854775807 then (spec_l01Text.l1 k (bz (x ++ [dig l[i].f0] ++ [dig l[i].f1]) ++ t112) (i : Int) 3 C l) else none)) (fun k => by rw [spec_l01Text.l1, if_pos (by decide), if_pos b2, if_pos b3, if_neg (by decide), if_neg (by decide), if_pos rfl, er, w3]) ?_
  refine Ev.bind (dec_ev _ ht.2.2.1) (Ev.congr (fun k => st _ _ 3 k (by simp; omega)) ?_)
  refine Ev.step (f := fun k => (spec_l01Dec.f k l[i].f3).bind fun t112 => (if (bz (x ++ [dig l[i].f0] ++ [dig l[i].f1] ++ [dig l[i].f2])).size + t112.size ≤ 9223372036854775807 then (spec_l01Text.l1 k (bz (x ++ [dig l[i].f0] ++ [dig l[i].f1] ++ [dig l[i].f2]) ++ t112) (i : Int) 4 C l) else none)) (fun k => by rw [spec_l01Text.l1, if_pos (by decide), if_pos b2, if_pos b3, if_neg (by decide), if_neg (by decide), if_neg (by decide), if_pos rfl, er, w4]) ?_
  refine Ev.bind (dec_ev _ ht.2.2.2) (Ev.congr (fun k => st _ _ 4 k (by simp; omega)) ?_)
  have e : x ++ [dig l[i].f0] ++ [dig l[i].f1] ++ [dig l[i].f2] ++ [dig l[i].f3] = x ++ tileS l[i] := by simp [tileS]
  rw [e]
  exact Ev.step (fun k => by rw [spec_l01Text.l1, if_neg (by decide), succ_wrapT i (by omega)]) h
theorem specText_l0 (C : Int) (l : List STile) (hd : Digs l) (hl : l.length ≤ 16) (d : Nat) : ∀ (i : Nat) (x : List UInt8), 1 ≤ i → i + d = l.length → x.length ≤ 5 * i + 2 → Ev (fun k => spec_l01Text.l0 k (bz x) (i : Int) C l) (bz (x ++ tailS (l.drop i))) := by
  induction d with
  | zero =>
    intro i x h1 hi hx
    rw [List.drop_of_length_le (by omega)]
    refine Ev.step (f := fun _ => some (bz x)) (fun k => by rw [spec_l01Text.l0, if_neg (by omega)]) ?_
    simp only [tailS, List.flatMap_nil, List.append_nil]
    exact Ev.now _
  | succ d ih =>
    intro i x h1 hi hx
    have hlt : i < l.length := by omega
    have e44 : bz x ++ (⟨#[44]⟩ : ByteArray) = bz (x ++ [44]) := bz_app x [44]
    have hs : (bz x).size + 1 ≤ 9223372036854775807 := by rw [bz_size]; omega
    refine Ev.step (fun k => by rw [spec_l01Text.l0, if_pos (by omega), if_pos (by omega), if_pos hs, e44]) ?_
    refine Ev.step (fun k => by rw [spec_l01Text.j1]) ?_
    refine specText_l1 C l hd hl i hlt (x ++ [44]) (by simp; omega) _ ?_
    have h := ih (i + 1) (x ++ [44] ++ tileS l[i]) (by omega) (by omega) (by simp [tileS]; omega)
    have e : x ++ tailS (l.drop i) = x ++ [44] ++ tileS l[i] ++ tailS (l.drop (i + 1)) := by
      have e0 : tailS (l.drop i) = 44 :: tileS l[i] ++ tailS (l.drop (i + 1)) := by rw [List.drop_eq_getElem_cons hlt]; rfl
      rw [e0]; simp
    rw [e]
    exact h
theorem specText_ev (C : Int) (l : List STile) (hC : 0 ≤ C ∧ C < 10) (hd : Digs l) (hl : l.length ≤ 16) : Ev (fun k => spec_l01Text.f k C l) (bz (textS C l)) := by
  have e58 : bz [dig C] ++ (⟨#[58]⟩ : ByteArray) = bz [dig C, 58] := bz_app [dig C] [58]
  refine Ev.congr (fun k => by rw [spec_l01Text.f]) ?_
  refine Ev.bind (dec_ev C hC) (Ev.congr (fun k => by rw [if_pos (by rw [bz_size]; simp), e58]) ?_)
  cases l with
  | nil => exact Ev.step (f := fun _ => some (bz [dig C, 58])) (fun k => by rw [spec_l01Text.l0, if_neg (by simp)]) (Ev.now _)
  | cons t l =>
    refine Ev.step (fun k => by rw [spec_l01Text.l0, if_pos (by simp only [List.length_cons]; omega), if_neg (by decide)]) ?_
    refine Ev.step (fun k => by rw [spec_l01Text.j1]) ?_
    refine specText_l1 C (t :: l) hd hl 0 (by simp) [dig C, 58] (by simp) _ ?_
    have h := specText_l0 C (t :: l) hd hl l.length 1 ([dig C, 58] ++ tileS t) (by omega) (by simp; omega) (by simp [tileS])
    exact h
theorem implText_l0 (C : Int) (l : List STile) (hC : 0 ≤ C ∧ C < 10) (hd : Digs l) (hl : l.length ≤ 16) (d : Nat) : ∀ (i : Nat), i + d = l.length →
    Ev (fun k => impl_setText.l0 k ((l.take i).map fun t => bz (tileS t)) l (l.length : Int) (i : Int) C l) (bz (textS C l)) := by
  induction d with
  | zero =>
    intro i hi
    have e1 : strconv_FormatInt.f C 10 = some (bz [dig C]) := by rw [strconv_FormatInt.f, if_pos ⟨hC.1, hC.2, rfl⟩]; rfl
    have e58 : bz [dig C] ++ (⟨#[58]⟩ : ByteArray) = bz [dig C, 58] := bz_app [dig C] [58]
    have e2 : strings_Join.f ((l.take i).map fun t => bz (tileS t)) (⟨#[44]⟩ : ByteArray) = some (bz (bodyS l)) := by
      have e3 : ((l.take i).map fun t => bz (tileS t)).map (·.data.toList) = l.map tileS := by
        rw [List.take_of_length_le (by omega), List.map_map]; rfl
      have e4 : (⟨#[44]⟩ : ByteArray).data.toList = [44] := rfl
      rw [strings_Join.f, e3, e4, join_body, if_pos ⟨by simp; omega, by have := body_len l; omega⟩]; rfl
    refine Ev.step (f := fun _ => some (bz (textS C l))) (fun k => ?_) (Ev.now _)
    rw [impl_setText.l0, if_neg (by omega), e1]
    simp only [Option.bind_some]
    rw [if_pos (by rw [bz_size]; simp), e58, e2]
    simp only [Option.bind_some]
    have := body_len l
    rw [if_pos (by rw [bz_size, bz_size]; simp; omega), bz_app]; rfl
  | succ d ih =>
    intro i hi
    have hlt : i < l.length := by omega
    have er : rd_T50 l (i : Int) = l[i] := rdT_natT l i hlt
    have ht := hd l[i] (List.getElem_mem hlt)
    have e1 : impl_tileText.f l[i].f0 l[i].f1 l[i].f2 l[i].f3 = some (bz (tileS l[i])) := by
      rw [impl_tileText.f, if_pos (by simpa [lowT, T4.get] using ht)]; rfl
    have e2 : ((l.take i).map fun t => bz (tileS t)) ++ [bz (tileS l[i])] = (l.take (i + 1)).map fun t => bz (tileS t) := by
      rw [List.take_add_one, List.getElem?_eq_getElem hlt, List.map_append]; rfl
    refine Ev.step (fun k => ?_) (ih (i + 1) (by omega))
    rw [impl_setText.l0, if_pos (by omega), if_pos (Int.natCast_nonneg i), if_pos (by omega), er, e1]
    simp only [Option.bind_some]
    rw [if_pos (by simp; omega), e2, succ_wrapT i (by omega)]
theorem implText_ev (C : Int) (l : List STile) (hC : 0 ≤ C ∧ C < 10) (hd : Digs l) (hl : l.length ≤ 16) : Ev (fun k => impl_setText.f k C l) (bz (textS C l)) := by
  refine Ev.congr (fun k => ?_) (implText_l0 C l hC hd hl l.length 0 (by omega))
  rw [impl_setText.f]; rfl
/-- what SetText returns -/
def setTextR (C : Int) (ts : List T4) : List UInt8 × Int := if isS C ts = true then (textS C (ts.map toS), 0) else ([], 1)
theorem specSetText_ev (C : Int) (l : List STile) (hl : l.length ≤ 35184372088832) : Ev (fun k => spec_SetText.f k C l) (bz (setTextR C (l.map toT)).1, (setTextR C (l.map toT)).2) := by
  have hin : inLim l.length = true := by simpa [inLim] using hl
  unfold setTextR
  by_cases hs : isS C (l.map toT) = true
  · obtain ⟨hC, h16, hd⟩ := isS_digs hs
    rw [if_pos hs, map_toST]
    refine Ev.congr (f := fun k => (spec_l01Text.f k C l).bind fun t118 => (some (t118, 0))) (fun k => ?_) (Ev.bind (specText_ev C l hC hd h16) (Ev.now _))
    rw [spec_SetText.f, spec_l01Is.f, if_pos hin, hs]; rfl
  · rw [if_neg hs]
    refine Ev.congr (f := fun k => some (bz [], 1)) (fun k => ?_) (Ev.now _)
    rw [spec_SetText.f, spec_l01Is.f, if_pos hin, Bool.eq_false_iff.2 hs]; rfl
theorem implSetText_ev (C : Int) (l : List STile) (hl : l.length ≤ 35184372088832) : Ev (fun k => impl_SetText.f k C l) (bz (setTextR C (l.map toT)).1, (setTextR C (l.map toT)).2) := by
  have hin : inLim l.length = true := by simpa [inLim] using hl
  unfold setTextR
  by_cases hs : isS C (l.map toT) = true
  · obtain ⟨hC, h16, hd⟩ := isS_digs hs
    rw [if_pos hs, map_toST]
    refine Ev.congr (f := fun k => (impl_setText.f k C l).bind fun t118 => (some (t118, 0))) (fun k => ?_) (Ev.bind (implText_ev C l hC hd h16) (Ev.now _))
    rw [impl_SetText.f, impl_IsSet.f, if_pos hin, hs]; rfl
  · rw [if_neg hs]
    refine Ev.congr (f := fun k => some (bz [], 1)) (fun k => ?_) (Ev.now _)
    rw [impl_SetText.f, impl_IsSet.f, if_pos hin, Bool.eq_false_iff.2 hs]; rfl
def pairS (r : ByteArray × Int) : Value := .tuple #[.string r.1, .int .i64 r.2]
def setTextB (C : Int) (ts : List T4) : ByteArray × Int := (bz (setTextR C ts).1, (setTextR C ts).2)
set_option maxRecDepth 100000 in
theorem specSetText_any (C : Int) (A : Option Addr) (ts : List T4) (n c : Nat) (w : World) (hn : n = ts.length) (hA : RT w A ts) (hnc : n ≤ c) (hl : n ≤ 35184372088832) :
    Calls Tryd.prog 7 #[.agg #[.int .i64 C, .slice A n c]] w fun e w' => e = .returned (pairS (setTextB C ts)) ∧ Below w.heap.size w w' := by
  subst hn
  obtain ⟨k, hk⟩ := (specSetText_ev C (ts.map toS) (by simpa using hl)).rounds
  rw [map_toTS] at hk
  have h := spec_SetText.calls k C A c (ts.map toS) _ _ w (C_of_rt hA (by omega)) (by simpa using hnc) hk
  rwa [List.length_map] at h
set_option maxRecDepth 100000 in
theorem implSetText_any (C : Int) (A : Option Addr) (ts : List T4) (n c : Nat) (w : World) (hn : n = ts.length) (hA : RT w A ts) (hnc : n ≤ c) (hl : n ≤ 35184372088832) :
    Calls Tryd.prog 9 #[.agg #[.int .i64 C, .slice A n c]] w fun e w' => e = .returned (pairS (setTextB C ts)) ∧ Below w.heap.size w w' := by
  subst hn
  obtain ⟨k, hk⟩ := (implSetText_ev C (ts.map toS) (by simpa using hl)).rounds
  rw [map_toTS] at hk
  have h := impl_SetText.calls k C A c (ts.map toS) _ _ w (C_of_rt hA (by omega)) (by simpa using hnc) hk
  rwa [List.length_map] at h
end Go.Proofs.YtbcnddeelefomaaDoor

/-
  Parts of the proof, in their order: PParseE, PParseSet, PNamedSet, LawNamedSet.
-/
import Derived.Test.YtbcnddeelefomaaDoorPk13
import Derived.Test.YtbcnddeelefomaaDoorPk10
import Derived.Test.YtbcnddeelefomaaDoorPk14
import Derived.Test.YtbcnddeelefomaaDoorPk7
import Derived.Deep.RegionHeld3
/-
  ParseSet: what both printed functions tell.
-/
namespace Go.Proofs.YtbcnddeelefomaaDoor
open Go Go.RowKit Go.Proofs Go.Proofs.YtbcnddeelefomaaDoorW.PrintWords Go.Proofs.YtbcnddeelefomaaDoorW.PrintMore Go.Proofs.YtbcnddeelefomaaDoor.Q
set_option linter.unusedVariables false
set_option linter.unusedSimpArgs false

theorem bt_bz (s : List UInt8) (i : Nat) (h : i < s.length) : bt (bz s) (i : Int) = (s[i].toNat : Int) := by
  have h' : ((i : Nat) : Int).toNat < (bz s).size := by rw [bz_size, Int.toNat_natCast]; exact h
  unfold bt
  rw [dif_pos h']
  rfl
theorem bz_list2 (s : List UInt8) : (bz s).toList = s := by rw [ByteArray.toList_eq]; rfl
theorem ext_bz (s : List UInt8) (a b : Nat) : (bz s).extract a b = bz ((s.drop a).take (b - a)) := by
  have h := Lib.extract_data (bz s) a b
  have e : (bz s).data.toList = s := rfl
  rw [e] at h
  rw [← h]; rfl
theorem rdOf_bz (ws : List (List UInt8)) (i : Nat) (h : i < ws.length) : rdOf ByteArray.empty (ws.map bz) (i : Int) = bz ws[i] := by
  simp [rdOf, List.getD_eq_getElem?_getD, List.getElem?_eq_getElem h]
theorem split_l0 (s : List UInt8) (c : UInt8) (hl : s.length ≤ 2000000) (d : Nat) : ∀ (i a : Nat) (out : List ByteArray), i + d = s.length → a ≤ i → out.length ≤ i →
    Ev (fun k => spec_l01Split.l0 k (bz s) (c.toNat : Int) out (a : Int) (i : Int)) (out ++ (glue ((s.drop a).take (i - a)) (splitL c (s.drop i))).map bz) := by
  induction d with
  | zero =>
    intro i a out hi ha ho
    have e1 : (a : Int).toNat = a := Int.toNat_natCast a
    refine Ev.step (f := fun _ => some (out ++ (glue ((s.drop a).take (i - a)) (splitL c (s.drop i))).map bz)) (fun k => ?_) (Ev.now _)
    rw [spec_l01Split.l0, if_neg (by rw [bz_size]; omega), if_pos (Int.natCast_nonneg a), if_pos (by rw [bz_size]; omega), if_pos (by omega), e1, ext_bz, bz_size]
    rw [List.drop_of_length_le (by omega : s.length ≤ i), show s.length - a = i - a by omega]
    simp [splitL, glue]
  | succ d ih =>
    intro i a out hi ha ho
    have hlt : i < s.length := by omega
    have b1 : (i : Int) < ((bz s).size : Int) := by rw [bz_size]; omega
    have b2 : (0 : Int) ≤ (i : Int) := Int.natCast_nonneg i
    have eb : bt (bz s) (i : Int) = (s[i].toNat : Int) := bt_bz s i hlt
    have ed : s.drop i = s[i] :: s.drop (i + 1) := List.drop_eq_getElem_cons hlt
    have ew : wrap64 ((i : Int) + 1) = ((i + 1 : Nat) : Int) := succ_wrapT i (by omega)
    by_cases hc : s[i] = c
    · have e1 : (a : Int).toNat = a := Int.toNat_natCast a
      have e2 : (i : Int).toNat = i := Int.toNat_natCast i
      have h := ih (i + 1) (i + 1) (out ++ [bz ((s.drop a).take (i - a))]) (by omega) (Nat.le_refl _) (by simp; omega)
      have e : out ++ (glue ((s.drop a).take (i - a)) (splitL c (s.drop i))).map bz = (out ++ [bz ((s.drop a).take (i - a))]) ++ (glue ((s.drop (i + 1)).take (i + 1 - (i + 1))) (splitL c (s.drop (i + 1)))).map bz := by
        rw [ed, splitL, if_pos hc, Nat.sub_self, List.take_zero, glue_nil _ (splitL_ne _ _)]
        simp [glue]
      rw [e]
      refine Ev.step (fun k => ?_) h
      rw [spec_l01Split.l0, if_pos b1, if_pos b2, eb, hc, if_pos rfl, if_pos (Int.natCast_nonneg a), if_pos (by omega), if_pos (by omega), if_pos (by omega), e1, e2, ext_bz, ew]
    · have h := ih (i + 1) a out (by omega) (by omega) (by omega)
      have ht : (s.drop a).take (i + 1 - a) = (s.drop a).take (i - a) ++ [s[i]] := by
        rw [show i + 1 - a = (i - a) + 1 by omega, List.take_add_one]
        congr 1
        rw [List.getElem?_drop, show a + (i - a) = i by omega, List.getElem?_eq_getElem hlt]; rfl
      have e : glue ((s.drop a).take (i - a)) (splitL c (s.drop i)) = glue ((s.drop a).take (i + 1 - a)) (splitL c (s.drop (i + 1))) := by
        rw [ed, splitL, if_neg hc, glue_glue _ _ _ (splitL_ne _ _), ht]
      rw [e]
      have hn : ¬ (s[i].toNat : Int) = (c.toNat : Int) := fun q => hc (UInt8.toNat_inj.1 (by omega))
      refine Ev.step (fun k => ?_) h
      rw [spec_l01Split.l0, if_pos b1, if_pos b2, eb, if_neg hn, ew]
theorem split_ev (s : List UInt8) (c : UInt8) (n : Int) (hn : n = (c.toNat : Int)) (hl : s.length ≤ 2000000) : Ev (fun k => spec_l01Split.f k (bz s) n) ((splitL c s).map bz) := by
  subst hn
  have h := split_l0 s c hl s.length 0 0 [] (by omega) (by omega) (by simp)
  simp only [List.drop_zero, Nat.sub_self, List.take_zero, List.nil_append, glue_nil _ (splitL_ne c s)] at h
  exact h
theorem number_l0 (a : List UInt8) (hl : a.length ≤ 9) (d : Nat) : ∀ (i : Nat) (acc : Int), i + d = a.length → 0 ≤ acc → acc < ((10 ^ i : Nat) : Int) →
    Ev (fun k => spec_l01Number.l0 k (bz a) acc (i : Int)) (numGo (a.drop i) acc) := by
  induction d with
  | zero =>
    intro i acc hi h0 h1
    rw [List.drop_of_length_le (by omega)]
    refine Ev.step (f := fun _ => some acc) (fun k => ?_) (Ev.now _)
    rw [spec_l01Number.l0, if_neg (by rw [bz_size]; omega)]
  | succ d ih =>
    intro i acc hi h0 h1
    have hlt : i < a.length := by omega
    have eb : bt (bz a) (i : Int) = (a[i].toNat : Int) := bt_bz a i hlt
    have hp : 10 ^ i ≤ 10 ^ 8 := Nat.pow_le_pow_right (by decide) (by omega)
    have hp8 : (10 ^ 8 : Nat) = 100000000 := by decide
    have hp1 : 10 ^ (i + 1) = 10 ^ i * 10 := Nat.pow_succ 10 i
    rw [List.drop_eq_getElem_cons hlt, numGo]
    by_cases c1 : a[i].toNat < 48
    · rw [if_pos c1]
      refine Ev.step (f := fun _ => some (-1)) (fun k => ?_) (Ev.now _)
      rw [spec_l01Number.l0, if_pos (by rw [bz_size]; omega), if_pos (Int.natCast_nonneg i), eb, if_pos (by omega)]
    · rw [if_neg c1]
      by_cases c2 : 57 < a[i].toNat
      · rw [if_pos c2]
        refine Ev.step (f := fun _ => some (-1)) (fun k => ?_) (Ev.now _)
        rw [spec_l01Number.l0, if_pos (by rw [bz_size]; omega), if_pos (Int.natCast_nonneg i), eb, if_neg (by omega), if_pos (by omega)]
      · rw [if_neg c2]
        have hq : ((10 ^ i : Nat) : Int) ≤ 100000000 := by omega
        have ew : wrap64 ((i : Int) + 1) = ((i + 1 : Nat) : Int) := succ_wrapT i (by omega)
        have e1 : wrap64 (acc * 10) = acc * 10 := wrap_idT (by omega) (by omega)
        have e2 : ((a[i].toNat : Int) - 48) % 256 = num a[i] := by unfold num; omega
        have hnum : 0 ≤ num a[i] ∧ num a[i] ≤ 9 := by unfold num; omega
        have e3 : wrap64 (acc * 10 + num a[i]) = acc * 10 + num a[i] := wrap_idT (by omega) (by omega)
        have hb : acc * 10 + num a[i] < ((10 ^ (i + 1) : Nat) : Int) := by rw [hp1]; omega
        refine Ev.step (fun k => ?_) (ih (i + 1) (acc * 10 + num a[i]) (by omega) (by omega) hb)
        rw [spec_l01Number.l0, if_pos (by rw [bz_size]; omega), if_pos (Int.natCast_nonneg i), eb, if_neg (by omega), if_neg (by omega), e1, e2, e3, ew]
theorem number_ev (a : List UInt8) : Ev (fun k => spec_l01Number.f k (bz a)) (numR a) := by
  have stop : ∀ q : Bool, q = true → Ev (fun k => spec_l01Number.j0 k (bz a) q) (-1 : Int) := fun q hq => by
    subst hq
    exact Ev.step (f := fun _ => some (-1)) (fun k => by rw [spec_l01Number.j0, if_pos rfl]) (Ev.now _)
  have go : ∀ q : Bool, q = false → a.length ≤ 9 → Ev (fun k => spec_l01Number.j0 k (bz a) q) (numGo a 0) := fun q hq hl => by
    subst hq
    refine Ev.step (fun k => by rw [spec_l01Number.j0, if_neg (by decide)]) ?_
    have h := number_l0 a hl a.length 0 0 (by omega) (by omega) (by decide)
    rw [List.drop_zero] at h
    exact h
  unfold numR
  by_cases c0 : a.length = 0
  · rw [if_pos (.inl c0)]
    exact Ev.congr (fun k => by rw [spec_l01Number.f, bz_size, if_pos (by omega)]) (stop true rfl)
  · by_cases c9 : 9 < a.length
    · rw [if_pos (.inr (.inl c9))]
      exact Ev.congr (fun k => by rw [spec_l01Number.f, bz_size, if_neg (by omega), if_pos (by omega)]) (stop true rfl)
    · by_cases c1 : 1 < a.length
      · have hlt : 0 < a.length := by omega
        have eb : bt (bz a) 0 = (a[0].toNat : Int) := bt_bz a 0 hlt
        have eg : a.getD 0 0 = a[0] := by simp [List.getD_eq_getElem?_getD, List.getElem?_eq_getElem hlt]
        have step : ∀ k, spec_l01Number.f k (bz a) = spec_l01Number.j0 k (bz a) (bt (bz a) 0 == 48) := fun k => by
          rw [spec_l01Number.f, bz_size, if_neg (by omega), if_neg (by omega), if_pos (by omega), if_pos (by omega)]
        by_cases h48 : a[0] = 48
        · rw [if_pos (.inr (.inr ⟨c1, by rw [eg]; exact h48⟩))]
          exact Ev.congr step (stop _ (by rw [eb, h48]; rfl))
        · rw [if_neg (by rintro (h | h | ⟨_, h⟩); exact c0 h; exact c9 h; exact h48 (eg.symm.trans h))]
          refine Ev.congr step (go _ ?_ (by omega))
          rw [eb]
          have : ¬ a[0].toNat = 48 := fun q => h48 (UInt8.toNat_inj.1 (by rw [q]; rfl))
          simp; omega
      · rw [if_neg (by rintro (h | h | ⟨h, _⟩); exact c0 h; exact c9 h; exact c1 h)]
        exact Ev.congr (fun k => by rw [spec_l01Number.f, bz_size, if_neg (by omega), if_neg (by omega), if_neg (by omega)]) (go _ rfl (by omega))
theorem byte_num (x : UInt8) : wrap64 ((wrap64 (x.toNat : Int)) - 48) = num x := by
  have := UInt8.toNat_lt x
  have e : wrap64 (x.toNat : Int) = (x.toNat : Int) := wrap_idT (by omega) (by omega)
  rw [e, wrap_idT (by omega) (by omega)]; rfl
theorem list4 {α : Type} : ∀ (w : List α), w.length = 4 → ∃ a b c d, w = [a, b, c, d]
  | [a, b, c, d], _ => ⟨a, b, c, d, rfl⟩
  | [], h => absurd h (by simp)
  | [_], h => absurd h (by simp)
  | [_, _], h => absurd h (by simp)
  | [_, _, _], h => absurd h (by simp)
  | _ :: _ :: _ :: _ :: _ :: _, h => absurd h (by simp)
theorem parseW_none {w : List UInt8} (h : ¬ w.length = 4) : parseW w = none := by
  unfold parseW
  split
  · exact absurd rfl h
  · rfl
theorem parse_head (ws : List (List UInt8)) (i : Nat) (h : i < ws.length) : parseAll (ws.drop i) = (parseW ws[i]).bind fun t => (parseAll (ws.drop (i + 1))).map (t :: ·) := by
  rw [List.drop_eq_getElem_cons h, parseAll]
theorem read_l0 (ws : List (List UInt8)) (C : Int) (hl : ws.length ≤ 2000001) (d : Nat) : ∀ (i : Nat) (ts : List STile), i + d = ws.length → ts.length ≤ i →
    Ev (fun k => spec_l01Read.l0 k (ws.map bz) (i : Int) C ts) (done C ((parseAll (ws.drop i)).map (ts ++ ·))) := by
  induction d with
  | zero =>
    intro i ts hi ht
    have hin : inLim ts.length = true := by simp only [inLim, decide_eq_true_eq]; omega
    rw [List.drop_of_length_le (by omega)]
    refine Ev.step (f := fun _ => some (done C (some ts))) (fun k => ?_) ?_
    · rw [spec_l01Read.l0, if_neg (by simp; omega), spec_l01Is.f, if_pos hin]
      simp only [Option.bind_some, done]
      by_cases h : isS C (ts.map toT) = true
      · rw [if_pos h, if_pos h]
      · rw [if_neg h, if_neg h]
    · have e : (parseAll []).map (ts ++ ·) = some ts := by simp [parseAll]
      rw [e]; exact Ev.now _
  | succ d ih =>
    intro i ts hi ht
    have hlt : i < ws.length := by omega
    have er := rdOf_bz ws i hlt
    rw [parse_head ws i hlt]
    have b1 : (i : Int) < ((ws.map bz).length : Int) := by simp; omega
    by_cases h4 : ws[i].length = 4
    · obtain ⟨a, b, c, e4, ew⟩ := list4 _ h4
      have ep : parseW ws[i] = some ⟨num a, num b, num c, num e4⟩ := by rw [ew]; rfl
      have hs : ((bz ws[i]).size : Int) = 4 := by rw [bz_size]; omega
      have q0 : bt (bz ws[i]) 0 = (a.toNat : Int) := by rw [ew]; exact bt_bz [a, b, c, e4] 0 (by simp)
      have q1 : bt (bz ws[i]) 1 = (b.toNat : Int) := by rw [ew]; exact bt_bz [a, b, c, e4] 1 (by simp)
      have q2 : bt (bz ws[i]) 2 = (c.toNat : Int) := by rw [ew]; exact bt_bz [a, b, c, e4] 2 (by simp)
      have q3 : bt (bz ws[i]) 3 = (e4.toNat : Int) := by rw [ew]; exact bt_bz [a, b, c, e4] 3 (by simp)
      have h := ih (i + 1) (ts ++ [⟨num a, num b, num c, num e4⟩]) (by omega) (by simp; omega)
      have e : ((some (⟨num a, num b, num c, num e4⟩ : STile)).bind fun t => (parseAll (ws.drop (i + 1))).map (t :: ·)).map (ts ++ ·) = (parseAll (ws.drop (i + 1))).map ((ts ++ [(⟨num a, num b, num c, num e4⟩ : STile)]) ++ ·) := by
        cases parseAll (ws.drop (i + 1)) <;> simp
      rw [ep, e]
      refine Ev.step (fun k => ?_) h
      rw [spec_l01Read.l0, if_pos b1, if_pos (Int.natCast_nonneg i), er, hs, if_pos rfl, if_pos (by decide), if_pos (by decide), if_pos (by decide), if_pos (by decide), if_pos (by omega), q0, q1, q2, q3, byte_num, byte_num, byte_num, byte_num, succ_wrapT i (by omega)]
    · rw [parseW_none h4]
      refine Ev.step (f := fun _ => some (0, ([] : List STile), false)) (fun k => ?_) (Ev.now _)
      rw [spec_l01Read.l0, if_pos b1, if_pos (Int.natCast_nonneg i), er, if_neg (by rw [bz_size]; omega)]
theorem specRead_ev (s : List UInt8) (hl : s.length ≤ 2000000) : Ev (fun k => spec_l01Read.f k (bz s)) (specQ s) := by
  have hs := splitL_len 58 s
  refine Ev.congr (fun k => by rw [spec_l01Read.f]) ?_
  refine Ev.bind (split_ev s 58 58 rfl hl) ?_
  by_cases h2 : (splitL 58 s).length = 2
  · obtain ⟨a, b, e⟩ : ∃ a b, splitL 58 s = [a, b] := by
      match hh : splitL 58 s, h2 with
      | [a, b], _ => exact ⟨a, b, rfl⟩
    have hj := join_split 58 s
    have hb : b.length ≤ 2000000 := by
      rw [e] at hj
      have : (a ++ 58 :: b).length = s.length := by rw [← hj]; simp [joinL]
      simp at this; omega
    have eq : specQ s = done (numR a) (parseAll (wordsOf b)) := by unfold specQ; rw [e]
    rw [e, eq]
    have r0 : rdOf ByteArray.empty ([a, b].map bz) 0 = bz a := rfl
    have r1 : rdOf ByteArray.empty ([a, b].map bz) 1 = bz b := rfl
    refine Ev.congr (f := fun k => (spec_l01Number.f k (bz a)).bind fun t169 => if b = [] then (spec_l01Is.f t169 []).bind fun t175 => (if t175 = true then (some (t169, [], true)) else (some (0, ([] : List STile), false))) else (spec_l01Split.f k (bz b) 44).bind fun t177 => spec_l01Read.l0 k t177 0 t169 []) (fun k => ?_) ?_
    · rw [if_pos (by simp), if_pos (by simp), r0, r1]
      congr 1
      funext t
      simp only [Option.bind_some]
      rw [if_pos (by simp), bz_list2]
    · refine Ev.bind (number_ev a) ?_
      by_cases hb0 : b = []
      · subst hb0
        simp only [if_true]
        refine Ev.congr (f := fun _ => some (done (numR a) (some []))) (fun k => ?_) (Ev.now _)
        rw [spec_l01Is.f, if_pos (by decide)]
        simp only [Option.bind_some, done, List.map_nil]
        by_cases h : isS (numR a) [] = true
        · rw [if_pos h, if_pos h]
        · rw [if_neg h, if_neg h]
      · simp only [if_neg hb0]
        refine Ev.bind (split_ev b 44 44 rfl hb) ?_
        have h := read_l0 (splitL 44 b) (numR a) (by have := splitL_len 44 b; omega) (splitL 44 b).length 0 [] (by omega) (by simp)
        rw [List.drop_zero] at h
        have e2 : (parseAll (splitL 44 b)).map (([] : List STile) ++ ·) = parseAll (wordsOf b) := by
          rw [wordsOf, if_neg hb0]; cases parseAll (splitL 44 b) <;> simp
        rw [e2] at h
        exact h
  · have e : specQ s = ((0 : Int), ([] : List STile), false) := by
      unfold specQ
      split
      · rename_i a b hh; rw [hh] at h2; exact absurd rfl h2
      · rfl
    rw [e]
    exact Ev.congr (fun k => by rw [if_neg (by simp; omega)]) (Ev.now _)
theorem specParse_ev (s : List UInt8) (hl : s.length ≤ 2000000) : Ev (fun k => spec_ParseSet.f k (bz s)) (implP s) := by
  rw [same_parse]
  refine Ev.congr (fun k => by rw [spec_ParseSet.f]) ?_
  refine Ev.bind (specRead_ev s hl) ?_
  refine Ev.congr (fun k => ?_) (Ev.now _)
  unfold told6
  by_cases h : (specQ s).2.2 = true
  · rw [if_pos h, if_pos h]
  · rw [if_neg h, if_neg h]
theorem implParse_j3 (s : List UInt8) (C : Int) (ts : List STile) (hl : ts.length ≤ 100) : Ev (fun k => impl_ParseSet.j3 k (bz s) C ts) (implD C s (some ts)) := by
  have hin : inLim ts.length = true := by simp only [inLim, decide_eq_true_eq]; omega
  unfold implD
  by_cases h : isS C (ts.map toT) = true
  · obtain ⟨hC, h16, hd⟩ := isS_digs h
    refine Ev.step (f := fun k => (impl_setText.f k C ts).bind fun t213 => (if t213.toList = (bz s).toList then (some (C, ts, 0)) else (some (0, ([] : List STile), 6)))) (fun k => ?_) ?_
    · rw [impl_ParseSet.j3, impl_IsSet.f, if_pos hin, h]; rfl
    · refine Ev.bind (implText_ev C ts hC hd h16) ?_
      refine Ev.congr (fun k => ?_) (Ev.now _)
      rw [bz_list2, bz_list2]
      simp only [if_pos h]
      split <;> rfl
  · refine Ev.step (f := fun _ => some (0, ([] : List STile), 6)) (fun k => ?_) ?_
    · rw [impl_ParseSet.j3, impl_IsSet.f, if_pos hin, Bool.eq_false_iff.2 h]; rfl
    · simp only [if_neg h]; exact Ev.now _
theorem implParse_l1 (s b w : List UInt8) (ws : List ByteArray) (n i : Int) (C : Int) (ts : List STile) (x y z u : UInt8) (hw : w = [x, y, z, u]) (r : Int × List STile × Int) (hl : ts.length ≤ 100)
    (h : Ev (fun k => impl_ParseSet.l0 k (bz s) (bz b) ws n (wrap64 (i + 1)) C (ts ++ [⟨num x, num y, num z, num u⟩])) r) :
    Ev (fun k => impl_ParseSet.l1 k (bz s) (bz b) (bz w) ws n i 0 C ts 0 0 0 0) r := by
  subst hw
  have hs : ((bz [x, y, z, u]).size : Int) = 4 := by rw [bz_size]; rfl
  have q0 : bt (bz [x, y, z, u]) 0 = (x.toNat : Int) := bt_bz [x, y, z, u] 0 (by simp)
  have q1 : bt (bz [x, y, z, u]) 1 = (y.toNat : Int) := bt_bz [x, y, z, u] 1 (by simp)
  have q2 : bt (bz [x, y, z, u]) 2 = (z.toNat : Int) := bt_bz [x, y, z, u] 2 (by simp)
  have q3 : bt (bz [x, y, z, u]) 3 = (u.toNat : Int) := bt_bz [x, y, z, u] 3 (by simp)
  have w1 : wrap64 ((0 : Int) + 1) = 1 := by decide +kernel
  have w2 : wrap64 ((1 : Int) + 1) = 2 := by decide +kernel
  have w3 : wrap64 ((2 : Int) + 1) = 3 := by decide +kernel
  have w4 : wrap64 ((3 : Int) + 1) = 4 := by decide +kernel
  refine Ev.step (fun k => by rw [impl_ParseSet.l1, if_pos (by decide), if_pos (by decide), hs, if_pos (by decide), if_pos rfl, q0, byte_num, w1]) ?_
  refine Ev.step (fun k => by rw [impl_ParseSet.l1, if_pos (by decide), if_pos (by decide), hs, if_pos (by decide), if_neg (by decide), if_pos rfl, q1, byte_num, w2]) ?_
  refine Ev.step (fun k => by rw [impl_ParseSet.l1, if_pos (by decide), if_pos (by decide), hs, if_pos (by decide), if_neg (by decide), if_neg (by decide), if_pos rfl, q2, byte_num, w3]) ?_
  refine Ev.step (fun k => by rw [impl_ParseSet.l1, if_pos (by decide), if_pos (by decide), hs, if_pos (by decide), if_neg (by decide), if_neg (by decide), if_neg (by decide), if_pos rfl, q3, byte_num, w4]) ?_
  exact Ev.step (fun k => by rw [impl_ParseSet.l1, if_neg (by decide), if_pos (by omega)]) h
theorem implParse_l0 (s b : List UInt8) (ws : List (List UInt8)) (C : Int) (hb : ¬ b = []) (hl : ws.length ≤ 90) (d : Nat) : ∀ (i : Nat) (ts : List STile), i + d = ws.length → ts.length ≤ i →
    Ev (fun k => impl_ParseSet.l0 k (bz s) (bz b) (ws.map bz) (ws.length : Int) (i : Int) C ts) (implD C s ((parseAll (ws.drop i)).map (ts ++ ·))) := by
  induction d with
  | zero =>
    intro i ts hi ht
    rw [List.drop_of_length_le (by omega)]
    have e : (parseAll []).map (ts ++ ·) = some ts := by simp [parseAll]
    rw [e]
    exact Ev.step (fun k => by rw [impl_ParseSet.l0, if_neg (by omega)]) (implParse_j3 s C ts (by omega))
  | succ d ih =>
    intro i ts hi ht
    have hlt : i < ws.length := by omega
    have er := rdOf_bz ws i hlt
    rw [parse_head ws i hlt]
    have hb' : ¬ (bz b).toList = ([] : List UInt8) := by rw [bz_list2]; exact hb
    by_cases h4 : ws[i].length = 4
    · obtain ⟨x, y, z, u, ew⟩ := list4 _ h4
      have ep : parseW ws[i] = some ⟨num x, num y, num z, num u⟩ := by rw [ew]; rfl
      have h := ih (i + 1) (ts ++ [⟨num x, num y, num z, num u⟩]) (by omega) (by simp; omega)
      have e : ((some (⟨num x, num y, num z, num u⟩ : STile)).bind fun t => (parseAll (ws.drop (i + 1))).map (t :: ·)).map (ts ++ ·) = (parseAll (ws.drop (i + 1))).map ((ts ++ [(⟨num x, num y, num z, num u⟩ : STile)]) ++ ·) := by
        cases parseAll (ws.drop (i + 1)) <;> simp
      rw [ep, e]
      have hs : ((bz ws[i]).size : Int) = 4 := by rw [bz_size]; omega
      refine Ev.step (fun k => by rw [impl_ParseSet.l0, if_pos (by omega), if_pos (Int.natCast_nonneg i), if_pos (by simp; omega), if_neg hb', er, if_pos hs]) ?_
      refine implParse_l1 s b ws[i] (ws.map bz) (ws.length : Int) (i : Int) C ts x y z u ew _ (by omega) ?_
      rw [succ_wrapT i (by omega)]
      exact h
    · rw [parseW_none h4]
      refine Ev.step (f := fun _ => some (0, ([] : List STile), 6)) (fun k => ?_) (Ev.now _)
      rw [impl_ParseSet.l0, if_pos (by omega), if_pos (Int.natCast_nonneg i), if_pos (by simp; omega), if_neg hb', er, if_neg (by rw [bz_size]; omega)]
theorem split_f (b : List UInt8) (hl : b.length ≤ 2000000) : strings_Split.f (bz b) (⟨#[44]⟩ : ByteArray) = some ((splitL 44 b).map bz) := by
  rw [strings_Split.f, if_pos ⟨by rw [bz_size]; omega, rfl⟩]
  congr 1
  have h := Lib.splitB_data (⟨#[44]⟩ : ByteArray) 0 (Lib.countB (bz b) (⟨#[44]⟩ : ByteArray)) (bz b)
  have e1 : (⟨#[44]⟩ : ByteArray).data.toList = [44] := rfl
  have e2 : (bz b).data.toList = b := rfl
  have e3 : Lib.countB (bz b) (⟨#[44]⟩ : ByteArray) = Lib.count b [44] := rfl
  rw [e1, e2, e3, splitK_eq] at h
  rw [e3, ← h, List.map_map]
  exact (List.map_id _).symm
theorem implParse_ev (s : List UInt8) (hl : s.length ≤ 2000000) : Ev (fun k => impl_ParseSet.f k (bz s)) (implP s) := by
  have ecut : strings_Cut.f (bz s) (⟨#[58]⟩ : ByteArray) = some (bz (cutL 58 s).1, bz (cutL 58 s).2, (Lib.cut s [58]).2.2) := by
    have hc := cut_eq 58 s
    rw [strings_Cut.f, if_pos (by rw [bz_size]; omega)]
    show some (bz (Lib.cut s [58]).1, bz (Lib.cut s [58]).2.1, (Lib.cut s [58]).2.2) = _
    rw [hc.1, hc.2]
  have stop : ∀ q : Bool, q = true → Ev (fun k => impl_ParseSet.j0 k (bz s) (bz (cutL 58 s).1) (bz (cutL 58 s).2) q) ((0 : Int), ([] : List STile), (6 : Int)) := fun q hq => by
    subst hq
    exact Ev.step (f := fun _ => some ((0 : Int), ([] : List STile), (6 : Int))) (fun k => by rw [impl_ParseSet.j0, if_pos rfl]) (Ev.now _)
  unfold implP
  by_cases h1 : (cutL 58 s).1.length = 1
  · have step : ∀ k, impl_ParseSet.f k (bz s) = impl_ParseSet.j0 k (bz s) (bz (cutL 58 s).1) (bz (cutL 58 s).2) (decide (((bz (cutL 58 s).2).size : Int) > 80)) := fun k => by
      rw [impl_ParseSet.f, ecut]
      simp only [Option.bind_some]
      rw [if_pos (by rw [bz_size]; omega)]
    by_cases h80 : (cutL 58 s).2.length ≤ 80
    · rw [if_pos ⟨h1, h80⟩]
      have eq : decide (((bz (cutL 58 s).2).size : Int) > 80) = false := decide_eq_false (by rw [bz_size]; omega)
      refine Ev.congr step ?_
      rw [eq]
      obtain ⟨x, hx⟩ : ∃ x, (cutL 58 s).1 = [x] := by
        match hh : (cutL 58 s).1, h1 with
        | [x], _ => exact ⟨x, rfl⟩
      have q0 : bt (bz (cutL 58 s).1) 0 = (x.toNat : Int) := by rw [hx]; exact bt_bz [x] 0 (by simp)
      have eg : (cutL 58 s).1.getD 0 0 = x := by rw [hx]; rfl
      rw [eg]
      generalize cutL 58 s = ab at *
      obtain ⟨a, b⟩ := ab
      simp only at *
      have hsp := splitL_len 44 b
      have step2 : ∀ k, impl_ParseSet.j0 (k + 1) (bz s) (bz a) (bz b) false = impl_ParseSet.l0 k (bz s) (bz b) ((splitL 44 b).map bz) ((splitL 44 b).length : Int) 0 (num x) [] := fun k => by
        rw [impl_ParseSet.j0, if_neg (by decide), if_pos (by rw [bz_size]; omega), split_f b (by omega)]
        simp only [Option.bind_some]
        rw [q0, byte_num, List.length_map]
      refine Ev.step step2 ?_
      by_cases hb : b = []
      · subst hb
        have hp : 0 < (splitL 44 ([] : List UInt8)).length := by simp [splitL]
        refine Ev.step (fun k => by rw [impl_ParseSet.l0, if_pos (by omega), if_pos (by decide), if_pos (by simp; omega), bz_list2, if_pos rfl]) ?_
        exact implParse_j3 s (num x) [] (by simp)
      · have h := implParse_l0 s b (splitL 44 b) (num x) hb (by omega) (splitL 44 b).length 0 [] (by omega) (by simp)
        rw [List.drop_zero] at h
        have e2 : (parseAll (splitL 44 b)).map (([] : List STile) ++ ·) = parseAll (wordsOf b) := by
          rw [wordsOf, if_neg hb]; cases parseAll (splitL 44 b) <;> simp
        rw [e2] at h
        exact h
    · rw [if_neg (fun q => h80 q.2)]
      refine Ev.congr step (stop _ (decide_eq_true (by rw [bz_size]; omega)))
  · rw [if_neg (fun q => h1 q.1)]
    refine Ev.congr (fun k => ?_) (stop true rfl)
    rw [impl_ParseSet.f, ecut]
    simp only [Option.bind_some]
    rw [if_neg (by rw [bz_size]; omega)]
end Go.Proofs.YtbcnddeelefomaaDoor

/-
  Contracts: ParseSet of both.
-/
namespace Go.Proofs.YtbcnddeelefomaaDoor
open Go Go.RowKit Go.Proofs Go.Proofs.YtbcnddeelefomaaDoorW.PrintWords Go.Proofs.YtbcnddeelefomaaDoorW.PrintMore Go.Proofs.YtbcnddeelefomaaDoor.Q
set_option linter.unusedVariables false
set_option linter.unusedSimpArgs false
theorem ow_of_RTq {w : World} {base : Nat} {e : TypeId} {v : Value} {ts : List T4} {ok : Nat → Prop} (h : Kd.R k50 e w base ok v (ts.map toS)) : OW w base w.heap.size e 4 v ts.length (tcells ts) := by
  obtain ⟨-, inner, ho, hr⟩ := h
  have e4 : k50.sz = 4 := rfl
  rw [List.length_map, e4] at ho
  have hl : inner.length = ts.length * 4 := by have := hr.1; rw [List.length_map, e4] at this; exact this
  have : inner = tcells ts := by
    apply List.ext_getElem?
    intro j
    by_cases hj : j < ts.length * 4
    · obtain ⟨q, r, rfl, hr4⟩ : ∃ q r, j = q * 4 + r ∧ r < 4 := ⟨j / 4, j % 4, by omega, by omega⟩
      have hq : q < ts.length := by omega
      have h2 := hr.2 q (toS (tk ts q)) (by rw [List.getElem?_map, List.getElem?_eq_getElem hq]; simp [tk, List.getD, List.getElem?_eq_getElem hq])
      have h3 := k50_open (k50.K_of_M h2)
      rw [e4] at h3
      have h4 : inner[q * 4 + r]? = ((inner.drop (q * 4)).take 4)[r]? := by rw [List.getElem?_take, if_pos hr4, List.getElem?_drop]
      rw [h4, h3, tcells_get hq hr4]
      have : r = 0 ∨ r = 1 ∨ r = 2 ∨ r = 3 := by omega
      rcases this with rfl | rfl | rfl | rfl <;> rfl
    · rw [List.getElem?_eq_none (by omega), List.getElem?_eq_none (by rw [tcells_length]; omega)]
  subst this
  exact OW.of ho
theorem ow_of_RTp {w : World} {base : Nat} {e : TypeId} {v : Value} {l : List STile} {ok : Nat → Prop} (h : Kd.R k50 e w base ok v l) : OW w base w.heap.size e 4 v (l.map toT).length (tcells (l.map toT)) := by
  refine ow_of_RTq (ts := l.map toT) (ok := ok) ?_
  rw [map_toST]; exact h
/-- what ParseSet returns -/
def parseSetR (x : ByteArray) : (Int × List T4) × Int := (((implP x.data.toList).1, (implP x.data.toList).2.1.map toT), (implP x.data.toList).2.2)
theorem parseSetR_len (x : ByteArray) : (parseSetR x).1.2.length ≤ 1048576 := by
  have := parse_len x.data.toList
  simp only [parseSetR, List.length_map]; omega
theorem specParseSet_any (x : ByteArray) (w : World) (hl : x.size ≤ 2000000) :
    Calls Tryd.prog 11 #[.string x] w fun e w' => ∃ v xc xs code, parseSetR x = ((xc, xs), code) ∧ e = .returned (.tuple #[.agg #[.int .i64 xc, v], .int .i64 code]) ∧ OW w' w.heap.size w'.heap.size 50 4 v xs.length (tcells xs) ∧ Below w.heap.size w w' := by
  obtain ⟨k, hk⟩ := (specParse_ev x.data.toList (by rw [data_length]; exact hl)).rounds
  have h := spec_ParseSet.calls k x _ _ _ w hk
  exact h.mono fun e w' ⟨v, he, hR, hB⟩ => ⟨v, _, _, _, rfl, he, ow_of_RTp hR, hB⟩
theorem implParseSet_any (x : ByteArray) (w : World) (hl : x.size ≤ 2000000) (hm : MaxC w) :
    Calls Tryd.prog 12 #[.string x] w fun e w' => ∃ v xc xs code, parseSetR x = ((xc, xs), code) ∧ e = .returned (.tuple #[.agg #[.int .i64 xc, v], .int .i64 code]) ∧ OW w' w.heap.size w'.heap.size 50 4 v xs.length (tcells xs) ∧ Below w.heap.size w w' := by
  obtain ⟨k, hk⟩ := (implParse_ev x.data.toList (by rw [data_length]; exact hl)).rounds
  have h := impl_ParseSet.calls k x _ _ _ w hk hm
  exact h.mono fun e w' ⟨v, he, hR, hB⟩ => ⟨v, _, _, _, rfl, he, ow_of_RTp hR, hB⟩
end Go.Proofs.YtbcnddeelefomaaDoor

/-
  Contracts: NamedSet of both.
-/
namespace Go.Proofs.YtbcnddeelefomaaDoor
open Go Go.RowKit Go.Proofs Go.Proofs.YtbcnddeelefomaaDoorW.PrintWords Go.Proofs.YtbcnddeelefomaaDoorW.PrintMore Go.Proofs.YtbcnddeelefomaaDoor.Q
set_option linter.unusedVariables false
set_option linter.unusedSimpArgs false

def namesL : List (List UInt8) := [[112, 108, 97, 105, 110], [99, 104, 101, 115, 115], [119, 105, 114, 101, 115], [98, 101, 110, 100, 115], [115, 117, 109, 115], [99, 97, 114, 114, 121], [119, 97, 108, 108], [119, 104, 101, 101, 108]]
def knownL : List (List UInt8) := [[49, 58, 48, 48, 48, 48], [50, 58, 48, 48, 49, 49, 44, 49, 49, 48, 48], [50, 58, 48, 48, 48, 48, 44, 48, 49, 48, 49, 44, 49, 48, 49, 48, 44, 49, 49, 49, 49], [50, 58, 48, 48, 48, 48, 44, 48, 49, 49, 48, 44, 49, 48, 48, 49, 44, 49, 49, 49, 49], [50, 58, 48, 48, 48, 48, 44, 48, 49, 49, 49, 44, 49, 48, 49, 49, 44, 49, 49, 48, 48], [50, 58, 48, 48, 48, 48, 44, 48, 48, 49, 49, 44, 48, 49, 48, 49, 44, 49, 49, 49, 48], [50, 58, 48, 48, 48, 49], [51, 58, 48, 49, 50, 48, 44, 49, 50, 48, 49, 44, 50, 48, 49, 50]]
/-- the texts of the names are texts of sets -/
theorem known_good : ∀ x ∈ knownL, (specQ x).2.2 = true := by decide +kernel
/-- what NamedSet returns -/
def lookN (s : List UInt8) : List (List UInt8) → List (List UInt8) → Int × List STile × Int
  | n :: ns, t :: ts => if n = s then ((specQ t).1, (specQ t).2.1, 0) else lookN s ns ts
  | _, _ => (0, [], 4)
def namedP (s : List UInt8) : Int × List STile × Int := lookN s namesL knownL
def namedSetR (x : ByteArray) : (Int × List T4) × Int := (((namedP x.data.toList).1, (namedP x.data.toList).2.1.map toT), (namedP x.data.toList).2.2)
theorem quad_len (t : List UInt8) : (specQ t).2.1.length ≤ 16 := by
  have h := parse_len t
  rw [same_parse] at h
  unfold told6 at h
  split at h
  · exact h
  · rename_i hn
    have : (specQ t).2.1 = [] := by
      unfold specQ at hn ⊢
      split
      · rename_i a b hs
        rw [hs] at hn
        simp only at hn
        unfold done at hn ⊢
        split
        · rfl
        · rename_i ts hp
          rw [hp] at hn
          simp only at hn
          split
          · rename_i hi; rw [if_pos hi] at hn; exact absurd rfl hn
          · rfl
      · rfl
    rw [this]; simp
theorem look_len (s : List UInt8) : ∀ ns ts, (lookN s ns ts).2.1.length ≤ 16
  | [], _ => by simp [lookN]
  | _ :: _, [] => by simp [lookN]
  | n :: ns, t :: ts => by
    unfold lookN
    split
    · exact quad_len t
    · exact look_len s ns ts
theorem namedSetR_len (x : ByteArray) : (namedSetR x).1.2.length ≤ 1048576 := by
  have := look_len x.data.toList namesL knownL
  simp only [namedSetR, List.length_map]
  show (lookN x.data.toList namesL knownL).2.1.length ≤ _
  omega
theorem specNamed_l0 (s : List UInt8) (d : Nat) : ∀ i, i + d = 8 → Ev (fun k => spec_l01Named.l0 k (bz s) (namesL.map bz) (knownL.map bz) (i : Int)) (if (lookN s (namesL.drop i) (knownL.drop i)).2.2 = 0 then ((lookN s (namesL.drop i) (knownL.drop i)).1, (lookN s (namesL.drop i) (knownL.drop i)).2.1, true) else ((0 : Int), ([] : List STile), false)) := by
  have hn : namesL.length = 8 := rfl
  have hk : knownL.length = 8 := rfl
  induction d with
  | zero =>
    intro i hi
    refine Ev.step (f := fun _ => some ((0 : Int), ([] : List STile), false)) (fun k => ?_) ?_
    · rw [spec_l01Named.l0, if_neg (by simp; omega)]
    · rw [List.drop_of_length_le (by omega)]
      have e : (lookN s [] (knownL.drop i)) = (0, [], 4) := by unfold lookN; rfl
      rw [e]; exact Ev.now _
  | succ d ih =>
    intro i hi
    have h1 : i < namesL.length := by omega
    have h2 : i < knownL.length := by omega
    have e1 := rdOf_bz namesL i h1
    have e2 := rdOf_bz knownL i h2
    have eL : lookN s (namesL.drop i) (knownL.drop i) = if namesL[i] = s then ((specQ knownL[i]).1, (specQ knownL[i]).2.1, 0) else lookN s (namesL.drop (i + 1)) (knownL.drop (i + 1)) := by
      rw [List.drop_eq_getElem_cons h1, List.drop_eq_getElem_cons h2, lookN]
      split <;> split <;> first | rfl | contradiction
    by_cases hq : namesL[i] = s
    · rw [if_pos hq] at eL
      rw [eL]
      have hlen : knownL[i].length ≤ 2000000 := by
        have : ∀ x ∈ knownL, x.length ≤ 2000000 := by decide +kernel
        exact this _ (List.getElem_mem h2)
      refine Ev.step (f := fun k => (spec_l01Read.f k (bz knownL[i])).bind fun bt207 => (some (bt207.1, bt207.2.1, true))) (fun k => ?_) ?_
      · rw [spec_l01Named.l0, if_pos (by simp; omega), if_pos (Int.natCast_nonneg i), e1, bz_list2, bz_list2]
        split
        · rw [if_pos (by simp; omega), e2]
        · rename_i hn; exact absurd hq hn
      · exact Ev.bind (specRead_ev _ hlen) (Ev.now _)
    · rw [if_neg hq] at eL
      rw [eL]
      refine Ev.step (fun k => ?_) (ih (i + 1) (by omega))
      rw [spec_l01Named.l0, if_pos (by simp; omega), if_pos (Int.natCast_nonneg i), e1, bz_list2, bz_list2]
      split
      · rename_i hp; exact absurd hp hq
      · rw [succ_wrapT i (by omega)]
theorem look_code (s : List UInt8) : ∀ ns ts, (lookN s ns ts).2.2 = 0 ∨ lookN s ns ts = (0, [], 4)
  | [], _ => .inr (by simp [lookN])
  | _ :: _, [] => .inr (by simp [lookN])
  | n :: ns, t :: ts => by
    unfold lookN
    split
    · exact .inl rfl
    · exact look_code s ns ts
theorem specNamed_ev (s : List UInt8) : Ev (fun k => spec_NamedSet.f k (bz s)) (namedP s) := by
  refine Ev.congr (fun k => by rw [spec_NamedSet.f]) ?_
  have h : Ev (fun k => spec_l01Named.f k (bz s)) _ := specNamed_l0 s 8 0 (by omega)
  refine Ev.bind h ?_
  show Ev _ (lookN s namesL knownL)
  simp only [List.drop_zero]
  rcases look_code s namesL knownL with e | e
  · rw [if_pos e]
    refine Ev.congr (fun k => by rw [if_pos rfl]) ?_
    have e2 : lookN s namesL knownL = ((lookN s namesL knownL).1, (lookN s namesL knownL).2.1, 0) := by rw [← e]
    conv => rhs; rw [e2]
    exact Ev.now _
  · rw [e]
    exact Ev.now _
theorem known_ev (t : List UInt8) (ht : t ∈ knownL) : Ev (fun k => (impl_ParseSet.f k (bz t)).bind fun bt240 => (some (bt240.1, bt240.2.1, bt240.2.2))) ((specQ t).1, (specQ t).2.1, (0 : Int)) := by
  have hlen : t.length ≤ 2000000 := by
    have : ∀ x ∈ knownL, x.length ≤ 2000000 := by decide +kernel
    exact this _ ht
  have h := implParse_ev t hlen
  rw [same_parse, told6, if_pos (known_good t ht)] at h
  exact Ev.bind h (Ev.now _)
theorem implNamed_ev (s : List UInt8) : Ev (fun k => impl_NamedSet.f k (bz s)) (namedP s) := by
  refine Ev.congr (fun k => by rw [impl_NamedSet.f, bz_list2]) ?_
  show Ev _ (lookN s namesL knownL)
  unfold namesL knownL
  simp only [lookN]
  have sw : ∀ a : List UInt8, (a = s) = (s = a) := fun a => propext ⟨fun h => h.symm, fun h => h.symm⟩
  simp only [sw]
  by_cases h1 : s = [112, 108, 97, 105, 110]
  · rw [if_pos h1]; exact Ev.congr (fun k => by rw [if_pos h1]; rfl) (known_ev _ (by decide))
  rw [if_neg h1]; refine Ev.congr (fun k => by rw [if_neg h1]) ?_
  by_cases h2 : s = [99, 104, 101, 115, 115]
  · rw [if_pos h2]; exact Ev.congr (fun k => by rw [if_pos h2]; rfl) (known_ev _ (by decide))
  rw [if_neg h2]; refine Ev.congr (fun k => by rw [if_neg h2]) ?_
  by_cases h3 : s = [119, 105, 114, 101, 115]
  · rw [if_pos h3]; exact Ev.congr (fun k => by rw [if_pos h3]; rfl) (known_ev _ (by decide))
  rw [if_neg h3]; refine Ev.congr (fun k => by rw [if_neg h3]) ?_
  by_cases h4 : s = [98, 101, 110, 100, 115]
  · rw [if_pos h4]; exact Ev.congr (fun k => by rw [if_pos h4]; rfl) (known_ev _ (by decide))
  rw [if_neg h4]; refine Ev.congr (fun k => by rw [if_neg h4]) ?_
  by_cases h5 : s = [115, 117, 109, 115]
  · rw [if_pos h5]; exact Ev.congr (fun k => by rw [if_pos h5]; rfl) (known_ev _ (by decide))
  rw [if_neg h5]; refine Ev.congr (fun k => by rw [if_neg h5]) ?_
  by_cases h6 : s = [99, 97, 114, 114, 121]
  · rw [if_pos h6]; exact Ev.congr (fun k => by rw [if_pos h6]; rfl) (known_ev _ (by decide))
  rw [if_neg h6]; refine Ev.congr (fun k => by rw [if_neg h6]) ?_
  by_cases h7 : s = [119, 97, 108, 108]
  · rw [if_pos h7]; exact Ev.congr (fun k => by rw [if_pos h7]; rfl) (known_ev _ (by decide))
  rw [if_neg h7]; refine Ev.congr (fun k => by rw [if_neg h7]) ?_
  by_cases h8 : s = [119, 104, 101, 101, 108]
  · rw [if_pos h8]; exact Ev.congr (fun k => by rw [if_pos h8]; rfl) (known_ev _ (by decide))
  rw [if_neg h8]; exact Ev.congr (fun k => by rw [if_neg h8]) (Ev.now _)
theorem specNamedSet_any (x : ByteArray) (w : World) (hl : x.size ≤ 2000000) :
    Calls Tryd.prog 15 #[.string x] w fun e w' => ∃ v xc xs code, namedSetR x = ((xc, xs), code) ∧ e = .returned (.tuple #[.agg #[.int .i64 xc, v], .int .i64 code]) ∧ OW w' w.heap.size w'.heap.size 50 4 v xs.length (tcells xs) ∧ Below w.heap.size w w' := by
  obtain ⟨k, hk⟩ := (specNamed_ev x.data.toList).rounds
  have h := spec_NamedSet.calls k x _ _ _ w hk
  exact h.mono fun e w' ⟨v, he, hR, hB⟩ => ⟨v, _, _, _, rfl, he, ow_of_RTp hR, hB⟩
theorem implNamedSet_any (x : ByteArray) (w : World) (hl : x.size ≤ 2000000) (hm : MaxC w) :
    Calls Tryd.prog 16 #[.string x] w fun e w' => ∃ v xc xs code, namedSetR x = ((xc, xs), code) ∧ e = .returned (.tuple #[.agg #[.int .i64 xc, v], .int .i64 code]) ∧ OW w' w.heap.size w'.heap.size 50 4 v xs.length (tcells xs) ∧ Below w.heap.size w w' := by
  obtain ⟨k, hk⟩ := (implNamed_ev x.data.toList).rounds
  have h := impl_NamedSet.calls k x _ _ _ w hk hm
  exact h.mono fun e w' ⟨v, he, hR, hB⟩ => ⟨v, _, _, _, rfl, he, ow_of_RTp hR, hB⟩
end Go.Proofs.YtbcnddeelefomaaDoor

/-
  The walk of the law FnExactNamedSet.
-/
namespace Go.Proofs.YtbcnddeelefomaaDoor
open Go Go.RowKit Go.Proofs
set_option linter.unusedVariables false
set_option linter.unusedSimpArgs false

set_option maxHeartbeats 16000000 in
set_option maxRecDepth 100000 in
theorem lawNamedSet_any (w : World) (m_ : Int) (hm_ : w.cell? ⟨0, 0, none⟩ = some (.int .i64 m_)) (x0 : ByteArray) (hx0 : x0.size ≤ 140737488351232) :
    Calls Tryd.prog 5 #[.string x0] w fun e w' => e = .returned (.bool true) ∧ Below w.heap.size w w' := by
  have HMX := Lib.hid (MaxC.of_cell hm_); clear hm_
  by_cases hbig0 : (1048576 : Int) < ((x0.size : Nat) : Int)
  · go_enter Tryd.func5, Tryd.ntmps5
    go_wp2_with fail
    go_ret
    exact ⟨rfl, Below.refl _ _⟩
  · replace hbig0 : ((x0.size : Nat) : Int) ≤ 1048576 := by omega
    obtain ⟨r_, hr_⟩ : ∃ r, namedSetR x0 = r := ⟨_, rfl⟩
    obtain ⟨⟨rc1, r1⟩, r2⟩ := r_
    have hb1 : r1.length ≤ 1048576 := by have h_ := namedSetR_len x0; rw [hr_] at h_; exact h_
    have HR := Lib.hid hr_; clear hr_
    go_enter Tryd.func5, Tryd.ntmps5
    go_wp2_with fail
    refine (specNamedSet_any x0 w (by omega)).mono ?_
    rintro e w1 ⟨v0_, xc0_, x0_, x1_, hR_, rfl, hO0, hB⟩
    obtain ⟨rfl, rfl, rfl⟩ : rc1 = xc0_ ∧ r1 = x0_ ∧ r2 = x1_ := (by have h_ := HR.out.symm.trans hR_; simpa [and_assoc] using h_)
    clear hR_
    obtain ⟨A1_, c1_, rfl, -⟩ := hO0.form
    have O1 := Lib.hid hO0
    clear hO0
    have sw1 : w.heap.size ≤ w1.heap.size := hB.size
    have hE := Lib.hid (hB)
    clear hB
    go_wp2_with fail
    refine namec1 ?_
    intro w2 b0 hz hB
    have tw2 : w1.heap.size + 1 ≤ w2.heap.size := by omega
    clear hz
    replace O1 := Lib.hid (O1.out.to hB)
    have sw2 : w1.heap.size ≤ w2.heap.size := hB.size
    replace hE := Lib.hid (below_to hE.out hB)
    clear hB
    refine (implNamedSet_any x0 w2 (by omega) (HMX.out.below hE.out (Nat.le_refl _))).mono ?_
    rintro e w3 ⟨v0_, xc0_, x0_, x1_, hR_, rfl, hO0, hB⟩
    obtain ⟨rfl, rfl, rfl⟩ : rc1 = xc0_ ∧ r1 = x0_ ∧ r2 = x1_ := (by have h_ := HR.out.symm.trans hR_; simpa [and_assoc] using h_)
    clear hR_
    obtain ⟨A2_, c2_, rfl, -⟩ := hO0.form
    have O2 := Lib.hid hO0
    clear hO0
    replace b0 := b0.below hB b0.lt
    replace O1 := Lib.hid (O1.out.to hB)
    have sw3 : w2.heap.size ≤ w3.heap.size := hB.size
    replace hE := Lib.hid (below_to hE.out hB)
    clear hB
    have l0 := b0.lt
    have c0_0 : w3.cell? ⟨w1.heap.size, 0, none⟩ = some (.int .i64 rc1) := b0.cell rfl
    have c0_1 : w3.cell? ⟨w1.heap.size, 1, none⟩ = some (.slice A1_ r1.length c1_) := b0.cell rfl
    go_wp2_with fail
    clear l0 c0_0 c0_1
    refine namec1 ?_
    intro w4 b1 hz hB
    have tw4 : w3.heap.size + 1 ≤ w4.heap.size := by omega
    clear hz
    replace b0 := b0.below hB b0.lt
    replace O1 := Lib.hid (O1.out.to hB)
    replace O2 := Lib.hid (O2.out.to hB)
    have sw4 : w3.heap.size ≤ w4.heap.size := hB.size
    replace hE := Lib.hid (below_to hE.out hB)
    clear hB
    refine (eqSet_any rc1 rc1 A2_ A1_ r1 r1 r1.length r1.length c2_ c1_ w4 rfl rfl (rt_of O2.out rfl) (rt_of O1.out rfl) (by omega) (by omega)).mono ?_
    rintro e w5 ⟨rfl, hB⟩
    simp only [decide_true, Bool.and_self]
    replace b0 := b0.below hB b0.lt
    replace b1 := b1.below hB b1.lt
    replace O1 := Lib.hid (O1.out.to hB)
    replace O2 := Lib.hid (O2.out.to hB)
    have sw5 : w4.heap.size ≤ w5.heap.size := hB.size
    replace hE := Lib.hid (below_to hE.out hB)
    clear hB
    have l0 := b0.lt
    have c0_0 : w5.cell? ⟨w1.heap.size, 0, none⟩ = some (.int .i64 rc1) := b0.cell rfl
    have c0_1 : w5.cell? ⟨w1.heap.size, 1, none⟩ = some (.slice A1_ r1.length c1_) := b0.cell rfl
    have l1 := b1.lt
    have c1_0 : w5.cell? ⟨w3.heap.size, 0, none⟩ = some (.int .i64 rc1) := b1.cell rfl
    have c1_1 : w5.cell? ⟨w3.heap.size, 1, none⟩ = some (.slice A2_ r1.length c2_) := b1.cell rfl
    go_wp2_with fail
    clear l0 c0_0 c0_1 l1 c1_0 c1_1
    obtain ⟨m_O2, hm_O2⟩ : ∃ m, m = r1.length * 4 := ⟨_, rfl⟩
    have bm_O2 : m_O2 ≤ 40000000 := by omega
    have Hm_O2 := Lib.hid hm_O2; clear hm_O2
    refine (markSet_m w2.heap.size w3.heap.size rc1 (.slice A2_ r1.length c2_) r1.length m_O2 (tcells r1) (1) w5 Hm_O2.out O2.out (by omega) (by omega) (by omega)).mono ?_
    rintro e w6 ⟨rfl, hO, hK⟩
    clear O2
    have O2 := Lib.hid hO
    clear hO
    replace b0 := b0.only hK (by omega)
    replace b1 := b1.only hK (by omega)
    replace O1 := Lib.hid (O1.out.only hK (by omega))
    have sw6 : w5.heap.size ≤ w6.heap.size := hK.size
    replace hE := Lib.hid (below_only hE.out hK (by omega))
    clear hK
    have l0 := b0.lt
    have c0_0 : w6.cell? ⟨w1.heap.size, 0, none⟩ = some (.int .i64 rc1) := b0.cell rfl
    have c0_1 : w6.cell? ⟨w1.heap.size, 1, none⟩ = some (.slice A1_ r1.length c1_) := b0.cell rfl
    have l1 := b1.lt
    have c1_0 : w6.cell? ⟨w3.heap.size, 0, none⟩ = some (.int .i64 rc1) := b1.cell rfl
    have c1_1 : w6.cell? ⟨w3.heap.size, 1, none⟩ = some (.slice A2_ r1.length c2_) := b1.cell rfl
    go_wp2_with fail
    clear l0 c0_0 c0_1 l1 c1_0 c1_1
    refine (heldSet_m w2.heap.size w3.heap.size rc1 (.slice A2_ r1.length c2_) r1.length m_O2 (1) w6 Hm_O2.out O2.out (by omega) (by omega) (by omega)).mono ?_
    rintro e w7 ⟨rfl, hB⟩
    replace b0 := b0.below hB b0.lt
    replace b1 := b1.below hB b1.lt
    replace O1 := Lib.hid (O1.out.to hB)
    replace O2 := Lib.hid (O2.out.to hB)
    have sw7 : w6.heap.size ≤ w7.heap.size := hB.size
    replace hE := Lib.hid (below_to hE.out hB)
    clear hB
    have l0 := b0.lt
    have c0_0 : w7.cell? ⟨w1.heap.size, 0, none⟩ = some (.int .i64 rc1) := b0.cell rfl
    have c0_1 : w7.cell? ⟨w1.heap.size, 1, none⟩ = some (.slice A1_ r1.length c1_) := b0.cell rfl
    have l1 := b1.lt
    have c1_0 : w7.cell? ⟨w3.heap.size, 0, none⟩ = some (.int .i64 rc1) := b1.cell rfl
    have c1_1 : w7.cell? ⟨w3.heap.size, 1, none⟩ = some (.slice A2_ r1.length c2_) := b1.cell rfl
    go_wp2_with fail
    clear l0 c0_0 c0_1 l1 c1_0 c1_1
    refine (implNamedSet_any x0 w7 (by omega) (HMX.out.below hE.out (Nat.le_refl _))).mono ?_
    rintro e w8 ⟨v0_, xc0_, x0_, x1_, hR_, rfl, hO0, hB⟩
    obtain ⟨rfl, rfl, rfl⟩ : rc1 = xc0_ ∧ r1 = x0_ ∧ r2 = x1_ := (by have h_ := HR.out.symm.trans hR_; simpa [and_assoc] using h_)
    clear hR_
    obtain ⟨A3_, c3_, rfl, -⟩ := hO0.form
    have O3 := Lib.hid hO0
    clear hO0
    replace b0 := b0.below hB b0.lt
    replace b1 := b1.below hB b1.lt
    replace O1 := Lib.hid (O1.out.to hB)
    replace O2 := Lib.hid (O2.out.to hB)
    have sw8 : w7.heap.size ≤ w8.heap.size := hB.size
    replace hE := Lib.hid (below_to hE.out hB)
    clear hB
    have l0 := b0.lt
    have c0_0 : w8.cell? ⟨w1.heap.size, 0, none⟩ = some (.int .i64 rc1) := b0.cell rfl
    have c0_1 : w8.cell? ⟨w1.heap.size, 1, none⟩ = some (.slice A1_ r1.length c1_) := b0.cell rfl
    have l1 := b1.lt
    have c1_0 : w8.cell? ⟨w3.heap.size, 0, none⟩ = some (.int .i64 rc1) := b1.cell rfl
    have c1_1 : w8.cell? ⟨w3.heap.size, 1, none⟩ = some (.slice A2_ r1.length c2_) := b1.cell rfl
    go_wp2_with fail
    clear l0 c0_0 c0_1 l1 c1_0 c1_1
    refine namec1 ?_
    intro w9 b2 hz hB
    have tw9 : w8.heap.size + 1 ≤ w9.heap.size := by omega
    clear hz
    replace b0 := b0.below hB b0.lt
    replace b1 := b1.below hB b1.lt
    replace O1 := Lib.hid (O1.out.to hB)
    replace O2 := Lib.hid (O2.out.to hB)
    replace O3 := Lib.hid (O3.out.to hB)
    have sw9 : w8.heap.size ≤ w9.heap.size := hB.size
    replace hE := Lib.hid (below_to hE.out hB)
    clear hB
    refine (eqSet_any rc1 rc1 A3_ A1_ r1 r1 r1.length r1.length c3_ c1_ w9 rfl rfl (rt_of O3.out rfl) (rt_of O1.out rfl) (by omega) (by omega)).mono ?_
    rintro e w10 ⟨rfl, hB⟩
    simp only [decide_true, Bool.and_self]
    replace b0 := b0.below hB b0.lt
    replace b1 := b1.below hB b1.lt
    replace b2 := b2.below hB b2.lt
    replace O1 := Lib.hid (O1.out.to hB)
    replace O2 := Lib.hid (O2.out.to hB)
    replace O3 := Lib.hid (O3.out.to hB)
    have sw10 : w9.heap.size ≤ w10.heap.size := hB.size
    replace hE := Lib.hid (below_to hE.out hB)
    clear hB
    have l0 := b0.lt
    have c0_0 : w10.cell? ⟨w1.heap.size, 0, none⟩ = some (.int .i64 rc1) := b0.cell rfl
    have c0_1 : w10.cell? ⟨w1.heap.size, 1, none⟩ = some (.slice A1_ r1.length c1_) := b0.cell rfl
    have l1 := b1.lt
    have c1_0 : w10.cell? ⟨w3.heap.size, 0, none⟩ = some (.int .i64 rc1) := b1.cell rfl
    have c1_1 : w10.cell? ⟨w3.heap.size, 1, none⟩ = some (.slice A2_ r1.length c2_) := b1.cell rfl
    have l2 := b2.lt
    have c2_0 : w10.cell? ⟨w8.heap.size, 0, none⟩ = some (.int .i64 rc1) := b2.cell rfl
    have c2_1 : w10.cell? ⟨w8.heap.size, 1, none⟩ = some (.slice A3_ r1.length c3_) := b2.cell rfl
    go_wp2_with fail
    clear l0 c0_0 c0_1 l1 c1_0 c1_1 l2 c2_0 c2_1
    refine (heldSet_m w2.heap.size w3.heap.size rc1 (.slice A2_ r1.length c2_) r1.length m_O2 (1) w10 Hm_O2.out O2.out (by omega) (by omega) (by omega)).mono ?_
    rintro e w11 ⟨rfl, hB⟩
    replace b0 := b0.below hB b0.lt
    replace b1 := b1.below hB b1.lt
    replace b2 := b2.below hB b2.lt
    replace O1 := Lib.hid (O1.out.to hB)
    replace O2 := Lib.hid (O2.out.to hB)
    replace O3 := Lib.hid (O3.out.to hB)
    have sw11 : w10.heap.size ≤ w11.heap.size := hB.size
    replace hE := Lib.hid (below_to hE.out hB)
    clear hB
    go_wp2_with fail
    go_ret
    exact ⟨rfl, hE.out⟩
end Go.Proofs.YtbcnddeelefomaaDoor

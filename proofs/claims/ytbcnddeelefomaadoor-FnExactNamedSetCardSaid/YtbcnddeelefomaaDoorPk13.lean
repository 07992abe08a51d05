/-
  Parts of the proof, in their order: PParse.
-/
import Derived.Test.YtbcnddeelefomaaDoorPk12
import Derived.Lib.SplitLaws
/-
  Plain: the set of a text: both readers succeed just where the text is a set's text.
-/
namespace Go.Proofs.YtbcnddeelefomaaDoor
open Go Go.RowKit Go.Proofs Go.Proofs.YtbcnddeelefomaaDoorW.PrintWords Go.Proofs.YtbcnddeelefomaaDoorW.PrintMore Go.Proofs.YtbcnddeelefomaaDoor.Q
set_option linter.unusedVariables false
set_option linter.unusedSimpArgs false

/-- a text cut at each c -/
def glue (p : List UInt8) : List (List UInt8) → List (List UInt8)
  | [] => [p]
  | w :: r => (p ++ w) :: r
def splitL (c : UInt8) : List UInt8 → List (List UInt8)
  | [] => [[]]
  | x :: l => if x = c then [] :: splitL c l else glue [x] (splitL c l)
theorem glue_glue (p q : List UInt8) : ∀ ws, ws ≠ [] → glue p (glue q ws) = glue (p ++ q) ws
  | [], h => absurd rfl h
  | w :: r, _ => by simp [glue]
theorem glue_nil : ∀ ws, ws ≠ [] → glue [] ws = ws
  | [], h => absurd rfl h
  | w :: r, _ => by simp [glue]
theorem splitL_ne (c : UInt8) (l : List UInt8) : splitL c l ≠ [] := by
  cases l with
  | nil => simp [splitL]
  | cons x l =>
    unfold splitL
    split
    · simp
    · cases splitL c l <;> simp [glue]
theorem splitL_len (c : UInt8) (l : List UInt8) : (splitL c l).length ≤ l.length + 1 := by
  induction l with
  | nil => simp [splitL]
  | cons x l ih =>
    unfold splitL
    split
    · simp; omega
    · have : (glue [x] (splitL c l)).length ≤ (splitL c l).length + 0 := by
        have h := splitL_ne c l
        cases hs : splitL c l with
        | nil => exact absurd hs h
        | cons w r => simp [glue]
      simp; omega
def cutL (c : UInt8) : List UInt8 → List UInt8 × List UInt8
  | [] => ([], [])
  | x :: l => if x = c then ([], l) else (x :: (cutL c l).1, (cutL c l).2)
theorem index_eq (c : UInt8) (l : List UInt8) : Lib.index (c :: l) [c] = 0 := by simp [Lib.index]
theorem index_ne {b c : UInt8} (l : List UInt8) (h : ¬ b = c) : Lib.index (b :: l) [c] = if Lib.index l [c] = -1 then -1 else Lib.index l [c] + 1 := by
  have : ¬ c = b := fun e => h e.symm
  simp [Lib.index, this]
theorem cut_eq (c : UInt8) (s : List UInt8) : (Lib.cut s [c]).1 = (cutL c s).1 ∧ (Lib.cut s [c]).2.1 = (cutL c s).2 := by
  induction s with
  | nil => simp [Lib.cut, Lib.index, cutL]
  | cons b l ih =>
    unfold cutL
    by_cases h : b = c
    · subst h
      rw [if_pos rfl]
      simp [Lib.cut, index_eq]
    · rw [if_neg h]
      have hge := Lib.index_ge l [c]
      unfold Lib.cut at ih ⊢
      rw [index_ne l h]
      by_cases h1 : Lib.index l [c] = -1
      · rw [if_pos h1, if_neg (by decide)]
        rw [if_neg (by omega)] at ih
        simp only at ih ⊢
        rw [← ih.1, ← ih.2]; exact ⟨rfl, rfl⟩
      · rw [if_neg h1, if_pos (by omega)]
        rw [if_pos (by omega)] at ih
        simp only at ih ⊢
        rw [← ih.1, ← ih.2]
        have e : (Lib.index l [c] + 1).toNat = (Lib.index l [c]).toNat + 1 := by omega
        rw [e]
        refine ⟨rfl, ?_⟩
        show List.drop ((Lib.index l [c]).toNat + 1 + 1) (b :: l) = _
        rw [List.drop_succ_cons]; rfl
theorem splitK_eq (c : UInt8) (s : List UInt8) : Lib.splitK [c] 0 (Lib.count s [c]) s = splitL c s := by
  induction s with
  | nil => rw [Lib.count_one]; rfl
  | cons b l ih =>
    unfold splitL
    by_cases h : b = c
    · subst h
      rw [if_pos rfl, Lib.count_cons_eq, Nat.add_comm, Lib.splitK, index_eq]
      simp only [show ((0 : Int) == -1) = false from rfl]
      show List.take 0 (b :: l) :: Lib.splitK [b] 0 (Lib.count l [b]) (List.drop 1 (b :: l)) = _
      rw [show List.drop 1 (b :: l) = l from rfl, ih]; rfl
    · rw [if_neg h, Lib.count_cons_ne b c l h, ← ih]
      have hge := Lib.index_ge l [c]
      cases hk : Lib.count l [c] with
      | zero => rfl
      | succ k =>
        rw [Lib.splitK, Lib.splitK, index_ne l h]
        by_cases h1 : Lib.index l [c] = -1
        · rw [if_pos h1, h1]; rfl
        · have n1 : (Lib.index l [c] == -1) = false := by simpa using h1
          have n2 : (Lib.index l [c] + 1 == -1) = false := by simp; omega
          have e : (Lib.index l [c] + 1).toNat = (Lib.index l [c]).toNat + 1 := by omega
          rw [if_neg h1, n1, n2, e]
          show List.take ((Lib.index l [c]).toNat + 1) (b :: l) :: Lib.splitK [c] 0 k (List.drop ((Lib.index l [c]).toNat + 1 + 1) (b :: l)) = (b :: List.take (Lib.index l [c]).toNat l) :: Lib.splitK [c] 0 k (List.drop ((Lib.index l [c]).toNat + 1) l)
          rw [List.take_succ_cons, List.drop_succ_cons]
/-- words joined by c -/
def joinL (c : UInt8) : List (List UInt8) → List UInt8
  | [] => []
  | w :: r => w ++ r.flatMap (c :: ·)
theorem join_split (c : UInt8) (l : List UInt8) : joinL c (splitL c l) = l := by
  induction l with
  | nil => rfl
  | cons x l ih =>
    unfold splitL
    have hne := splitL_ne c l
    by_cases h : x = c
    · subst h
      rw [if_pos rfl]
      cases hs : splitL x l with
      | nil => exact absurd hs hne
      | cons w r => rw [hs] at ih; simp only [joinL, List.nil_append, List.flatMap_cons] at ih ⊢; rw [List.cons_append, ih]
    · rw [if_neg h]
      cases hs : splitL c l with
      | nil => exact absurd hs hne
      | cons w r => rw [hs] at ih; simp only [joinL, glue, List.cons_append, List.nil_append] at ih ⊢; rw [ih]
theorem split_app (c : UInt8) (w l : List UInt8) (h : c ∉ w) : splitL c (w ++ l) = glue w (splitL c l) := by
  induction w with
  | nil => rw [List.nil_append, glue_nil _ (splitL_ne c l)]
  | cons x w ih =>
    have hx : ¬ x = c := fun e => h (by rw [e]; exact List.mem_cons_self)
    rw [List.cons_append, splitL, if_neg hx, ih (fun hm => h (List.mem_cons_of_mem _ hm)), glue_glue _ _ _ (splitL_ne c l)]; rfl
theorem split_join (c : UInt8) : ∀ ws : List (List UInt8), ws ≠ [] → (∀ w ∈ ws, c ∉ w) → splitL c (joinL c ws) = ws
  | [], h, _ => absurd rfl h
  | [w], _, hw => by
    have := split_app c w [] (hw w List.mem_cons_self)
    rw [List.append_nil] at this
    show splitL c (w ++ []) = [w]
    rw [List.append_nil, this]; simp [splitL, glue]
  | w :: v :: r, _, hw => by
    have ih := split_join c (v :: r) (by simp) (fun u hu => hw u (List.mem_cons_of_mem _ hu))
    show splitL c (w ++ (c :: v ++ r.flatMap (c :: ·))) = _
    rw [split_app c w _ (hw w List.mem_cons_self)]
    show glue w (splitL c (c :: joinL c (v :: r))) = _
    rw [splitL, if_pos rfl, ih]; simp [glue]
/-- a byte's number; a word of four digits; words -/
def num (x : UInt8) : Int := (x.toNat : Int) - 48
def parseW : List UInt8 → Option STile
  | [a, b, c, d] => some ⟨num a, num b, num c, num d⟩
  | _ => none
def parseAll : List (List UInt8) → Option (List STile)
  | [] => some []
  | w :: r => (parseW w).bind fun t => (parseAll r).map (t :: ·)
def wordsOf (b : List UInt8) : List (List UInt8) := if b = [] then [] else splitL 44 b
def numGo : List UInt8 → Int → Int
  | [], acc => acc
  | x :: l, acc => if x.toNat < 48 then -1 else if 57 < x.toNat then -1 else numGo l (acc * 10 + num x)
def numR (a : List UInt8) : Int := if a.length = 0 ∨ 9 < a.length ∨ (1 < a.length ∧ a.getD 0 0 = 48) then -1 else numGo a 0
def done (C : Int) (o : Option (List STile)) : Int × List STile × Bool :=
  match o with
  | none => (0, [], false)
  | some ts => if isS C (ts.map toT) = true then (C, ts, true) else (0, [], false)
def specQ (s : List UInt8) : Int × List STile × Bool :=
  match splitL 58 s with
  | [a, b] => done (numR a) (parseAll (wordsOf b))
  | _ => (0, [], false)
def told6 (r : Int × List STile × Bool) : Int × List STile × Int := if r.2.2 = true then (r.1, r.2.1, 0) else (0, [], 6)
def implD (C : Int) (s : List UInt8) (o : Option (List STile)) : Int × List STile × Int :=
  match o with
  | none => (0, [], 6)
  | some ts => if isS C (ts.map toT) = true then (if textS C ts = s then (C, ts, 0) else (0, [], 6)) else (0, [], 6)
def implP (s : List UInt8) : Int × List STile × Int :=
  if (cutL 58 s).1.length = 1 ∧ (cutL 58 s).2.length ≤ 80 then implD (num ((cutL 58 s).1.getD 0 0)) s (parseAll (wordsOf (cutL 58 s).2)) else (0, [], 6)
theorem dig_nat {n : Int} (h : 0 ≤ n ∧ n < 10) : (dig n).toNat = 48 + n.toNat := by
  simp [dig, UInt8.toNat_ofNat']; omega
theorem num_dig {n : Int} (h : 0 ≤ n ∧ n < 10) : num (dig n) = n := by
  rw [num, dig_nat h]; omega
theorem dig_num {x : UInt8} (h : 0 ≤ num x) : dig (num x) = x := by
  unfold num at h ⊢
  have e : 48 + ((x.toNat : Int) - 48).toNat = x.toNat := by omega
  rw [dig, e]; exact UInt8.ofNat_toNat
theorem dig_not {n : Int} (h : 0 ≤ n ∧ n < 10) : dig n ≠ 58 ∧ dig n ≠ 44 := by
  have e := dig_nat h
  constructor
  · intro q; rw [q] at e; simp at e; omega
  · intro q; rw [q] at e; simp at e; omega
theorem tile_not {t : STile} (h : (0 ≤ t.f0 ∧ t.f0 < 10) ∧ (0 ≤ t.f1 ∧ t.f1 < 10) ∧ (0 ≤ t.f2 ∧ t.f2 < 10) ∧ 0 ≤ t.f3 ∧ t.f3 < 10) : (58 : UInt8) ∉ tileS t ∧ (44 : UInt8) ∉ tileS t := by
  have a0 := dig_not h.1; have a1 := dig_not h.2.1; have a2 := dig_not h.2.2.1; have a3 := dig_not h.2.2.2
  simp only [tileS, List.mem_cons, List.not_mem_nil, or_false]
  constructor
  · rintro (e | e | e | e)
    · exact a0.1 e.symm
    · exact a1.1 e.symm
    · exact a2.1 e.symm
    · exact a3.1 e.symm
  · rintro (e | e | e | e)
    · exact a0.2 e.symm
    · exact a1.2 e.symm
    · exact a2.2 e.symm
    · exact a3.2 e.symm
theorem body_join (l : List STile) : bodyS l = joinL 44 (l.map tileS) := by
  cases l with
  | nil => rfl
  | cons t l => simp only [bodyS, tailS, joinL, List.map_cons, List.flatMap_map]
theorem tail_no58 (l : List STile) (h : Digs l) : (58 : UInt8) ∉ tailS l := by
  intro hm
  simp only [tailS, List.mem_flatMap, List.mem_cons] at hm
  obtain ⟨t, ht, e | e⟩ := hm
  · exact absurd e (by decide)
  · exact (tile_not (h t ht)).1 e
theorem body_no58 (l : List STile) (h : Digs l) : (58 : UInt8) ∉ bodyS l := by
  cases l with
  | nil => simp [bodyS]
  | cons t l =>
    simp only [bodyS, List.mem_append]
    rintro (e | e)
    · exact (tile_not (h t List.mem_cons_self)).1 e
    · exact tail_no58 l (fun u hu => h u (List.mem_cons_of_mem _ hu)) e
theorem words_body (l : List STile) (h : Digs l) : wordsOf (bodyS l) = l.map tileS := by
  cases l with
  | nil => simp [wordsOf, bodyS]
  | cons t l =>
    have hne : ¬ bodyS (t :: l) = [] := by simp [bodyS, tileS]
    rw [wordsOf, if_neg hne, body_join, split_join 44 _ (by simp)]
    intro w hw
    obtain ⟨u, hu, rfl⟩ := List.mem_map.1 hw
    exact (tile_not (h u hu)).2
theorem parse_tiles (l : List STile) (h : Digs l) : parseAll (l.map tileS) = some l := by
  induction l with
  | nil => rfl
  | cons t l ih =>
    have ht := h t List.mem_cons_self
    have e : parseW (tileS t) = some t := by
      show some (⟨num (dig t.f0), num (dig t.f1), num (dig t.f2), num (dig t.f3)⟩ : STile) = some t
      rw [num_dig ht.1, num_dig ht.2.1, num_dig ht.2.2.1, num_dig ht.2.2.2]
    rw [List.map_cons, parseAll, e, ih (fun u hu => h u (List.mem_cons_of_mem _ hu))]; rfl
theorem parse_back : ∀ (ws : List (List UInt8)) (ts : List STile), parseAll ws = some ts → (∀ t ∈ ts, 0 ≤ t.f0 ∧ 0 ≤ t.f1 ∧ 0 ≤ t.f2 ∧ 0 ≤ t.f3) → ws = ts.map tileS := by
  intro ws
  induction ws with
  | nil => intro ts h _; obtain rfl := Option.some.inj h; rfl
  | cons w r ih =>
    intro ts h hp
    rw [parseAll] at h
    obtain ⟨t, ht, h⟩ := Option.bind_eq_some_iff.1 h
    obtain ⟨us, hu, rfl⟩ := Option.map_eq_some_iff.1 h
    have hr := ih us hu (fun v hv => hp v (List.mem_cons_of_mem _ hv))
    have h0 := hp t List.mem_cons_self
    have e : w = tileS t := by
      match w, ht with
      | [a, b, c, d], ht =>
        have e := Option.some.inj ht
        subst e
        simp only at h0
        simp only [tileS, dig_num h0.1, dig_num h0.2.1, dig_num h0.2.2.1, dig_num h0.2.2.2]
    rw [List.map_cons, hr, e]
theorem numGo_ten : ∀ (l : List UInt8) (acc : Int), 10 ≤ acc → numGo l acc = -1 ∨ 10 ≤ numGo l acc
  | [], acc, h => .inr h
  | x :: l, acc, h => by
    unfold numGo
    split
    · exact .inl rfl
    · split
      · exact .inl rfl
      · exact numGo_ten l _ (by unfold num; omega)
theorem numR_one (a : List UInt8) (h : 1 ≤ numR a ∧ numR a ≤ 6) : a = [dig (numR a)] := by
  unfold numR at h ⊢
  split
  · rename_i hq; rw [if_pos hq] at h; omega
  · rename_i hq
    rw [if_neg hq] at h
    match a, hq, h with
    | [], hq, _ => exact absurd (Or.inl rfl) hq
    | [x], hq, h =>
      simp only [numGo] at h ⊢
      split at h
      · omega
      · split at h
        · omega
        · rename_i h1 h2
          rw [if_neg h1, if_neg h2]
          have e : (0 : Int) * 10 + num x = num x := by omega
          rw [e] at h ⊢
          rw [dig_num (by omega)]
    | x :: y :: l, hq, h =>
      exfalso
      have hx : ¬ x = 48 := fun e => hq (.inr (.inr ⟨by simp, by rw [e]; rfl⟩))
      rw [numGo] at h
      split at h
      · omega
      · split at h
        · omega
        · rename_i h1 h2
          have hx2 : 49 ≤ x.toNat := by
            have : ¬ x.toNat = 48 := fun e => hx (UInt8.toNat_inj.1 (by rw [e]; rfl))
            omega
          rw [numGo] at h
          split at h
          · omega
          · split at h
            · omega
            · rcases numGo_ten l ((0 * 10 + num x) * 10 + num y) (by unfold num; omega) with e | e <;> omega
theorem numR_dig {n : Int} (h : 0 ≤ n ∧ n < 10) : numR [dig n] = n := by
  have e := dig_nat h
  rw [numR, if_neg (by simp), numGo, if_neg (by omega), if_neg (by omega), numGo, num_dig h]; omega
theorem cut_text (c : UInt8) (a b : List UInt8) (h : c ∉ a) : cutL c (a ++ c :: b) = (a, b) := by
  induction a with
  | nil => simp [cutL]
  | cons x a ih =>
    have hx : ¬ x = c := fun e => h (by rw [e]; exact List.mem_cons_self)
    rw [List.cons_append, cutL, if_neg hx, ih (fun hm => h (List.mem_cons_of_mem _ hm))]
theorem good_both {C : Int} {ts : List STile} {s : List UInt8} (h : isS C (ts.map toT) = true) (e : textS C ts = s) : implP s = (C, ts, 0) ∧ told6 (specQ s) = (C, ts, 0) := by
  obtain ⟨hC, hl, hd⟩ := isS_digs h
  have hn : (58 : UInt8) ∉ [dig C] := by
    simp only [List.mem_cons, List.not_mem_nil, or_false]
    exact fun q => (dig_not hC).1 q.symm
  have ec : cutL 58 s = ([dig C], bodyS ts) := by rw [← e]; exact cut_text 58 [dig C] (bodyS ts) hn
  have es : splitL 58 s = [[dig C], bodyS ts] := by
    rw [← e]
    show splitL 58 ([dig C] ++ 58 :: bodyS ts) = _
    rw [split_app 58 _ _ hn, splitL, if_pos rfl]
    have := split_app 58 (bodyS ts) [] (body_no58 ts hd)
    rw [List.append_nil] at this
    rw [this]; simp [splitL, glue]
  have hb := body_len ts
  constructor
  · unfold implP
    rw [ec, if_pos ⟨rfl, by show (bodyS ts).length ≤ 80; omega⟩]
    show implD (num (dig C)) s (parseAll (wordsOf (bodyS ts))) = _
    rw [words_body ts hd, parse_tiles ts hd, num_dig hC]
    simp only [implD]
    rw [if_pos h, if_pos e]
  · unfold specQ
    rw [es]
    simp only
    rw [words_body ts hd, parse_tiles ts hd, numR_dig hC]
    simp only [done]
    rw [if_pos h]; rfl
theorem impl_good (s : List UInt8) : implP s = (0, [], 6) ∨ ∃ C ts, isS C (ts.map toT) = true ∧ textS C ts = s := by
  unfold implP
  split
  · unfold implD
    split
    · exact .inl rfl
    · split
      · rename_i h1
        split
        · rename_i h2
          exact .inr ⟨_, _, h1, h2⟩
        · exact .inl rfl
      · exact .inl rfl
  · exact .inl rfl
theorem spec_good (s : List UInt8) : told6 (specQ s) = (0, [], 6) ∨ ∃ C ts, isS C (ts.map toT) = true ∧ textS C ts = s := by
  unfold specQ
  split
  · rename_i a b hs
    unfold done
    split
    · exact .inl rfl
    · rename_i ts hp
      split
      · rename_i h1
        refine .inr ⟨_, ts, h1, ?_⟩
        obtain ⟨hC, hl, ht⟩ := isS_fineT h1
        have ha := numR_one a hC
        have hw := parse_back _ _ hp (fun t m => by have := ht t m; omega)
        have hb : b = bodyS ts := by
          rw [body_join, ← hw, wordsOf]
          split
          · rename_i hb; rw [hb]; rfl
          · exact (join_split 44 b).symm
        have hj := join_split 58 s
        rw [hs] at hj
        have hj' : a ++ 58 :: b = s := by simpa [joinL] using hj
        rw [← hj', textS, hb]
        conv => rhs; rw [ha]
        rfl
      · exact .inl rfl
  · exact .inl rfl
theorem same_parse (s : List UInt8) : implP s = told6 (specQ s) := by
  rcases impl_good s with h | ⟨C, ts, h1, h2⟩
  · rcases spec_good s with h' | ⟨C, ts, h1, h2⟩
    · rw [h, h']
    · rw [(good_both h1 h2).1, (good_both h1 h2).2]
  · rw [(good_both h1 h2).1, (good_both h1 h2).2]
theorem parse_len (s : List UInt8) : (implP s).2.1.length ≤ 16 := by
  rcases impl_good s with h | ⟨C, ts, h1, h2⟩
  · rw [h]; simp
  · rw [(good_both h1 h2).1]; exact (isS_fineT h1).2.1
end Go.Proofs.YtbcnddeelefomaaDoor

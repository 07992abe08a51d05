/-
  Plain law of l02Ways: it counts with the bound, layer by layer.
-/
import Derived.Test.YtenlcakpcbmmdaaCounts
import Derived.Test.YtenlcakpcbmmdaaQSpecL02Ways
namespace Go.Proofs.Ytenlcakpcbmmdaa
open Go Go.RowKit Go.Proofs Go.Proofs.YtenlcakpcbmmdaaW.PrintWords Go.Proofs.YtenlcakpcbmmdaaW.PrintMore Go.Proofs.Ytenlcakpcbmmdaa.Q
set_option linter.unusedVariables false
set_option linter.unusedSimpArgs false

theorem isS_fine {C : Int} {l : List STile} (h : isS C (l.map toT) = true) : (1 ≤ C ∧ C ≤ 6) ∧ l.length ≤ 16 ∧ ∀ t ∈ l, (0 ≤ t.f0 ∧ t.f0 < C) ∧ (0 ≤ t.f1 ∧ t.f1 < C) ∧ (0 ≤ t.f2 ∧ t.f2 < C) ∧ (0 ≤ t.f3 ∧ t.f3 < C) := by
  obtain ⟨hc, hl, hok⟩ := isS_iff.1 h
  refine ⟨hc, by simpa using hl, fun t ht => ?_⟩
  obtain ⟨i, hi, rfl⟩ := List.getElem_of_mem ht
  have := (hok i (by simpa using hi)).1
  rw [tk_map _ _ hi] at this
  simp only [tileB, Bool.and_eq_true, inB_iff, T4.get, toT] at this
  simp at this
  omega
theorem isS_Fine {C : Int} {l : List STile} (h : isS C (l.map toT) = true) : Fine C.toNat l := by
  obtain ⟨hc, _, hf⟩ := isS_fine h
  intro t ht
  have := hf t ht
  omega
/-- entries between 0 and the bound -/
def Bd (v : List Int) : Prop := ∀ i, 0 ≤ v.getD i 0 ∧ v.getD i 0 ≤ 1000000000000001
theorem bd_capT {c : Nat} {now acc : List Int} (hn : Bd now) (ha : Bd acc) (hl : acc.length = c) {t : STile} (ht : 0 ≤ t.f0 ∧ t.f0 < c ∧ 0 ≤ t.f2 ∧ t.f2 < c) : Bd (capT now acc t) := by
  intro i
  rw [capT, getD_set _ _ _ _ (by omega)]
  split
  · rw [rd_at ht.2.2.1, rd_at ht.1]
    have := hn t.f0.toNat; have := ha t.f2.toNat
    exact ⟨cap_nn (by omega), cap_le _⟩
  · exact ha i
theorem bd_zero (c : Nat) : Bd (List.replicate c 0) := by
  intro i
  have h : (List.replicate c (0 : Int)).getD i 0 = 0 := by simp [List.getD_eq_getElem?_getD, List.getElem?_replicate]; split <;> simp
  rw [h]; omega
theorem bd_fold {c : Nat} {now : List Int} (hn : Bd now) (L : List STile) (hL : Fine c L) : ∀ acc, Bd acc → acc.length = c → Bd (L.foldl (capT now) acc) := by
  induction L with
  | nil => intro acc h _; exact h
  | cons t L ih =>
    intro acc h hl
    exact ih (fun s hs => hL s (List.mem_cons_of_mem _ hs)) _ (bd_capT hn h hl (hL t (by simp))) (by rw [capT_len, hl])
theorem bd_step {c : Nat} {now : List Int} (hn : Bd now) (L : List STile) (hL : Fine c L) : Bd (stepC c now L) := bd_fold hn L hL _ (bd_zero c) (by simp)
theorem rdT_nat (l : List STile) (i : Nat) (h : i < l.length) : rd_T77 l (i : Int) = l[i] := by
  simp [rd_T77, List.getD_eq_getElem?_getD, List.getElem?_eq_getElem h]

/-- which tiles are for place p of a word; all, if there is no word -/
def pass (word : List Int) (p : Int) (t : STile) : Bool := decide (word.length = 0) || decide (rd word p = t.f1)
def layer (l : List STile) (word : List Int) (p : Int) : List STile := l.filter (pass word p)
theorem fine_filter {c : Nat} {l : List STile} (h : Fine c l) (q : STile → Bool) : Fine c (l.filter q) := fun t ht => h t (List.mem_filter.1 ht).1
theorem specWays_l1 (n : Int) (word now : List Int) (C : Int) (l : List STile) (r : List Int) (c : Nat) (hC : C = (c : Int)) (hnow : now.length = c) (bnow : Bd now) (hf : Fine c l) (hl : l.length ≤ 1000)
    (p : Int) (hp0 : 0 ≤ p) (hp : 0 < word.length → p < word.length) (hp2 : p ≤ 1000) (m : Nat) : ∀ (i : Nat) (acc : List Int), i + m = l.length → acc.length = c → Bd acc →
    Ev (fun k => spec_l02Ways.l0 k n word (((l.drop i).filter (pass word p)).foldl (capT now) acc) (p + 1) C l) r → Ev (fun k => spec_l02Ways.l1 k n word now p acc (i : Int) C l) r := by
  induction m with
  | zero =>
    intro i acc hi ha hb h
    refine Ev.step (fun k => ?_) h
    rw [spec_l02Ways.l1, if_neg (by omega), wrap_id (by omega) (by omega), List.drop_of_length_le (by omega)]
    rfl
  | succ m ih =>
    intro i acc hi ha hb h
    have hlt : i < l.length := by omega
    have ht := hf l[i] (List.getElem_mem hlt)
    have hd : l.drop i = l[i] :: l.drop (i + 1) := List.drop_eq_getElem_cons hlt
    have hw : wrap64 ((i : Int) + 1) = ((i + 1 : Nat) : Int) := by rw [wrap_id (by omega) (by omega)]; omega
    have a1 : (i : Int) < (l.length : Int) := by omega
    have a2 : (0 : Int) ≤ (i : Int) := Int.natCast_nonneg i
    have a3 := ht.2.2.1
    have a4 : l[i].f2 < (acc.length : Int) := by have := ht.2.2.2; omega
    have a5 := ht.1
    have a6 : l[i].f0 < (now.length : Int) := by have := ht.2.1; omega
    have hgo : pass word p l[i] = true → Ev (fun k => spec_l02Ways.l1 k n word now p (acc.set l[i].f2.toNat (mn (wrap64 (rd acc l[i].f2 + rd now l[i].f0)) 1000000000000001)) ((i + 1 : Nat) : Int) C l) r := by
      intro hq
      have e : acc.set l[i].f2.toNat (mn (wrap64 (rd acc l[i].f2 + rd now l[i].f0)) 1000000000000001) = capT now acc l[i] := by
        rw [capT, mn_cap, wrap_id]
        · rw [rd_at ht.2.2.1, rd_at ht.1]; have := hb l[i].f2.toNat; have := bnow l[i].f0.toNat; omega
        · rw [rd_at ht.2.2.1, rd_at ht.1]; have := hb l[i].f2.toNat; have := bnow l[i].f0.toNat; omega
      rw [e]
      refine ih (i + 1) _ (by omega) (by rw [capT_len, ha]) (bd_capT bnow hb ha ht) ?_
      rw [hd, List.filter_cons, if_pos hq, List.foldl_cons] at h
      exact h
    by_cases h0 : 0 < word.length
    · have h0' : (word.length : Int) > 0 := by omega
      have a7 : p < (word.length : Int) := hp h0
      by_cases hq : rd word p = l[i].f1
      · refine Ev.step (fun k => ?_) (hgo (by simp [pass, hq]))
        rw [spec_l02Ways.l1, if_pos a1, if_pos a2, if_pos h0', if_pos hp0, if_pos a7, rdT_nat l i hlt, if_pos hq, if_pos a3, if_pos a4, if_pos a5, if_pos a6, hw]
      · have hq' : pass word p l[i] = false := by simp [pass, hq]; intro e; rw [e] at h0; simp at h0
        refine Ev.step (fun k => ?_) (ih (i + 1) acc (by omega) ha hb (by rw [hd, List.filter_cons, if_neg (by simp [hq'])] at h; exact h))
        rw [spec_l02Ways.l1, if_pos a1, if_pos a2, if_pos h0', if_pos hp0, if_pos a7, rdT_nat l i hlt, if_neg hq, hw]
    · have h0' : ¬ (word.length : Int) > 0 := by omega
      refine Ev.step (fun k => ?_) (hgo (by simp [pass]; left; exact List.eq_nil_of_length_eq_zero (by omega)))
      rw [spec_l02Ways.l1, if_pos a1, if_pos a2, if_neg h0', rdT_nat l i hlt, if_pos a3, if_pos a4, if_pos a5, if_pos a6, hw]
/-- the layers for places p.. of a word -/
def layers (l : List STile) (word : List Int) (p d : Nat) : List (List STile) := (List.range d).map fun j => layer l word ((p + j : Nat) : Int)
theorem layers_succ (l : List STile) (word : List Int) (p d : Nat) : layers l word p (d + 1) = layer l word p :: layers l word (p + 1) d := by
  simp only [layers, List.range_succ_eq_map, List.map_cons, List.map_map, Nat.add_zero]
  congr 1
  apply List.map_congr_left
  intro j _
  simp only [Function.comp_def, Nat.succ_eq_add_one]
  congr 2; omega
theorem specWays_l0 (n : Int) (word : List Int) (C : Int) (l : List STile) (c : Nat) (hC : C = (c : Int)) (hc : c ≤ 1000) (hf : Fine c l) (hl : l.length ≤ 1000) (hn : n ≤ 1000) (hw : 0 < word.length → n ≤ word.length) (d : Nat) :
    ∀ (p : Nat) (now : List Int), (p : Int) + d = n → now.length = c → Bd now → Ev (fun k => spec_l02Ways.l0 k n word now (p : Int) C l) (waysC c now (layers l word p d)) := by
  induction d with
  | zero =>
    intro p now hp hnow hb
    refine Ev.step (fun k => ?_) (Ev.now _)
    rw [spec_l02Ways.l0, if_neg (by omega)]
    rfl
  | succ d ih =>
    intro p now hp hnow hb
    have h1 := ih (p + 1) (stepC c now (layer l word p)) (by omega) (stepC_len _ _ _) (bd_step hb _ (fine_filter hf _))
    have h2 := specWays_l1 n word now C l (waysC c now (layers l word p (d + 1))) c hC hnow hb hf hl p (by omega) (fun h => by have := hw h; omega) (by omega) l.length 0 (List.replicate c 0) (by omega) (by simp) (bd_zero c)
    rw [layers_succ] at h2 ⊢
    refine Ev.step (fun k => ?_) (h2 ?_)
    · rw [spec_l02Ways.l0, if_pos (by omega), if_pos (by omega), if_pos (by omega)]
      subst hC; rfl
    · rw [List.drop_zero]
      have e : ((p : Int) + 1) = ((p + 1 : Nat) : Int) := by omega
      rw [e]
      simpa [waysC, stepC, layer] using h1
/-- l02Ways: the rows of n tiles, with a word or without -/
theorem specWays_ev (C : Int) (l : List STile) (from_ word : List Int) (n : Int) (c : Nat) (hC : C = (c : Int)) (hc : c ≤ 1000) (hf : Fine c l) (hl : l.length ≤ 1000) (hn0 : 0 ≤ n) (hn : n ≤ 1000) (hw : 0 < word.length → n ≤ word.length) (hlen : from_.length = c) (hb : Bd from_) :
    Ev (fun k => spec_l02Ways.f k C l from_ n word) (waysC c from_ (layers l word 0 n.toNat)) := by
  have h := specWays_l0 n word C l c hC hc hf hl hn hw n.toNat 0 from_ (by omega) hlen hb
  refine Ev.congr (fun k => ?_) h
  rw [spec_l02Ways.f, spec_l01Own.f]
  simp only [Option.bind_some]
  rw [if_pos (by simp; omega)]
  simp
end Go.Proofs.Ytenlcakpcbmmdaa

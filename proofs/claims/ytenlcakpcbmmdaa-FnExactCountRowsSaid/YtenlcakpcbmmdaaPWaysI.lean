/-
  Plain law of the program's ways: for each colour the same count with the bound.
-/
import Derived.Test.YtenlcakpcbmmdaaPWays
import Derived.Test.YtenlcakpcbmmdaaQImplSetWays
namespace Go.Proofs.Ytenlcakpcbmmdaa
open Go Go.RowKit Go.Proofs Go.Proofs.YtenlcakpcbmmdaaW.PrintWords Go.Proofs.YtenlcakpcbmmdaaW.PrintMore Go.Proofs.Ytenlcakpcbmmdaa.Q
set_option linter.unusedVariables false
set_option linter.unusedSimpArgs false

def unit (c a : Nat) : List Int := (List.replicate c 0).set a 1
theorem unit_len (c a : Nat) : (unit c a).length = c := by simp [unit]
theorem bd_unit (c a : Nat) : Bd (unit c a) := by
  intro i
  by_cases h : a < c
  · rw [unit, getD_set _ _ _ _ (by simpa using h)]
    split
    · omega
    · exact bd_zero c i
  · rw [unit, List.set_eq_of_length_le (by simp; omega)]; exact bd_zero c i
theorem implWays_l2 (n : Int) (out : List (List Int)) (row : List Int) (y14 x13 x23 x24 C : Int) (l : List STile) (r : List (List Int)) (c : Nat) (hrow : row.length = c) (brow : Bd row) (hf : Fine c l) (hl : l.length ≤ 1000) (m : Nat) :
    ∀ (i : Nat) (acc : List Int), i + m = l.length → acc.length = c → Bd acc →
    Ev (fun k => impl_Set_ways.l1 k n out ((l.drop i).foldl (capT row) acc) x13 y14 x23 (wrap64 (x24 + 1)) C l) r → Ev (fun k => impl_Set_ways.l2 k n out row acc x13 y14 x23 x24 l (l.length : Int) (i : Int) C l) r := by
  induction m with
  | zero =>
    intro i acc hi ha hb h
    refine Ev.step (fun k => ?_) h
    rw [impl_Set_ways.l2, if_neg (by omega), List.drop_of_length_le (by omega)]
    rfl
  | succ m ih =>
    intro i acc hi ha hb h
    have hlt : i < l.length := by omega
    have ht := hf l[i] (List.getElem_mem hlt)
    have hd : l.drop i = l[i] :: l.drop (i + 1) := List.drop_eq_getElem_cons hlt
    have hw : wrap64 ((i : Int) + 1) = ((i + 1 : Nat) : Int) := by rw [wrap_id (by omega) (by omega)]; omega
    have a1 : (i : Int) < (l.length : Int) := by omega
    have a2 : (0 : Int) ≤ (i : Int) := Int.natCast_nonneg i
    have a3 := ht.2.2.1
    have a4 : l[i].f2 < (acc.length : Int) := by have := ht.2.2.2; omega
    have a5 := ht.1
    have a6 : l[i].f0 < (row.length : Int) := by have := ht.2.1; omega
    have e : acc.set l[i].f2.toNat (mn 1000000000000001 (wrap64 (rd acc l[i].f2 + rd row l[i].f0))) = capT row acc l[i] := by
      rw [capT, mn_cap', wrap_id]
      · rw [rd_at ht.2.2.1, rd_at ht.1]; have := hb l[i].f2.toNat; have := brow l[i].f0.toNat; omega
      · rw [rd_at ht.2.2.1, rd_at ht.1]; have := hb l[i].f2.toNat; have := brow l[i].f0.toNat; omega
    refine Ev.step (fun k => ?_) (ih (i + 1) (capT row acc l[i]) (by omega) (by rw [capT_len, ha]) (bd_capT brow hb ha ht) (by rw [hd, List.foldl_cons] at h; exact h))
    rw [impl_Set_ways.l2, if_pos a1, if_pos a2, if_pos a1, rdT_nat l i hlt, if_pos a3, if_pos a4, if_pos a5, if_pos a6, hw, e]
theorem implWays_l1 (n : Int) (out : List (List Int)) (y14 x13 C : Int) (l : List STile) (r : List (List Int)) (c : Nat) (hC : C = (c : Int)) (hc : c ≤ 1000) (hf : Fine c l) (hl : l.length ≤ 1000) (hn : n ≤ 1000) (hout : out.length ≤ 1000) (d : Nat) :
    ∀ (p : Nat) (row : List Int), (p : Int) + d = n → row.length = c → Bd row →
    Ev (fun k => impl_Set_ways.l0 k n (out ++ [waysC c row (List.replicate d l)]) x13 (wrap64 (y14 + 1)) C l) r → Ev (fun k => impl_Set_ways.l1 k n out row x13 y14 n (p : Int) C l) r := by
  induction d with
  | zero =>
    intro p row hp hrow hb h
    have b1 : ¬ (p : Int) < n := by omega
    have b2 : out.length < 5864062014805 := by omega
    refine Ev.step (fun k => ?_) h
    rw [impl_Set_ways.l1, if_neg b1, if_pos b2]
    rfl
  | succ d ih =>
    intro p row hp hrow hb h
    have b1 : (p : Int) < n := by omega
    have b2 : (0 : Int) ≤ C := by omega
    have b3 : C.toNat ≤ 35184372088832 := by omega
    have e : C.toNat = c := by omega
    have h1 := ih (p + 1) (stepC c row l) (by omega) (stepC_len _ _ _) (bd_step hb _ hf) (by rw [List.replicate_succ] at h; exact h)
    refine Ev.step (fun k => ?_) (implWays_l2 n out row y14 x13 n (p : Int) C l r c hrow hb hf hl l.length 0 (List.replicate c 0) (by omega) (by simp) (bd_zero c) ?_)
    · rw [impl_Set_ways.l1, if_pos b1, if_pos b2, if_pos b3, e]; rfl
    · rw [List.drop_zero]
      have e2 : wrap64 ((p : Int) + 1) = ((p + 1 : Nat) : Int) := by rw [wrap_id (by omega) (by omega)]; omega
      rw [e2]
      exact h1
def waysAll (c : Nat) (n : Nat) (l : List STile) (j : Nat) : List (List Int) := (List.range j).map fun a => waysC c (unit c a) (List.replicate n l)
theorem waysAll_succ (c n : Nat) (l : List STile) (j : Nat) : waysAll c n l (j + 1) = waysAll c n l j ++ [waysC c (unit c j) (List.replicate n l)] := by
  simp [waysAll, List.range_succ]
theorem implWays_l0 (n : Int) (C : Int) (l : List STile) (c : Nat) (hC : C = (c : Int)) (hc : c ≤ 1000) (hf : Fine c l) (hl : l.length ≤ 1000) (hn0 : 0 ≤ n) (hn : n ≤ 1000) (d : Nat) :
    ∀ (j : Nat), j + d = c → Ev (fun k => impl_Set_ways.l0 k n (waysAll c n.toNat l j) C (j : Int) C l) (waysAll c n.toNat l c) := by
  induction d with
  | zero =>
    intro j hj
    have b1 : ¬ (j : Int) < C := by omega
    refine Ev.step (fun k => ?_) (Ev.now _)
    rw [impl_Set_ways.l0, if_neg b1]
    have : j = c := by omega
    rw [this]
  | succ d ih =>
    intro j hj
    have b1 : (j : Int) < C := by omega
    have b2 : (0 : Int) ≤ C := by omega
    have b3 : C.toNat ≤ 35184372088832 := by omega
    have b4 : (0 : Int) ≤ (j : Int) := Int.natCast_nonneg j
    have e : C.toNat = c := by omega
    have b5 : (j : Int) < ((List.replicate c (0 : Int)).length : Int) := by simp; omega
    have hw : wrap64 ((j : Int) + 1) = ((j + 1 : Nat) : Int) := by rw [wrap_id (by omega) (by omega)]; omega
    have h1 := ih (j + 1) (by omega)
    rw [waysAll_succ] at h1
    refine Ev.step (fun k => ?_) (implWays_l1 n (waysAll c n.toNat l j) (j : Int) C C l _ c hC hc hf hl hn (by simp [waysAll]; omega) n.toNat 0 (unit c j) (by omega) (unit_len _ _) (bd_unit _ _) (by rw [hw]; exact h1))
    rw [impl_Set_ways.l0, if_pos b1, if_pos b2, if_pos b3, e]
    simp only [Option.bind_some]
    rw [if_pos b4, if_pos b5]
    simp [unit]
theorem implWays_ev (C : Int) (l : List STile) (n : Int) (c : Nat) (hC : C = (c : Int)) (hc : c ≤ 1000) (hf : Fine c l) (hl : l.length ≤ 1000) (hn0 : 0 ≤ n) (hn : n ≤ 1000) :
    Ev (fun k => impl_Set_ways.f k C l n) (waysAll c n.toNat l c) := by
  have h := implWays_l0 n C l c hC hc hf hl hn0 hn c 0 (by omega)
  exact h
theorem layers_nil (l : List STile) (p d : Nat) : layers l [] p d = List.replicate d l := by
  have : ∀ q, layer l [] q = l := by intro q; simp [layer, pass]
  apply List.ext_getElem
  · simp [layers]
  · intro i h1 h2
    simp [layers, this]
end Go.Proofs.Ytenlcakpcbmmdaa

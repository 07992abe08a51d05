/-
 Parts of the proof, in their order: FilCount, PLike.
-/
import Derived.Test.YtcaikaflpmaocaaPk13
import Derived.Test.YtcaikaflpmaocaaPk10
import Derived.Test.YtcaikaflpmaocaaPk7
namespace Go.Proofs.Ytcaikaflpmaocaa
open Go Go.RowKit Go.Proofs Go.Proofs.YtcaikaflpmaocaaW.PrintWords Go.Proofs.YtcaikaflpmaocaaW.PrintLast Go.Proofs.YtcaikaflpmaocaaW.PrintMore Go.Proofs.Ytcaikaflpmaocaa.Q
set_option linter.unusedVariables false
set_option linter.unusedSimpArgs false
theorem on_eq (c : Nat) (plan bs : List (List Int)) (l : List STile) (hc : 0 < c) (hw : 1 ≤ rowLen plan 0) (hcol : ∀ t ∈ l, Col c t) : onw (stepI c plan bs l) l.length (places plan) 0 0 = numS c plan bs l := by
 unfold numS onS stepS stepI
 rw [Nat.sub_zero]
 exact (onw_like c (rowLen plan 0) l (fitP plan bs l) hc (by omega) hcol (places plan) 0 0 0 ⟨rfl, fun _ => rfl⟩).symm
theorem fil_count {w : World} {F : Nat} {C : Int} {cn : Nat} {A : Option Addr} {ts : List T4} {n c : Nat} {A1 : Option Addr} {plan : List (List Int)} {m1 c1 : Nat} {A2 : Option Addr} {bs : List (List Int)} {m2 c2 : Nat} (h : FIL w F C cn A ts n c A1 plan m1 c1 A2 bs m2 c2)
 (hR : RR w A1 plan) (hm1 : m1 = plan.length) (hsh : Shape plan bs) (hcn : 0 < cn) (c6 : cn ≤ 6) (hcol : ∀ t ∈ ts.map toS, Col cn t) :
 Calls Try.prog 53 #[.pointer (some ⟨F, 0, none⟩)] w fun e w' => e = .returned (.int .i64 (cap (numS cn plan bs (ts.map toS)))) ∧ Below w.heap.size w w' := by
 obtain ⟨Ap, cp, gc, cc, ga, ca, ⟨-, -, k2, -⟩, -, k5, -, -, k8, -⟩ := h
 have hst : ∀ q, Stay (stepI cn plan bs (ts.map toS)) (ts.map toS).length (size cn plan) q := fun q => nx_stay false cn (rowLen plan 0) (ts.map toS) _ hcn hsh.w1 hcol q
 have hrow : rowAt (cntL cn plan bs (ts.map toS) (places plan)) (places plan) = fwd (stepI cn plan bs (ts.map toS)) (ts.map toS).length (size cn plan) (places plan) := by simp [rowAt, cntL, List.getD_eq_getElem?_getD]
 have hsz : size cn plan ≤ 46656 := pow_le cn (rowLen plan 0 + 1) c6 (by have := hsh.w5; omega)
 have hs0 : 0 < size cn plan := Nat.pow_pos hcn
 refine (count_any A1 plan m1 c1 (some ⟨gc, 0, none⟩) (cntL cn plan bs (ts.map toS) (places plan)) (places plan + 1) cc F w hm1 hR hsh.h1 hsh.h5 hsh.w5 (by rw [cntL_len]) k8 (cntL_len _ _ _ _ _) ?_ ?_ k2 k5).mono ?_
 ·rw [rowLen, hrow, fwd_len]; omega
 ·rw [hrow]; exact bd_fwd _ _ _ _ (fun q _ => hst q)
 ·rintro e w' ⟨rfl, hb⟩
  refine ⟨?_, hb⟩
  rw [hrow, fwd_count _ _ _ _ hs0 (fun q _ => hst q), on_eq cn plan bs (ts.map toS) hcn hsh.w1 hcol]
end Go.Proofs.Ytcaikaflpmaocaa
namespace Go.Proofs.Ytcaikaflpmaocaa
open Go Go.RowKit Go.Proofs Go.Proofs.YtcaikaflpmaocaaW.PrintWords Go.Proofs.YtcaikaflpmaocaaW.PrintMore Go.Proofs.Ytcaikaflpmaocaa.Q
set_option linter.unusedVariables false
set_option linter.unusedSimpArgs false
theorem flat_congr {f g : Nat → List (List Int)} (L : List Nat) (h : ∀ i ∈ L, f i = g i) : L.flatMap f = L.flatMap g := by
 induction L with
 | nil => rfl
 | cons x L ih => rw [List.flatMap_cons, List.flatMap_cons, h x (by simp), ih (fun i hi => h i (List.mem_cons_of_mem _ hi))]
theorem ways_like (c w : Nat) (l : List STile) (fit : Nat → Nat → Bool) (hc : 0 < c) (hw : 0 < w) (hl : ∀ t ∈ l, Col c t) (d : Nat) : ∀ p s s', Like c w p s s' →
 waysF (nx true c w l fit) l.length d p s = waysF (nx false c w l fit) l.length d p s' := by
 induction d with
 | zero => intro p s s' _; rfl
 | succ d ih =>
  intro p s s' h
  rw [waysF, waysF]
  refine flat_congr _ fun i hi => ?_
  have hi := List.mem_range.1 hi
  have ht : Col c (tlAt l i) := by rw [tlAt, List.getD_eq_getElem?_getD, List.getElem?_eq_getElem hi]; exact hl _ (List.getElem_mem hi)
  have hx : p % w < w := Nat.mod_lt _ hw
  have hd := like_dig hx h.1
  have hcond : (fit p i && (decide (p < w) || decide ((dig c s (p % w) : Int) = (tlAt l i).f1)) && (decide (p % w = 0) || decide (((s / c ^ w : Nat) : Int) = (tlAt l i).f0)))
   = (fit p i && (decide (p < w) || decide ((dig c s' (p % w) : Int) = (tlAt l i).f1)) && (decide (p % w = 0) || decide (((s' / c ^ w : Nat) : Int) = (tlAt l i).f0))) := by
   rw [hd]
   by_cases h0 : p % w = 0
   ·simp [h0]
   ·rw [h.2 h0]
  simp only [nx]
  rw [hcond]
  generalize (fit p i && (decide (p < w) || decide ((dig c s' (p % w) : Int) = (tlAt l i).f1)) && (decide (p % w = 0) || decide (((s' / c ^ w : Nat) : Int) = (tlAt l i).f0))) = X
  cases X
  ·rfl
  ·obtain ⟨lo, h1, e1, h2, -⟩ := next_parts true c w (tlAt l i) p s hc hw ht
   obtain ⟨lo', h1', e1', h2', -⟩ := next_parts false c w (tlAt l i) p s' hc hw ht
   have hlo : lo = lo' := by rw [hd, h.1, ← e1'] at e1; omega
   subst hlo
   refine congrArg (List.map fun r => (i : Int) :: r) (ih _ _ _ ?_)
   rw [h2, h2']
   refine ⟨by rw [parts_mod h1, parts_mod h1], fun h0 => ?_⟩
   rw [parts_div h1, parts_div h1]
   have : p % w + 1 < w := by
    by_cases h5 : p % w + 1 = w
    ·exfalso; apply h0
     rw [Nat.add_mod, ]
     have : 1 % w = 1 ∨ w = 1 := by
      by_cases hw1 : w = 1
      ·exact .inr hw1
      ·exact .inl (Nat.mod_eq_of_lt (by omega))
     rcases this with h6 | h6
     ·rw [h6, h5, Nat.mod_self]
     ·rw [h6]; exact Nat.mod_one _
    ·omega
   simp [this]
end Go.Proofs.Ytcaikaflpmaocaa

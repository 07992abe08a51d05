/-
 Parts of the proof, in their order: FirstV, ListV, EachIL, ListI, ListS, LawFillingList.
-/
import Derived.Test.YtcaikaflpmaocaaSq
import Derived.Test.YtcaikaflpmaocaaPk17
import Derived.Laws.EntriesVeiled
import Derived.Test.YtcaikaflpmaocaaPk8
import Derived.Test.YtcaikaflpmaocaaPk14
import Derived.Test.YtcaikaflpmaocaaPk15
import Derived.Test.YtcaikaflpmaocaaPk10
import Derived.Test.YtcaikaflpmaocaaPk11
import Derived.Deep.RegionHeld3
namespace Go.Proofs.Ytcaikaflpmaocaa
open Go Go.RowKit Go.Proofs Go.Proofs.YtcaikaflpmaocaaW.PrintWords Go.Proofs.YtcaikaflpmaocaaW.PrintLast Go.Proofs.YtcaikaflpmaocaaW.PrintMore Go.Proofs.Ytcaikaflpmaocaa.Q
set_option linter.unusedVariables false
set_option linter.unusedSimpArgs false
def JF (base bo : Nat) (vs : List (List (List Int))) (W : World) (ok : Nat → Prop) : Prop :=
 ok bo ∧ ∃ v, BK W bo #[v] 22 ∧ ((vs = [] ∧ v = .slice none 0 0) ∨ ∃ rows vs', vs = vs' ++ [rows] ∧ 0 < rows.length ∧ Kd.S (Kd.slice 2 (Kd.int .i64)) 56 W base (fun k => ok k ∧ k ≠ bo) v rows)
theorem JF.vis (X : Nat → Prop) (wE : World) (base bo : Nat) : VIS X wE (JF base bo) := by
 refine ⟨?_, ?_, ?_⟩
 ·rintro vs W ok ok' ⟨h0, v, hb, h⟩ hok
  refine ⟨hok _ h0, v, hb, h.imp id ?_⟩
  rintro ⟨rows, vs', e, hl, hS⟩
  exact ⟨rows, vs', e, hl, Kd.S_mono hS (fun k hk => ⟨hok k hk.1, hk.2⟩)⟩
 ·rintro vs W ok ⟨h0, v, hb, h⟩
  refine ⟨⟨h0, hb.lt⟩, v, hb, h.imp id ?_⟩
  rintro ⟨rows, vs', e, hl, hS⟩
  exact ⟨rows, vs', e, hl, Kd.S_mono (Kd.S_bound hS) (fun k hk => ⟨⟨hk.1.1, hk.2.2.1⟩, hk.1.2⟩)⟩
 ·rintro vs W W1 ok ⟨h0, v, hb, h⟩ hs hm
  refine ⟨h0, v, (hm bo h0 hb.lt).trans hb, h.imp id ?_⟩
  rintro ⟨rows, vs', e, hl, hS⟩
  exact ⟨rows, vs', e, hl, Kd.S_step hS (fun k hk hlt => hm k hk.1 hlt)⟩
theorem KE.set {X : Nat → Prop} {w W : World} (h : KE X w W) {b : Nat} (hb : X b) (j : Nat) (u : Value) : KE X w (W.setCell ⟨b, j, none⟩ u) :=
 ⟨h.os, h.tape, h.output, by simpa using h.size, fun k hk hx => (Below.heap_setCell W ⟨b, j, none⟩ u k (by intro e; exact hx (by rw [e]; exact hb))).trans (h.block k hk hx)⟩
theorem FR.set {W : World} {b : Nat} {C : Array Value} {E : TypeId} (h : BK W b C E) (hE : E = 22 ∨ E = 48) (j : Nat) (u : Value) : FR W (W.setCell ⟨b, j, none⟩ u) none := by
 refine ⟨by simp, fun k hk _ ht => Below.heap_setCell W ⟨b, j, none⟩ u k (fun e => ?_)⟩
 have e1 : k = b := e
 subst e1
 have h9 := ht _ _ h
 rcases hE with e2 | e2
 ·exact h9.1 e2
 ·exact h9.2 e2
theorem OW.same {w w' : World} {lo hi : Nat} {E : TypeId} {size n : Nat} {v : Value} {cells : List Value} (h : OW w lo hi E size v n cells) (hk : ∀ k, lo ≤ k → k < hi → w'.heap[k]? = w.heap[k]?) (hs : hi ≤ w'.heap.size) : OW w' lo hi E size v n cells := by
 refine ⟨?_, h.up, hs⟩
 obtain ⟨h1, h2⟩ := h.own
 refine ⟨h1, ?_⟩
 rcases h2 with h2 | ⟨g, cap, cur, hv, hg, hh, r⟩
 ·exact .inl h2
 ·exact .inr ⟨g, cap, cur, hv, hg, (hk g hg (h.up g (by rw [hv]; rfl))).trans hh, r⟩
theorem OWS.same {w w' : World} {lo hi : Nat} {v : Value} {xs : List (List Int)} {cs : Nat → List Value} (h : OWS w lo hi v xs cs) (hk : ∀ k, lo ≤ k → k < hi → w'.heap[k]? = w.heap[k]?) (hs : hi ≤ w'.heap.size) : OWS w' lo hi v xs cs := by
 obtain ⟨A, c, g, hv, rfl, hc, hA, hr⟩ := h.ex
 refine ⟨⟨A, c, g, hv, rfl, hc, hA, ⟨fun i hi' => ?_, fun i hi' => (hr.row i hi').same hk hs, hr.apart, hr.out⟩⟩, hs⟩
 have hg := hA (by omega)
 exact (World.cell?_of_block (w := w) (a := ⟨g, i, none⟩) (hk g hg.2.1 hg.2.2)).trans (hr.hdr i hi')
theorem owns_same {w w' : World} {base : Nat} {e : TypeId} {size n : Nat} {v : Value} {xs : List Value} (h : w.ownsRow base e size v n xs) (hk : ∀ k, v.ownBlock = some k → w'.heap[k]? = w.heap[k]?) : w'.ownsRow base e size v n xs := by
 refine ⟨h.1, ?_⟩
 rcases h.2 with h2 | ⟨g, cap, cur, hv, hg, hh, r⟩
 ·exact .inl h2
 ·exact .inr ⟨g, cap, cur, hv, hg, (hk g (by rw [hv]; rfl)).trans hh, r⟩
theorem infoRows : (Try.prog.info? 22).map (fun i => (i.zero, i.size, i.bytes)) = some (some (.slice none 0 0), 1, 24) := by kernel_rfl
structure JLs (X : Nat → Prop) (NE base bo : Nat) (vs : List (List (List Int))) (W : World) (ok : Nat → Prop) (v : Value) (vals : List Value) (a b : Nat → Nat) : Prop where
 bk : BK W bo #[v] 48
 own : W.ownsRow base 22 1 v vs.length vals
 ok0 : ∀ k, v.ownBlock = some k → (ok k ∧ k ≠ bo) ∧ (X k ∨ NE ≤ k)
 row : ∀ i, i < vs.length → OWS W (a i) (b i) (vals.getD i default) (at3 vs i) (fun j => icells (rowAt (at3 vs i) j))
 iv : ∀ i, i < vs.length → base ≤ a i ∧ ∀ k, a i ≤ k → k < b i → ok k ∧ k ≠ bo ∧ some k ≠ v.ownBlock
 inc : ∀ i j, i < j → j < vs.length → b i ≤ a j
 sm : ∀ i, i < vs.length → 0 < (at3 vs i).length ∧ (at3 vs i).length ≤ 1000000
def JL (X : Nat → Prop) (NE base bo : Nat) (vs : List (List (List Int))) (W : World) (ok : Nat → Prop) : Prop := ok bo ∧ ∃ v vals a b, JLs X NE base bo vs W ok v vals a b
theorem JL.vis (X : Nat → Prop) (wE : World) (NE base bo : Nat) : VIS X wE (JL X NE base bo) := by
 refine ⟨?_, ?_, ?_⟩
 ·rintro vs W ok ok' ⟨h0, v, vals, a, b, h⟩ hok
  exact ⟨hok _ h0, v, vals, a, b, h.bk, h.own, fun k hk => ⟨⟨hok k (h.ok0 k hk).1.1, (h.ok0 k hk).1.2⟩, (h.ok0 k hk).2⟩, h.row, fun i hi => ⟨(h.iv i hi).1, fun k h1 h2 => ⟨hok k ((h.iv i hi).2 k h1 h2).1, ((h.iv i hi).2 k h1 h2).2⟩⟩, h.inc, h.sm⟩
 ·rintro vs W ok ⟨h0, v, vals, a, b, h⟩
  exact ⟨⟨h0, h.bk.lt⟩, v, vals, a, b, h.bk, h.own, fun k hk => ⟨⟨⟨(h.ok0 k hk).1.1, (h.own.lt k hk).2⟩, (h.ok0 k hk).1.2⟩, (h.ok0 k hk).2⟩, h.row, fun i hi => ⟨(h.iv i hi).1, fun k h1 h2 => ⟨⟨((h.iv i hi).2 k h1 h2).1, Nat.lt_of_lt_of_le h2 (h.row i hi).top⟩, ((h.iv i hi).2 k h1 h2).2⟩⟩, h.inc, h.sm⟩
 ·rintro vs W W1 ok ⟨h0, v, vals, a, b, h⟩ hs hm
  exact ⟨h0, v, vals, a, b, (hm bo h0 h.bk.lt).trans h.bk, owns_same h.own (fun k hk => hm k (h.ok0 k hk).1.1 (h.own.lt k hk).2), h.ok0, fun i hi => (h.row i hi).same (fun k h1 h2 => hm k ((h.iv i hi).2 k h1 h2).1 (Nat.lt_of_lt_of_le h2 (h.row i hi).top)) (Nat.le_trans (h.row i hi).top hs), h.iv, h.inc, h.sm⟩
theorem at3_app (vs : List (List (List Int))) (r : List (List Int)) (i : Nat) : at3 (vs ++ [r]) i = if i < vs.length then at3 vs i else if i = vs.length then r else [] := by
 unfold at3
 by_cases h : i < vs.length
 ·rw [if_pos h]; simp [List.getD_eq_getElem?_getD, List.getElem?_append_left h]
 ·rw [if_neg h]
  by_cases h2 : i = vs.length
  ·subst h2; simp [List.getD_eq_getElem?_getD]
  ·rw [if_neg h2, List.getD_eq_getElem?_getD, List.getElem?_eq_none (by simp; omega)]; rfl
theorem getD_app {α : Type} (d : α) (xs : List α) (y : α) (i : Nat) (h : i < xs.length) : (xs ++ [y]).getD i d = xs.getD i d := by
 simp [List.getD_eq_getElem?_getD, List.getElem?_append_left h]
theorem JLs.app {X : Nat → Prop} {NE base bo N : Nat} {vs : List (List (List Int))} {W w1 : World} {ok : Nat → Prop} {v v1 u : Value} {vals : List Value} {a b : Nat → Nat} {rows : List (List Int)} (h : JLs X NE base bo vs W (fun k => ok k ∧ k < N) v vals a b)
 (hN : N ≤ W.heap.size) (hbN : base ≤ N) (hNE : NE ≤ W.heap.size) (hS : OWS W N W.heap.size u rows (fun j => icells (rowAt rows j))) (hr : 0 < rows.length) (hr9 : rows.length ≤ 1000000) (hbo : bo < N)
 (hown : w1.ownsRow base 22 1 v1 (vs.length + 1) (vals ++ [u])) (hg : W.grownBy w1 v.ownBlock) (hat : v1.ownBlock = v.ownBlock ∨ ∃ z, v1.ownBlock = some z ∧ W.heap.size ≤ z) :
 JLs X NE base bo (vs ++ [rows]) (w1.setCell ⟨bo, 0, none⟩ v1) (fun k => ok k ∨ N ≤ k) v1 (vals ++ [u]) (fun i => if i < vs.length then a i else N) (fun i => if i < vs.length then b i else W.heap.size) := by
 have hbk1 : BK w1 bo #[v] 48 := h.bk.grown hg (own_ne h.own h.bk (by decide))
 have hvl : vals.length = vs.length := by have := h.own.1; omega
 have hkeep : ∀ k, k < W.heap.size → some k ≠ v.ownBlock → k ≠ bo → (w1.setCell ⟨bo, 0, none⟩ v1).heap[k]? = W.heap[k]? := fun k h1 h2 h3 => (Below.heap_setCell w1 ⟨bo, 0, none⟩ v1 k h3).trans (hg.block k h1 h2)
 have hsz : W.heap.size ≤ (w1.setCell ⟨bo, 0, none⟩ v1).heap.size := by simpa using hg.size
 have hvN : ∀ k, v.ownBlock = some k → k < N := fun k hk => (h.ok0 k hk).1.1.2
 have hv1 : ∀ k, v1.ownBlock = some k → k < N ∧ v.ownBlock = some k ∨ W.heap.size ≤ k := fun k hk => by
  rcases hat with e | ⟨z, e, hz⟩
  ·rw [e] at hk; exact .inl ⟨hvN k hk, hk⟩
  ·rw [e] at hk; injection hk with hk; right; omega
 refine ⟨hbk1.set 0 v1, ?_, ?_, ?_, ?_, ?_, ?_⟩
 ·rw [List.length_append]
  refine owns_same hown (fun k hk => Below.heap_setCell w1 ⟨bo, 0, none⟩ v1 k (fun e => ?_))
  have e2 : k = bo := e
  rcases hv1 k hk with h2 | h2
  ·exact (h.ok0 k h2.2).1.2 e2
  ·omega
 ·intro k hk
  rcases hv1 k hk with h2 | h2
  ·exact ⟨⟨.inl (h.ok0 k h2.2).1.1.1, (h.ok0 k h2.2).1.2⟩, (h.ok0 k h2.2).2⟩
  ·exact ⟨⟨.inr (by omega), by omega⟩, .inr (by omega)⟩
 ·intro i hi
  rw [List.length_append, List.length_singleton] at hi
  by_cases hlt : i < vs.length
  ·have e := at3_app vs rows i
   rw [if_pos hlt] at e
   simp only [if_pos hlt]
   rw [e, getD_app _ _ _ _ (by omega)]
   exact (h.row i hlt).same (fun k h1 h2 => hkeep k (Nat.lt_of_lt_of_le h2 (h.row i hlt).top) ((h.iv i hlt).2 k h1 h2).2.2 ((h.iv i hlt).2 k h1 h2).2.1) (Nat.le_trans (h.row i hlt).top hsz)
  ·have e := at3_app vs rows i
   rw [if_neg hlt, if_pos (by omega)] at e
   simp only [if_neg hlt]
   have e2 : (vals ++ [u]).getD i default = u := by
    rw [show i = vals.length by omega]; simp [List.getD_eq_getElem?_getD]
   rw [e, e2]
   exact hS.same (fun k h1 h2 => hkeep k h2 (fun e3 => by have := hvN k e3.symm; omega) (by omega)) hsz
 ·intro i hi
  rw [List.length_append, List.length_singleton] at hi
  by_cases hlt : i < vs.length
  ·simp only [if_pos hlt]
   refine ⟨(h.iv i hlt).1, fun k h1 h2 => ?_⟩
   have h3 := (h.iv i hlt).2 k h1 h2
   refine ⟨.inl h3.1.1, h3.2.1, fun e => ?_⟩
   rcases hv1 k e.symm with h4 | h4
   ·exact h3.2.2 h4.2.symm
   ·have := (h.row i hlt).top; omega
  ·simp only [if_neg hlt]
   refine ⟨hbN, fun k h1 h2 => ⟨.inr h1, by omega, fun e => ?_⟩⟩
   rcases hv1 k e.symm with h4 | h4
   ·omega
   ·omega
 ·intro i j hij hj
  rw [List.length_append, List.length_singleton] at hj
  have hi : i < vs.length := by omega
  by_cases hlt : j < vs.length
  ·simp only [if_pos hlt, if_pos hi]; exact h.inc i j hij hlt
  ·simp only [if_neg hlt, if_pos hi]
   obtain ⟨A, c, g, hv, e, -, hA, -⟩ := (h.row i hi).ex
   have hgg := hA (h.sm i hi).1
   have h5 := ((h.iv i hi).2 (b i - 1) (by omega) (by omega)).1.2
   omega
 ·intro i hi
  rw [List.length_append, List.length_singleton] at hi
  by_cases hlt : i < vs.length
  ·have e := at3_app vs rows i
   rw [if_pos hlt] at e
   rw [e]; exact h.sm i hlt
  ·have e := at3_app vs rows i
   rw [if_neg hlt, if_pos (by omega)] at e
   rw [e]; exact ⟨hr, hr9⟩
theorem JLs.owt {X : Nat → Prop} {NE base bo : Nat} {vs : List (List (List Int))} {W : World} {ok : Nat → Prop} {v : Value} {vals : List Value} {a b : Nat → Nat} (h : JLs X NE base bo vs W ok v vals a b) : OWT W base W.heap.size v vs (fun i j => icells (rowAt (at3 vs i) j)) := by
 rcases h.own.2 with ⟨hv, hn⟩ | ⟨g, cap, cur, hv, hg, hb, hnc, -⟩
 ·refine ⟨⟨none, 0, 0, fun _ => default, a, b, by rw [hv, hn], by omega, fun h0 => by omega, ⟨fun i hi => by omega, fun i hi => by omega, fun i hi => by omega, fun i hi => by omega, fun i j hij hj => by omega, fun i hi => by omega, fun i hi => by omega⟩⟩, Nat.le_refl _⟩
 ·have hgv : v.ownBlock = some g := by rw [hv]; rfl
  refine ⟨⟨_, cap, g, fun i => vals.getD i default, a, b, hv, hnc, fun _ => ⟨rfl, hg, (h.own.lt g hgv).2⟩, ⟨fun i hi => ?_, h.row, fun i hi => (h.iv i hi).1, fun i hi => (h.row i hi).top, h.inc, fun i hi => ?_, fun i hi => (h.sm i hi).2⟩⟩, Nat.le_refl _⟩
  ·have hl : i < vals.length := by have := h.own.1; omega
   have h2 := h.own
   rw [hv] at h2
   exact own_cell h2 (by rw [List.getD_eq_getElem?_getD, List.getElem?_eq_getElem hl]; rfl)
  ·rcases Nat.lt_or_ge g (a i) with h1 | h1
   ·exact .inl h1
   ·right
    rcases Nat.lt_or_ge g (b i) with h2 | h2
    ·exact absurd hgv.symm ((h.iv i hi).2 g h1 h2).2.2
    ·exact h2
theorem own_slice9 {w : World} {base : Nat} {e : TypeId} {size n : Nat} {v : Value} {xs : List Value} (h : w.ownsRow base e size v n xs) : ∃ A c, v = .slice A n c := by
 rcases h.2 with ⟨rfl, rfl⟩ | ⟨g, cap, cur, rfl, -⟩
 ·exact ⟨_, _, rfl⟩
 ·exact ⟨_, _, rfl⟩
set_option maxHeartbeats 4000000 in
set_option maxRecDepth 100000 in
theorem visitL (X : Nat → Prop) (wE : World) (base bo : Nat) (hX : X bo) (hb : base ≤ wE.heap.size) : VisitK X wE (JL X wE.heap.size base bo) 65 bo true := by
 intro vs W N ok rv rows hK hEN hN hvs hJ hS hr hrl
 obtain ⟨⟨hb0, hbN⟩, v, vals, a, b, h⟩ := hJ
 obtain ⟨g, cap, hrv, -, -, -⟩ := Kd.S_form hS hr
 have hr9 : rows.length ≤ 1000000 := hrl
 subst hrv
 obtain ⟨m, hm⟩ : ∃ m, m = rows.length := ⟨_, rfl⟩
 have z0 : W.cell? ⟨bo, 0, none⟩ = some v := h.bk.cell rfl
 have lz := h.bk.lt
 have HH := Lib.hid h; have HK := Lib.hid hK; have HS := Lib.hid (ows_of_S hS); have HR := Lib.hid hr; have HB0 := Lib.hid hb0; have HXX := Lib.hid hX; have HR9 := Lib.hid hr9
 have hbase : base ≤ W.heap.size := by omega
 have HNE := Lib.hid (Nat.le_trans hEN hN); have HBN := Lib.hid (Nat.le_trans hb hEN)
 rw [← hm] at HS ⊢
 clear h hK hS hr hb0 hX hr9 hm
 go_enter Try.func65, Try.ntmps65
 go_wp2_with (first | ((with_reducible refine gate_builtin (b := .append) (xs := #[.tmp 4, .tmp 6]) rfl ?_); at_builtin; refine print_append_cells (w0 := W) base rfl (.tmp 4) (.tmp 6) 48 22 (.slice none 0 0) 1 24 rfl Try.underlying48 infoRows rfl (by decide) (by decide) v vs.length vals [.slice (some ⟨g, 0, none⟩) m cap] rfl rfl rfl (by simp [Value.oneCell']) HH.out.own (Below.refl _ _) hbase (by omega) ?_; intro v1 w1 ho hb hg hat; have HO := Lib.hid ho; have HG := Lib.hid hg; have HAT := Lib.hid hat; have z1 : w1.cell? ⟨bo, 0, none⟩ = some v := (HH.out.bk.grown hg (own_ne HH.out.own HH.out.bk (by decide))).cell rfl; have f1 : w1.frozen? ⟨bo, 0, none⟩ = false := (HH.out.bk.grown hg (own_ne HH.out.own HH.out.bk (by decide))).frozen 0; obtain ⟨A1, c1, e1⟩ := own_slice9 ho; subst e1; clear ho hb hg hat))
 go_ret
 have hJ := HH.out.app hN HBN.out HNE.out HS.out HR.out HR9.out hbN HO.out HG.out HAT.out
 have hk2 : KE X wE w1 := ⟨HG.out.os.trans HK.out.os, HG.out.tape.trans HK.out.tape, HG.out.output.trans HK.out.output, Nat.le_trans HK.out.size HG.out.size, fun k h1 h2 => (HG.out.block k (Nat.lt_of_lt_of_le h1 HK.out.size) (fun e => by
  rcases (HH.out.ok0 k e.symm).2 with h3 | h3
  ·exact h2 h3
  ·omega)).trans (HK.out.block k h1 h2)⟩
 refine ⟨rfl, hk2.set HXX.out 0 _, ⟨Nat.le_trans HG.out.size (by simp), fun k h1 _ ht => ?_⟩, .inl HB0.out, _, _, _, _, hJ⟩
 have hkb : k ≠ bo := fun e => by
  subst e
  exact (ht _ _ HH.out.bk).2 rfl
 refine (Below.heap_setCell w1 ⟨bo, 0, none⟩ _ k hkb).trans (HG.out.block k h1 (fun e => ?_))
 rcases HH.out.own.2 with ⟨hv, -⟩ | ⟨g2, cap2, cur2, hv, -, hb2, -⟩
 ·rw [hv] at e; cases e
 ·rw [hv] at e
  have e2 : k = g2 := Option.some.inj e
  subst e2
  exact (ht _ _ hb2).1 rfl
set_option maxHeartbeats 8000000 in
set_option maxRecDepth 100000 in
theorem eachL_any {X : Nat → Prop} {J : List (List (List Int)) → World → (Nat → Prop) → Prop} (C : Int) (cn : Nat) (A : Option Addr) (ts : List T4) (n c : Nat) (A1 : Option Addr) (plan : List (List Int)) (m1 c1 : Nat) (A2 : Option Addr) (bs : List (List Int)) (m2 c2 : Nat) (w0 wE : World) (F bo : Nat)
 (hC : C = (cn : Int)) (hcn : 0 < cn) (c6 : cn ≤ 6) (hn : n = ts.length) (hA : RT w0 A ts) (hl : n ≤ 1000) (hm1 : m1 = plan.length) (hA1 : RR w0 A1 plan) (hm2 : m2 = bs.length) (hA2 : RR w0 A2 bs) (hsh : Shape plan bs) (hcol : ∀ t ∈ ts.map toS, Col cn t)
 (h0E : Below w0.heap.size w0 wE) (hXl : ∀ k, X k → w0.heap.size ≤ k) (hXE : ∀ k, X k → k < wE.heap.size) (hX : XOK X wE) (hfi : FIA wE F C cn A ts n c A1 plan m1 c1 A2 bs m2 c2) (hV : VIS X wE J) (hvis : VisitK X wE J 65 bo true) (hJ : J [] wE (fun _ => True))
 (htot : (visL true (waysF (stepI cn plan bs (ts.map toS)) (ts.map toS).length (places plan) 0 0)).length ≤ 1000000) :
 Calls Try.prog 63 #[.pointer (some ⟨F, 0, none⟩), .func (.func 65) #[] #[.pointer (some ⟨bo, 0, none⟩)]] wE fun e w' => (∃ v, e = .returned v) ∧ KE X wE w' ∧ J (tellF (rowLen plan 0) plan.length [] (visL true (waysF (stepI cn plan bs (ts.map toS)) (ts.map toS).length (places plan) 0 0))) w' (fun _ => True) := by
 obtain ⟨Ap, cp, ga, ca, ⟨f0, f1, f2, f3⟩, f4, z6, hRP, hRB⟩ := id hfi
 have nz6 : ¬ X F := hX.cell F 0 _ f0 (by simp)
 obtain ⟨pb, po, PA, pc, hPA, hpb, p0, -, -, -⟩ := hA1 0 (by have := hsh.h1; omega)
 subst hPA
 rw [Nat.add_zero] at p0
 have hsz : 0 < size cn plan := Nat.pow_pos hcn
 obtain ⟨gq, cq, lga, lgq, zq, zb⟩ := hRB 0 0 (by rw [alvL_len]; omega) (by rw [alvL_get _ _ _ _ _ _ (Nat.zero_le _) (Nat.zero_le _), alvRow_len]; exact hsz)
 rw [alvL_get _ _ _ _ _ _ (Nat.zero_le _) (Nat.zero_le _), alvRow_len] at zq
 rw [alvL_get _ _ _ _ _ _ (Nat.zero_le _) (Nat.zero_le _), alvRow_get _ _ _ _ _ _ hsz] at zb
 have hf0 : 0 < (fwd (stepI cn plan bs (ts.map toS)) (ts.map toS).length (size cn plan) 0).getD 0 0 := by
  show 0 < (unit (size cn plan) 0).getD 0 0
  rw [unit, getD_set _ _ _ _ (by simpa using hsz), if_pos rfl]; decide
 have hal : alvAt (stepI cn plan bs (ts.map toS)) (ts.map toS).length (size cn plan) (places plan) 0 0 = decide (0 < onw (stepI cn plan bs (ts.map toS)) (ts.map toS).length (places plan) 0 0) := by
  unfold alvAt onB
  have h0 : ¬ ik (fwd (stepI cn plan bs (ts.map toS)) (ts.map toS).length (size cn plan) 0) 0 = 0 := by unfold ik; omega
  rw [decide_eq_false h0, Nat.sub_zero]; rfl
 rw [hal] at zb
 have nzq : ¬ X ga := hX.cell _ _ _ zq (by intro A_ c_ e_; injection e_ with _ e_; omega)
 have nzb : ¬ X gq := hX.cell _ _ _ zb (by simp)
 have p0' := cell_to h0E p0
 have j1 : (0 : Int) < m1 := by have := hsh.h1; omega
 have j2 : 0 < m1 := by have := hsh.h1; omega
 have HC := Lib.hid hC; have HCN := Lib.hid hcn; have HN := Lib.hid hn; have HA := Lib.hid hA; have HM1 := Lib.hid hm1; have HA1 := Lib.hid hA1; have HM2 := Lib.hid hm2; have HA2 := Lib.hid hA2; have HSH := Lib.hid hsh; have HCOL := Lib.hid hcol
 have H0E := Lib.hid h0E; have HXL := Lib.hid hXl; have HXE := Lib.hid hXE; have HX := Lib.hid hX; have HFI := Lib.hid hfi; have HV := Lib.hid hV; have HVIS := Lib.hid hvis; have HJ := Lib.hid hJ; have HTOT := Lib.hid htot; have HF0 := Lib.hid hf0
 clear hC hcn hn hA hm1 hA1 hm2 hA2 hsh hcol h0E hXl hXE hX hfi hV hvis hJ htot hf0 hal f0 f1 f3 f4 hRP hRB p0
 generalize htt : tellF (rowLen plan 0) plan.length [] (visL true (waysF (stepI cn plan bs (ts.map toS)) (ts.map toS).length (places plan) 0 0)) = tot
 have HTT := Lib.hid htt; clear htt
 go_enter Try.func63, Try.ntmps63
 go_upto_region 1 with fail
 refine name2 ?_
 intro W2 q2 q3 hz2 hb2
 have g2 := cell_to hb2 f2; have g0 := cell_to hb2 p0'
 have y2 : W2.cell? ⟨wE.heap.size, 0, none⟩ = some (.pointer (some ⟨F, 0, none⟩)) := q2.cell rfl
 have l2 := World.block_lt_of_cell? _ _ y2; have lg2 := World.block_lt_of_cell? _ _ g2; have lg0 := World.block_lt_of_cell? _ _ g0
 simp only at l2 lg2 lg0
 have HB2 := Lib.hid hb2; have HZ2 := Lib.hid hz2; have HQ2 := Lib.hid q2; have HQ3 := Lib.hid q3
 clear hb2 hz2 q2 q3
 go_upto_region 4 with fail
 refine name2 ?_
 intro W4 q4 q5 hz4 hb4
 have hbE : Below wE.heap.size wE W4 := below_to HB2.out hb4
 have y5 : W4.cell? ⟨W2.heap.size + 1, 0, none⟩ = some _ := q5.cell rfl
 have y2 := cell_to hb4 y2
 have y6 := cell_to hbE z6; have yq := cell_to hbE zq; have yb := cell_to hbE zb
 have hEV : EV X wE W4 wE.heap.size (wE.heap.size + 1) W2.heap.size (W2.heap.size + 1) F (.func (.func 65) #[] #[.pointer (some ⟨bo, 0, none⟩)]) (rowLen plan 0) :=
  ⟨(KE.refl X wE).below hbE (Nat.le_refl _), (hb4.block _ HQ2.out.lt).trans HQ2.out, (hb4.block _ HQ3.out.lt).trans HQ3.out, q4, q5⟩
 have j6 := World.block_lt_of_cell? _ _ y6; have jq := World.block_lt_of_cell? _ _ yq; have jb := World.block_lt_of_cell? _ _ yb; have j5 := World.block_lt_of_cell? _ _ y5; have jj2 := World.block_lt_of_cell? _ _ y2
 simp only at j6 jq jb j5 jj2
 have HEV := Lib.hid hEV; have HBE := Lib.hid hbE; have HSZ := Lib.hid hsz
 have i1 : (0 : Int) < (places plan : Int) + 1 := by omega
 have i2 : 0 < places plan + 1 := by omega
 have i3 : (0 : Int) < ((size cn plan : Nat) : Int) := by omega
 clear hEV hbE q4 q5 hz4 hb4 g2 g0 l2 lg2 lg0 z6 zq zb
 have hJ4 : J [] W4 (fun _ => True) := HV.out.below HJ.out HBE.out
 by_cases hp : 0 < onw (stepI cn plan bs (ts.map toS)) (ts.map toS).length (places plan) 0 0
 ·rw [decide_eq_true hp] at yb
  have HJ4 := Lib.hid hJ4; have HP := Lib.hid hp
  clear hJ4 hp
  go_wp2_with fail
  refine (fillL_any C cn A ts n c (some ⟨pb, po, none⟩) plan m1 c1 A2 bs m2 c2 w0 wE wE.heap.size (wE.heap.size + 1) W2.heap.size (W2.heap.size + 1) F bo HC.out HCN.out c6 HN.out HA.out hl HM1.out HA1.out HM2.out HA2.out HSH.out HCOL.out H0E.out HXL.out HX.out HFI.out HV.out HVIS.out (places plan) 0 0 [] (.slice none 0 0) [] (fun _ => True) W4 (Nat.zero_add _) rfl HSZ.out HF0.out HEV.out (OI.nil _ _ _) (fun _ _ => trivial) (HV.out.mono HJ4.out (fun k _ => ⟨trivial, by simp [Value.ownBlock]⟩)) (by rw [List.length_nil, Nat.zero_add]; exact HTOT.out)).mono ?_
  rintro e W5 ⟨rfl, hk5, -, -, hj5⟩
  have HK5 := Lib.hid hk5; have HJ5 := Lib.hid (HV.out.mono hj5 (fun k _ => trivial))
  clear hk5 hj5
  go_wp2_with fail
  go_end0
  exact ⟨⟨_, rfl⟩, HK5.out, by rw [← HTT.out]; exact HJ5.out⟩
 ·rw [decide_eq_false hp] at yb
  have HJ4 := Lib.hid hJ4; have HP := Lib.hid hp
  clear hJ4 hp
  go_wp2_with fail
  go_end0
  refine ⟨⟨_, rfl⟩, HEV.out.ke, ?_⟩
  rw [← HTT.out, ways_nil (Int.not_lt.2 HP.out)]
  exact HJ4.out
theorem fills_same (c : Nat) (plan bs : List (List Int)) (l : List STile) (hc : 0 < c) (hw : 1 ≤ rowLen plan 0) (hcol : ∀ t ∈ l, Col c t) : waysF (stepI c plan bs l) l.length (places plan) 0 0 = fillsF c plan bs l :=
 (ways_like c (rowLen plan 0) l (fitP plan bs l) hc (by omega) hcol (places plan) 0 0 0 ⟨rfl, fun _ => rfl⟩).symm
theorem nameG1 {P : Program} {c : Code} {Q : Exit → Act → World → Prop} {a : Act} {w : World} {C1 : Array Value} {E1 : TypeId}
 (h : ∀ W, BK W w.heap.size C1 E1 → Below w.heap.size w W → c.wp P Q a W) : c.wp P Q a (w.alloc (.cells C1 E1)) := h _ (BK.new _ _ _) (below_alloc (Below.refl _ _) _)
theorem nameG2 {P : Program} {c : Code} {Q : Exit → Act → World → Prop} {a : Act} {w : World} {C1 C2 : Array Value} {E1 E2 : TypeId}
 (h : ∀ W, BK W w.heap.size C1 E1 → BK W (w.heap.size + 1) C2 E2 → Below w.heap.size w W → c.wp P Q a W) : c.wp P Q a ((w.alloc (.cells C1 E1)).alloc (.cells C2 E2)) :=
 h _ ((BK.new _ _ _).alloc _) (by simpa using BK.new (w.alloc (.cells C1 E1)) C2 E2) (below_alloc (below_alloc (Below.refl _ _) _) _)
theorem owt_nil (w : World) (lo : Nat) : OWT w lo w.heap.size (.slice none 0 0) [] (fun i j => icells (rowAt (at3 [] i) j)) :=
 ⟨⟨none, 0, 0, fun _ => default, fun _ => 0, fun _ => 0, rfl, Nat.le_refl _, fun h => absurd h (Nat.lt_irrefl 0), ⟨fun i hi => absurd hi (Nat.not_lt_zero i), fun i hi => absurd hi (Nat.not_lt_zero i), fun i hi => absurd hi (Nat.not_lt_zero i), fun i hi => absurd hi (Nat.not_lt_zero i), fun i j _ hj => absurd hj (Nat.not_lt_zero j), fun i hi => absurd hi (Nat.not_lt_zero i), fun i hi => absurd hi (Nat.not_lt_zero i)⟩⟩, Nat.le_refl _⟩
theorem xok_two {w : World} {b g : Nat} {A0 : Option Addr} {c0 : Nat} {E E2 : TypeId} (h : BK w b #[.slice A0 0 c0] E) (hg : BK w g #[] E2) : XOK (fun k => k = b ∨ k = g) w := by
 refine ⟨fun b' o v hc hv e => ?_⟩
 rcases e with e | e
 ·subst e
  have h' : w.heap[b']? = some (.cells #[.slice A0 0 c0] E (0, 0)) := h
  simp only [World.cell?, h'] at hc
  cases o with
  | zero => exact hv A0 c0 (by simpa using hc.symm)
  | succ o => simp at hc
 ·subst e
  have h' : w.heap[b']? = some (.cells #[] E2 (0, 0)) := hg
  simp [World.cell?, h'] at hc
def ListPost (w : World) (r : List (List (List Int)) × Int) (e : Ending) (w' : World) : Prop := ∃ v, e = .returned (.tuple #[v, .int .i64 r.2]) ∧ OWT w' w.heap.size w'.heap.size v r.1 (fun i j => icells (rowAt (at3 r.1 i) j)) ∧ Below w.heap.size w w'
set_option maxHeartbeats 8000000 in
set_option maxRecDepth 100000 in
theorem implList_any (C : Int) (A : Option Addr) (ts : List T4) (n c : Nat) (A1 : Option Addr) (plan : List (List Int)) (m1 c1 : Nat) (A2 : Option Addr) (bs : List (List Int)) (m2 c2 : Nat) (w : World)
 (hn : n = ts.length) (hA : RT w A ts) (hnc : n ≤ c) (hl : n ≤ 35184372088832) (hm1 : m1 = plan.length) (hA1 : RR w A1 plan) (hc1 : m1 ≤ c1) (hl1 : m1 ≤ 10000000 ∧ rowsz0 plan ≤ 10000000) (hm2 : m2 = bs.length) (hA2 : RR w A2 bs) (hc2 : m2 ≤ c2) (hl2 : m2 ≤ 10000000 ∧ rowsz0 bs ≤ 10000000) :
 Calls Try.prog 32 #[.agg #[.int .i64 C, .slice A n c], .slice A1 m1 c1, .slice A2 m2 c2] w (ListPost w (listF C ts plan bs)) := by
 have HN := Lib.hid hn; have HA := Lib.hid hA; have HM1 := Lib.hid hm1; have HA1 := Lib.hid hA1; have HM2 := Lib.hid hm2; have HA2 := Lib.hid hA2; have HL1 := Lib.hid hl1; have HL2 := Lib.hid hl2
 clear hn hA hm1 hA1 hm2 hA2 hl1 hl2
 generalize hff : listF C ts plan bs = ff
 have HFFF := Lib.hid hff; clear hff
 go_enter Try.func32, Try.ntmps32
 go_upto_region 1 with fail
 refine nameG1 ?_
 intro W1 b1 hb0
 have z0 : W1.cell? ⟨w.heap.size, 0, none⟩ = some (.int .i64 C) := b1.cell rfl
 have z1 : W1.cell? ⟨w.heap.size, 1, none⟩ = some (.slice A n c) := b1.cell rfl
 have l1 := b1.lt
 have HB1 := Lib.hid b1; have HB0 := Lib.hid hb0
 clear b1 hb0
 go_wp2_with fail
 obtain ⟨k, hk⟩ := (implPlan_ev C (ts.map toS) plan bs (by rw [List.length_map, ← HN.out]; exact hl) (by rw [← HM1.out]; exact HL1.out.1) (rows_lens HL1.out.2) (by rw [← HM2.out]; exact HL2.out.1)).rounds
 have hcalls := impl_planCode.calls k C A c (ts.map toS) A1 c1 plan A2 c2 bs _ W1 (C_of_rt (HA.out.below HB0.out) (by rw [← HN.out]; omega)) (by rw [List.length_map, ← HN.out]; exact hnc) (C_of_rr (HA1.out.below HB0.out) (by rw [← HM1.out]; have := HL1.out.1; omega)) (by rw [← HM1.out]; exact hc1) (C_of_rr (HA2.out.below HB0.out) (by rw [← HM2.out]; have := HL2.out.1; omega)) (by rw [← HM2.out]; exact hc2) hk
 rw [List.length_map, ← HN.out, map_toTS, ← HM1.out, ← HM2.out] at hcalls
 refine hcalls.mono ?_
 clear hcalls hk
 rintro e W2 ⟨rfl, hb2⟩
 have b1 := (hb2.block _ l1).trans HB1.out
 have l1' := BK.lt b1
 have y0 : W2.cell? ⟨w.heap.size, 0, none⟩ = some (.int .i64 C) := BK.cell b1 rfl
 have y1 : W2.cell? ⟨w.heap.size, 1, none⟩ = some (.slice A n c) := BK.cell b1 rfl
 have HE2 := Lib.hid (below_to HB0.out hb2)
 clear b1 hb2 z0 z1 l1
 by_cases h0 : planR C ts plan bs = 0
 ·obtain ⟨hs, hsh⟩ := planR_zero' h0
  have hs2 : isS C ((ts.map toS).map toT) = true := by rw [map_toTS]; exact hs
  obtain ⟨hC, hl16, hcol⟩ := isS_cols hs2
  have HCOL := Lib.hid hcol; have HC := Lib.hid hC; have HSH := Lib.hid hsh; have H0 := Lib.hid h0
  have HL := Lib.hid (show n ≤ 1000 by rw [HN.out]; simpa using Nat.le_trans hl16 (by omega))
  rw [h0]
  clear hs hs2 hcol hC hl16 h0 hsh
  go_wp2_with fail
  refine (newFiller_any C C.toNat A ts n c A1 plan m1 c1 A2 bs m2 c2 W2 (by have := HC.out; omega) (by have := HC.out; omega) (by have := HC.out; omega) HN.out (HA.out.below HE2.out) HL.out HM1.out (HA1.out.below HE2.out) HM2.out (HA2.out.below HE2.out) HSH.out HCOL.out).mono ?_
  rintro e W9 ⟨F, rfl, hb9, -, hfil⟩
  have HB9 := Lib.hid (below_to HE2.out hb9); have HFIL := Lib.hid hfil
  clear hb9 hfil y0 y1 l1'
  go_upto_region 5 with fail
  refine nameG2 ?_
  intro W3 bg bq hb3
  obtain ⟨g0, hg0⟩ : ∃ b_, b_ = W9.heap.size := ⟨_, rfl⟩
  rw [← hg0] at bg bq ⊢
  have hfil3 := HFIL.out.below hb3
  have HB3 := Lib.hid (below_to HB9.out hb3); have HBQ := Lib.hid bq; have HBG := Lib.hid bg; have HF3 := Lib.hid hfil3
  have HGO := Lib.hid (show w.heap.size ≤ g0 by rw [hg0]; exact HB9.out.size)
  clear bg bq hb3 hfil3 hg0
  go_wp2_with fail
  refine (fil_count HF3.out (HA1.out.below HB3.out) HM1.out HSH.out (by have := HC.out; omega) (by have := HC.out; omega) HCOL.out).mono ?_
  rintro e W4 ⟨rfl, hb4⟩
  have bq4 : BK W4 (g0 + 1) #[.slice (some ⟨g0, 0, none⟩) 0 0] 48 := (hb4.block _ HBQ.out.lt).trans HBQ.out
  have bg4 : BK W4 g0 #[] 22 := (hb4.block _ HBG.out.lt).trans HBG.out
  have hF4 := HF3.out.below hb4
  have HB4 := Lib.hid (below_to HB3.out hb4)
  clear hb4
  by_cases h60 : numS C.toNat plan bs (ts.map toS) > 60
  ·have i60 : cap (numS C.toNat plan bs (ts.map toS)) > 60 := by unfold cap; split <;> omega
   have H60 := Lib.hid h60; clear h60
   clear bq4 bg4 hF4
   go_wp2_with fail
   go_ret2
   exact ⟨_, congrArg Ending.returned (by rw [← HFFF.out, listF, if_pos H0.out, if_pos H60.out]; rfl), by rw [← HFFF.out, listF, if_pos H0.out, if_pos H60.out]; exact owt_nil _ _, HB4.out⟩
  ·have i60 : ¬ cap (numS C.toNat plan bs (ts.map toS)) > 60 := by unfold cap; split <;> omega
   have H60 := Lib.hid h60; clear h60
   have HBQ4 := Lib.hid bq4; have HBG4 := Lib.hid bg4; have HFI := Lib.hid hF4.fia
   clear bq4 bg4 hF4
   go_wp2_with fail
   have hJ0 : JL (fun k => k = g0 + 1 ∨ k = g0) W4.heap.size w.heap.size (g0 + 1) [] W4 (fun _ => True) := ⟨trivial, .slice (some ⟨g0, 0, none⟩) 0 0, [], fun _ => 0, fun _ => 0, HBQ4.out, ⟨rfl, .inr ⟨g0, 0, #[], rfl, HGO.out, HBG4.out, Nat.le_refl _, by decide, rfl, rfl⟩⟩, fun k hk => by
    have e2 : g0 = k := Option.some.inj hk
    subst e2
    exact ⟨⟨trivial, by omega⟩, .inl (.inr rfl)⟩, fun i hi => absurd hi (Nat.not_lt_zero i), fun i hi => absurd hi (Nat.not_lt_zero i), fun i j _ hj => absurd hj (Nat.not_lt_zero j), fun i hi => absurd hi (Nat.not_lt_zero i)⟩
   have hways := fills_same C.toNat plan bs (ts.map toS) (by have := HC.out; omega) HSH.out.w1 HCOL.out
   have hlen : (fillsF C.toNat plan bs (ts.map toS)).length ≤ 60 := by
    have h1 := ways_len (stepS C.toNat plan bs (ts.map toS)) (ts.map toS).length (places plan) 0 0
    have h2 : numS C.toNat plan bs (ts.map toS) = onw (stepS C.toNat plan bs (ts.map toS)) (ts.map toS).length (places plan) 0 0 := by unfold numS onS; rw [Nat.sub_zero]
    have h3 := H60.out
    unfold fillsF
    omega
   refine (eachL_any (X := fun k => k = g0 + 1 ∨ k = g0) (J := JL (fun k => k = g0 + 1 ∨ k = g0) W4.heap.size w.heap.size (g0 + 1)) C C.toNat A ts n c A1 plan m1 c1 A2 bs m2 c2 w W4 F (g0 + 1) (by have := HC.out; omega) (by have := HC.out; omega) (by have := HC.out; omega) HN.out HA.out HL.out HM1.out HA1.out HM2.out HA2.out HSH.out HCOL.out HB4.out (fun k hk => by have := HGO.out; omega) (fun k hk => by have := HBQ4.out.lt; omega) (xok_two HBQ4.out HBG4.out) HFI.out (JL.vis _ _ _ _ _) (visitL _ _ _ _ (.inl rfl) HB4.out.size) hJ0 (by rw [hways]; unfold visL; simp; omega)).mono ?_
   rintro e W10 ⟨⟨v9, rfl⟩, hk10, hj10⟩
   rw [hways] at hj10
   have hB10 : Below w.heap.size w W10 := hk10.of HB4.out HB4.out.size (fun k hk => by have := HGO.out; omega)
   obtain ⟨-, v, vals, a, b, hj⟩ := hj10
   obtain ⟨Av, cv, hv⟩ := own_slice9 hj.own
   subst hv
   have y9 : W10.cell? ⟨g0 + 1, 0, none⟩ = some _ := hj.bk.cell rfl
   have HB10 := Lib.hid hB10; have HJ := Lib.hid hj.owt
   obtain ⟨nv, hnv⟩ : ∃ k_, k_ = (tellF (rowLen plan 0) plan.length [] (visL true (fillsF C.toNat plan bs (ts.map toS)))).length := ⟨_, rfl⟩
   rw [← hnv] at y9 HJ
   clear hk10 hB10 hj hJ0 hways hlen hnv
   go_wp2_with fail
   go_ret2
   have et : tellF (rowLen plan 0) plan.length [] (visL true (fillsF C.toNat plan bs (ts.map toS))) = (fillsF C.toNat plan bs (ts.map toS)).map (cutR (rowLen plan 0) plan.length) := by simp [tellF, visL]
   have hJ := HJ.out
   rw [et] at hJ
   exact ⟨_, congrArg Ending.returned (by rw [← HFFF.out, listF, if_pos H0.out, if_neg (Int.not_lt.2 H60.out)]; rfl), by rw [← HFFF.out, listF, if_pos H0.out, if_neg (Int.not_lt.2 H60.out)]; exact hJ, HB10.out⟩
 ·have v0 : (planR C ts plan bs != 0) = true := by simp [h0]
  have e : listF C ts plan bs = ([], planR C ts plan bs) := by rw [listF, if_neg h0]
  have HE := Lib.hid e; clear e
  obtain ⟨z, hz⟩ : ∃ z : Int, z = planR C ts plan bs := ⟨_, rfl⟩
  rw [← hz] at v0 h0 ⊢
  have HZ := Lib.hid hz; clear hz v0
  have v1 : ¬ z = 0 := h0
  go_wp2_with fail
  go_ret2
  exact ⟨_, congrArg Ending.returned (by rw [← HFFF.out, HE.out, ← HZ.out]; rfl), by rw [← HFFF.out, HE.out]; exact owt_nil _ _, HE2.out⟩
section
variable {P : Program} {ops : Array Oper} {o : Oper} {a : Act} {Q : Exit → Act → World → Prop} {Kc : Act → World → Prop}
theorem app_one_step {w0 W : World} (base : Nat) (hw : Region.wanted o (yielded ops a.tmps) = true) (s x : Operand) (t e : TypeId) (z y : Value) (bytes : Nat)
 (ho : o.op = .call { callee := .builtin .append, args := #[s, x], argTypes := #[t, t] }) (ht : P.underlying t = some (.slice e))
 (hinfo : (P.info? e).map (fun i => (i.zero, i.size, i.bytes)) = some (some z, 1, bytes)) (hz : z.cells.size = 1) (hb0 : 0 < bytes)
 (v : Value) (n : Nat) (xs : List Value) (hs : a.eval s = v) (hx : a.eval x = .slice (some ⟨W.heap.size, 0, none⟩) 1 1) (hy : y.oneCell' = true)
 (HO : W.ownsRow base e 1 v n xs) (HB : Below base w0 W) (hbase : base ≤ W.heap.size) (hl : (n + 1) * bytes ≤ 140737488355328)
 (h : ∀ v1 w1, w1.ownsRow base e 1 v1 (n + 1) (xs ++ [y]) → Below base w0 w1 → W.grownBy w1 v.ownBlock → (v1.ownBlock = v.ownBlock ∨ ∃ b, v1.ownBlock = some b ∧ W.heap.size ≤ b) → Kc (a.put o.dst v1) w1) :
 if Region.wanted o (yielded ops a.tmps) = true then Oper.wp P o a (W.alloc (.cells #[y] e)) Kc Q else Kc (a.put o.dst undef) (W.alloc (.cells #[y] e)) := by
 rw [if_pos hw]
 obtain ⟨i0, hi, hzz⟩ := Option.map_eq_some_iff.1 hinfo
 simp only [Prod.mk.injEq] at hzz
 obtain ⟨hz0, hz1, hz2⟩ := hzz
 have hlen : n + 1 ≤ 140737488355328 := Nat.le_trans (Nat.le_mul_of_pos_right _ hb0) hl
 obtain ⟨v', w', hr, h2, h5⟩ := run_append_cap (P := P) (W.alloc (.cells #[y] e)) base t o.type e i0 z 1 bytes ht hi hz0 hz1 hz2 hz (by decide) v n xs (HO.alloc _) ⟨W.heap.size, 0, none⟩ 1 1 [y] (by decide) rfl
  (fun j u hj => by rw [add_none]; exact (BK.new W _ e).cell (by simpa using hj)) (by simpa using hy) (by simp only [maxLen]; omega) hl (by simp; omega)
 have gr : ∀ {row}, (W.alloc (.cells #[y] e)).grownBy w' row → W.grownBy w' row := fun hg => World.grownBy.trans (World.grownBy_alloc W _ _) hg
 have hB : Below base w0 w' := by
  have h0 : Below base w0 (W.alloc (.cells #[y] e)) := HB.alloc hbase _
  rcases h5 with ⟨g, c, e1, e2, hg⟩ | ⟨e1, hg⟩
  ·refine h0.grown hg (by simp; omega) (fun b hb => ?_)
   have : some b = v.ownBlock := by rw [e1, ← hb]; rfl
   exact (HO.lt b this.symm).1
  ·exact h0.grown hg (by simp; omega) (fun b hb => by cases hb)
 unfold Oper.wp execOp
 simp only [ho, resolve, invoke, builtin, Sem.run_bind, Sem.run_pure, Result.andThen_ok, q4_, q5_, q6_, hs, hx, hr]
 rcases h5 with ⟨g, c, e1, e2, hg⟩ | ⟨e1, hg⟩
 ·exact h v' w' h2 hB (by rw [e1]; exact gr hg) (.inl (by rw [e1, e2]; rfl))
 ·exact h v' w' h2 hB ⟨(gr hg).os, (gr hg).tape, (gr hg).output, (gr hg).size, fun k hk _ => (gr hg).block k hk (by simp)⟩ (.inr ⟨_, e1, by simp⟩)
end
structure JT (base : Nat) (vs : List (List (List Int))) (W : World) (v : Value) (vals : List Value) (a b : Nat → Nat) : Prop where
 own : W.ownsRow base 22 1 v vs.length vals
 row : ∀ i, i < vs.length → OWS W (a i) (b i) (vals.getD i default) (at3 vs i) (fun j => icells (rowAt (at3 vs i) j))
 iv : ∀ i, i < vs.length → base ≤ a i ∧ ∀ k, a i ≤ k → k < b i → some k ≠ v.ownBlock
 inc : ∀ i j, i < j → j < vs.length → b i ≤ a j
 sm : ∀ i, i < vs.length → 0 < (at3 vs i).length ∧ (at3 vs i).length ≤ 1000000
structure JW (w0 WL wr : World) (base g0 : Nat) (vs : List (List (List Int))) (v : Value) : Prop where
 sz : WL.heap.size ≤ wr.heap.size
 bl : ∀ k, k < WL.heap.size → k ≠ g0 → wr.heap[k]? = WL.heap[k]?
 own0 : ∀ k, v.ownBlock = some k → k = g0 ∨ WL.heap.size ≤ k
 be : Below base w0 wr
 jt : ∃ vals a b, JT base vs wr v vals a b
theorem JW.app {w0 WL wr W w1 : World} {base g0 : Nat} {vs : List (List (List Int))} {v v1 u : Value} {rows : List (List Int)} {vals : List Value} {a b : Nat → Nat} (h : JT base vs wr v vals a b)
 (hbl : ∀ k, k < WL.heap.size → k ≠ g0 → wr.heap[k]? = WL.heap[k]?) (hsz : WL.heap.size ≤ wr.heap.size) (ho0 : ∀ k, v.ownBlock = some k → k = g0 ∨ WL.heap.size ≤ k)
 (hb : Below wr.heap.size wr W) (hbase : base ≤ wr.heap.size) (hS : OWS W wr.heap.size W.heap.size u rows (fun j => icells (rowAt rows j))) (hr : 0 < rows.length) (hr9 : rows.length ≤ 1000000)
 (hown : w1.ownsRow base 22 1 v1 (vs.length + 1) (vals ++ [u])) (hbe : Below base w0 w1) (hg : W.grownBy w1 v.ownBlock) (hat : v1.ownBlock = v.ownBlock ∨ ∃ z, v1.ownBlock = some z ∧ W.heap.size ≤ z) :
 JW w0 WL w1 base g0 (vs ++ [rows]) v1 := by
 have hvl : vals.length = vs.length := by have := h.own.1; omega
 have hvN : ∀ k, v.ownBlock = some k → k < wr.heap.size := fun k hk => (h.own.lt k hk).2
 have hkeep : ∀ k, k < wr.heap.size → some k ≠ v.ownBlock → w1.heap[k]? = wr.heap[k]? := fun k h1 h2 => (hg.block k (Nat.lt_of_lt_of_le h1 hb.size) h2).trans (hb.block k h1)
 have hsz1 : W.heap.size ≤ w1.heap.size := hg.size
 have hsz2 := hb.size
 have hv1 : ∀ k, v1.ownBlock = some k → k < wr.heap.size ∧ v.ownBlock = some k ∨ W.heap.size ≤ k := fun k hk => by
  rcases hat with e | ⟨z, e, hz⟩
  ·rw [e] at hk; exact .inl ⟨hvN k hk, hk⟩
  ·rw [e] at hk; injection hk with hk; right; omega
 refine ⟨by omega, fun k h1 h2 => ?_, fun k hk => ?_, hbe, vals ++ [u], fun i => if i < vs.length then a i else wr.heap.size, fun i => if i < vs.length then b i else W.heap.size, ?_, ?_, ?_, ?_, ?_⟩
 ·refine (hkeep k (by omega) (fun e => ?_)).trans (hbl k h1 h2)
  rcases ho0 k e.symm with e2 | e2
  ·exact h2 e2
  ·omega
 ·rcases hv1 k hk with h2 | h2
  ·exact ho0 k h2.2
  ·right; omega
 ·rw [List.length_append]; exact hown
 ·intro i hi
  rw [List.length_append, List.length_singleton] at hi
  by_cases hlt : i < vs.length
  ·have e := at3_app vs rows i
   rw [if_pos hlt] at e
   simp only [if_pos hlt]
   rw [e, getD_app _ _ _ _ (by omega)]
   exact (h.row i hlt).same (fun k h1 h2 => hkeep k (Nat.lt_of_lt_of_le h2 (h.row i hlt).top) ((h.iv i hlt).2 k h1 h2)) (Nat.le_trans (h.row i hlt).top (by omega))
  ·have e := at3_app vs rows i
   rw [if_neg hlt, if_pos (by omega)] at e
   simp only [if_neg hlt]
   have e2 : (vals ++ [u]).getD i default = u := by
    rw [show i = vals.length by omega]; simp [List.getD_eq_getElem?_getD]
   rw [e, e2]
   exact hS.same (fun k h1 h2 => hg.block k h2 (fun e3 => by have := hvN k e3.symm; omega)) hsz1
 ·intro i hi
  rw [List.length_append, List.length_singleton] at hi
  by_cases hlt : i < vs.length
  ·simp only [if_pos hlt]
   refine ⟨(h.iv i hlt).1, fun k h1 h2 e => ?_⟩
   rcases hv1 k e.symm with h4 | h4
   ·exact (h.iv i hlt).2 k h1 h2 h4.2.symm
   ·have := (h.row i hlt).top; omega
  ·simp only [if_neg hlt]
   refine ⟨hbase, fun k h1 h2 e => ?_⟩
   rcases hv1 k e.symm with h4 | h4
   ·omega
   ·omega
 ·intro i j hij hj
  rw [List.length_append, List.length_singleton] at hj
  have hi : i < vs.length := by omega
  by_cases hlt : j < vs.length
  ·simp only [if_pos hlt, if_pos hi]; exact h.inc i j hij hlt
  ·simp only [if_neg hlt, if_pos hi]
   exact (h.row i hi).top
 ·intro i hi
  rw [List.length_append, List.length_singleton] at hi
  by_cases hlt : i < vs.length
  ·have e := at3_app vs rows i
   rw [if_pos hlt] at e
   rw [e]; exact h.sm i hlt
  ·have e := at3_app vs rows i
   rw [if_neg hlt, if_pos (by omega)] at e
   rw [e]; exact ⟨hr, hr9⟩
theorem JT.owt {base : Nat} {vs : List (List (List Int))} {W : World} {v : Value} {vals : List Value} {a b : Nat → Nat} (h : JT base vs W v vals a b) : OWT W base W.heap.size v vs (fun i j => icells (rowAt (at3 vs i) j)) := by
 rcases h.own.2 with ⟨hv, hn⟩ | ⟨g, cap, cur, hv, hg, hb, hnc, -⟩
 ·refine ⟨⟨none, 0, 0, fun _ => default, a, b, by rw [hv, hn], by omega, fun h0 => by omega, ⟨fun i hi => by omega, fun i hi => by omega, fun i hi => by omega, fun i hi => by omega, fun i j hij hj => by omega, fun i hi => by omega, fun i hi => by omega⟩⟩, Nat.le_refl _⟩
 ·have hgv : v.ownBlock = some g := by rw [hv]; rfl
  refine ⟨⟨_, cap, g, fun i => vals.getD i default, a, b, hv, hnc, fun _ => ⟨rfl, hg, (h.own.lt g hgv).2⟩, ⟨fun i hi => ?_, h.row, fun i hi => (h.iv i hi).1, fun i hi => (h.row i hi).top, h.inc, fun i hi => ?_, fun i hi => (h.sm i hi).2⟩⟩, Nat.le_refl _⟩
  ·have hl : i < vals.length := by have := h.own.1; omega
   have h2 := h.own
   rw [hv] at h2
   exact own_cell h2 (by rw [List.getD_eq_getElem?_getD, List.getElem?_eq_getElem hl]; rfl)
  ·rcases Nat.lt_or_ge g (a i) with h1 | h1
   ·exact .inl h1
   ·right
    rcases Nat.lt_or_ge g (b i) with h2 | h2
    ·exact absurd hgv.symm ((h.iv i hi).2 g h1 h2)
    ·exact h2
def list_T11 : Bool × List (List Nat × List Nat) := (true, [([], []), ([], []), ([], []), ([1, 2], [1, 2]), ([3], [3]), ([], []), ([5], [5]), ([6], [6]), ([7], [7]), ([4, 8], [4, 8]), ([9], [9]), ([0, 10, 9], [0, 10]), ([11, 11, 0, 1, 2, 3, 4, 5, 6, 7, 8, 9, 10, 11], [0, 11])])
def list_B11 : List Nat := [0, 0, 0, 6, 14, 0, 32, 96, 224, 510, 1022, 2047, 4095]
theorem list_tab11 : rtab .any (opsOf Try.f31 11) = list_T11 := by kernel_rfl
theorem list_bits11 : waitsOk list_T11.2 list_B11 = true := by kernel_rfl
theorem take_app {α : Type} (xs : List α) (i : Nat) (h : i < xs.length) : xs.take (i + 1) = xs.take i ++ [xs[i]] := by
 rw [List.take_add_one, List.getElem?_eq_getElem h]; rfl
set_option maxHeartbeats 8000000 in
set_option maxRecDepth 100000 in
theorem specList_any (C : Int) (A : Option Addr) (ts : List T4) (n c : Nat) (A1 : Option Addr) (plan : List (List Int)) (m1 c1 : Nat) (A2 : Option Addr) (bs : List (List Int)) (m2 c2 : Nat) (w : World)
 (hn : n = ts.length) (hA : RT w A ts) (hnc : n ≤ c) (hl : n ≤ 35184372088832) (hm1 : m1 = plan.length) (hA1 : RR w A1 plan) (hc1 : m1 ≤ c1) (hl1 : m1 ≤ 10000000 ∧ rowsz0 plan ≤ 10000000) (hm2 : m2 = bs.length) (hA2 : RR w A2 bs) (hc2 : m2 ≤ c2) (hl2 : m2 ≤ 10000000 ∧ rowsz0 bs ≤ 10000000) :
 Calls Try.prog 31 #[.agg #[.int .i64 C, .slice A n c], .slice A1 m1 c1, .slice A2 m2 c2] w (ListPost w (listF C ts plan bs)) := by
 have HN := Lib.hid hn; have HA := Lib.hid hA; have HM1 := Lib.hid hm1; have HA1 := Lib.hid hA1; have HM2 := Lib.hid hm2; have HA2 := Lib.hid hA2; have HL1 := Lib.hid hl1; have HL2 := Lib.hid hl2
 have HW := Lib.hid (show ∀ k, k < bs.length → rowLen bs k ≤ 35184372088832 from fun k hk => by
  have := rows_lens hl2.2 bs[k] (List.getElem_mem hk)
  rw [rowLen, rowAt_at hk]; omega)
 clear hn hA hm1 hA1 hm2 hA2 hl1 hl2
 generalize hff : listF C ts plan bs = ff
 have HFFF := Lib.hid hff; clear hff
 go_enter Try.func31, Try.ntmps31
 go_upto_region 1 with fail
 refine nameG1 ?_
 intro W1 b1 hb0
 have z0 : W1.cell? ⟨w.heap.size, 0, none⟩ = some (.int .i64 C) := b1.cell rfl
 have z1 : W1.cell? ⟨w.heap.size, 1, none⟩ = some (.slice A n c) := b1.cell rfl
 have l1 := b1.lt
 have HB1 := Lib.hid b1; have HB0 := Lib.hid hb0
 clear b1 hb0
 go_wp2_with fail
 refine (lPlan_any C A ts n c A1 plan m1 c1 A2 bs m2 c2 W1 HN.out (HA.out.below HB0.out) hnc hl HM1.out (HA1.out.below HB0.out) HL1.out.1 HM2.out (HA2.out.below HB0.out) HW.out).mono ?_
 rintro e W2 ⟨rfl, hb2⟩
 have b1 := (hb2.block _ l1).trans HB1.out
 have l1' := BK.lt b1
 have y0 : W2.cell? ⟨w.heap.size, 0, none⟩ = some (.int .i64 C) := BK.cell b1 rfl
 have y1 : W2.cell? ⟨w.heap.size, 1, none⟩ = some (.slice A n c) := BK.cell b1 rfl
 have HE2 := Lib.hid (below_to HB0.out hb2); have HB1' := Lib.hid (show BK W2 w.heap.size #[.int .i64 C, .slice A n c] 36 from b1)
 clear b1 hb2 z0 z1 l1
 by_cases h0 : planR C ts plan bs = 0
 ·obtain ⟨hs, hsh⟩ := planR_zero' h0
  have hs2 : isS C ((ts.map toS).map toT) = true := by rw [map_toTS]; exact hs
  obtain ⟨hC, hl16, hcol⟩ := isS_cols hs2
  have HCOL := Lib.hid hcol; have HC := Lib.hid hC; have HSH := Lib.hid hsh; have H0 := Lib.hid h0
  have HL := Lib.hid (show n ≤ 1000 by rw [HN.out]; simpa using Nat.le_trans hl16 (by omega))
  rw [h0]
  clear hs hs2 hcol hC hl16 h0 hsh
  go_wp2_with fail
  refine (lay_any C C.toNat A ts n c A1 plan m1 c1 A2 bs m2 c2 W2 (by have := HC.out; omega) (by have := HC.out; omega) (by have := HC.out; omega) HN.out (HA.out.below HE2.out) HL.out HM1.out (HA1.out.below HE2.out) HM2.out (HA2.out.below HE2.out) HSH.out HCOL.out).mono ?_
  rintro e W3 ⟨vL, rfl, hS, hb3⟩
  have hlen : (layersT C.toNat plan bs (ts.map toS)).length = places plan + 1 := by simp [layersT]
  obtain ⟨gL, cL, rfl, -⟩ := Kd.S_form hS (by omega)
  have hRR := rr_of_C (Kd.S_reads' hS).2.2
  rw [hlen]
  have HLC := Lib.hid (show places plan + 1 ≤ cL by have := (Kd.S_reads' hS).2.1; omega); have HRR := Lib.hid hRR
  have HE3 := Lib.hid (below_to HE2.out hb3)
  have HBS3 := Lib.hid (show BK W3 w.heap.size #[.int .i64 C, .slice A n c] 36 from (hb3.block _ l1').trans HB1'.out)
  clear hS hRR hb3 y0 y1 l1' HB1' hlen
  go_upto_region 5 with fail
  refine nameG1 ?_
  intro W4 b4 hb4
  obtain ⟨g0, hg0⟩ : ∃ b_, b_ = W3.heap.size := ⟨_, rfl⟩
  rw [← hg0] at b4 ⊢
  have hlen : (layersT C.toNat plan bs (ts.map toS)).length = places plan + 1 := by simp [layersT]
  obtain ⟨ob, oo, OA, oc, eo, hob, o0, hri, -, -⟩ := (HRR.out.below hb4) 0 (by omega)
  injection eo with eo; injection eo with eo1 eo2
  subst eo1; subst eo2
  rw [Nat.zero_add] at o0
  have ce : (0 : Nat) < C.toNat := by have := HC.out; omega
  have hlr : rowAt (layersT C.toNat plan bs (ts.map toS)) 0 = layS C.toNat plan bs (ts.map toS) 0 := by rw [← rdL0, layersT_at]
  have hl0 : rowLen (layersT C.toNat plan bs (ts.map toS)) 0 = size C.toNat plan := by unfold rowLen; rw [hlr, layS, capRow_len]
  have hsz0 : 0 < size C.toNat plan := Nat.pow_pos ce
  obtain ⟨qb, qo, rfl, hqb, q0⟩ := hri 0 (by rw [show (rowAt (layersT C.toNat plan bs (ts.map toS)) 0).length = rowLen (layersT C.toNat plan bs (ts.map toS)) 0 from rfl, hl0]; exact hsz0)
  have hik : ik (rowAt (layersT C.toNat plan bs (ts.map toS)) 0) 0 = cap (numS C.toNat plan bs (ts.map toS)) := by
   rw [hlr, ← layS_at plan bs (ts.map toS) ce]; simp [ik, rd]
  rw [hik, Nat.add_zero] at q0
  rw [hl0] at o0
  obtain ⟨sz, hsz⟩ : ∃ k_, k_ = size C.toNat plan := ⟨_, rfl⟩
  rw [← hsz] at o0 hsz0
  obtain ⟨P1, hP1⟩ : ∃ k_, k_ = places plan + 1 := ⟨_, rfl⟩
  have hP0 : 0 < P1 := by omega
  rw [← hP1] at HLC ⊢
  have HE4 := Lib.hid (below_to HE3.out hb4); have HG0 := Lib.hid (show w.heap.size ≤ g0 by rw [hg0]; exact HE3.out.size); have HB4 := Lib.hid b4; have HRR4 := Lib.hid (HRR.out.below hb4); have HP1 := Lib.hid hP1
  have HG3 := Lib.hid hg0
  have hbs4 : BK W4 w.heap.size #[.int .i64 C, .slice A n c] 36 := (hb4.block _ HBS3.out.lt).trans HBS3.out
  have y0 : W4.cell? ⟨w.heap.size, 0, none⟩ = some (.int .i64 C) := BK.cell hbs4 rfl
  have y1 : W4.cell? ⟨w.heap.size, 1, none⟩ = some (.slice A n c) := BK.cell hbs4 rfl
  have l4 := hbs4.lt
  have hi0 : (0 : Int) < (P1 : Int) := by omega
  have hi1 : (0 : Int) < (sz : Int) := by omega
  clear b4 hb4 hri hik hlr hl0 hlen hsz hg0 hP1 hbs4
  by_cases h60 : numS C.toNat plan bs (ts.map toS) > 60
  ·have i60 : cap (numS C.toNat plan bs (ts.map toS)) > 60 := by unfold cap; split <;> omega
   have H60 := Lib.hid h60; clear h60
   go_wp2_with fail
   go_ret2
   exact ⟨_, congrArg Ending.returned (by rw [← HFFF.out, listF, if_pos H0.out, if_pos H60.out]; rfl), by rw [← HFFF.out, listF, if_pos H0.out, if_pos H60.out]; exact owt_nil _ _, HE4.out⟩
  ·have i60 : ¬ cap (numS C.toNat plan bs (ts.map toS)) > 60 := by unfold cap; split <;> omega
   have H60 := Lib.hid (show numS C.toNat plan bs (ts.map toS) ≤ 60 by omega); clear h60
   go_wp2_with fail
   have hlenP : (layersT C.toNat plan bs (ts.map toS)).length = P1 := by rw [HP1.out]; simp [layersT]
   have hle : (fillsF C.toNat plan bs (ts.map toS)).length ≤ 60 := by
    have h1 := ways_len (stepS C.toNat plan bs (ts.map toS)) (ts.map toS).length (places plan) 0 0
    have h2 : numS C.toNat plan bs (ts.map toS) = onw (stepS C.toNat plan bs (ts.map toS)) (ts.map toS).length (places plan) 0 0 := by unfold numS onS; rw [Nat.sub_zero]
    have h3 := H60.out
    unfold fillsF
    omega
   obtain ⟨k, hk⟩ := (list_ev C C.toNat (ts.map toS) plan bs (by have := HC.out; omega) (by have := HC.out; omega) (by have := HC.out; omega) HSH.out HCOL.out (by rw [List.length_map, ← HN.out]; exact HL.out) (places plan) 0 0 [] 60 (by omega) rfl (Nat.pow_pos (by have := HC.out; omega)) (by omega) (by omega)).rounds
   rw [nil_map, List.take_of_length_le (show (waysF (stepS C.toNat plan bs (ts.map toS)) (ts.map toS).length (places plan) 0 0).length ≤ 60 from hle)] at hk
   have hV : Kd.V (Kd.int .i64) 2 (W4.alloc (.cells #[] 2)) (W4.alloc (.cells #[] 2)).heap.size (fun _ => False) (.slice (some ⟨W4.heap.size, 0, none⟩) 0 0) ([] : List Int) := Kd.V_mk (xs := ([] : List Int)) (Nat.le_refl _) (fun W' _ => ⟨rfl, by decide, fun h => absurd h (Nat.lt_irrefl 0)⟩)
   have hb5 : Below W4.heap.size W4 (W4.alloc (.cells #[] 2)) := new_below W4 _
   obtain ⟨g4, hg4⟩ : ∃ g_, g_ = W4.heap.size := ⟨_, rfl⟩
   have hg5 : g0 < (W4.alloc (.cells #[] 2)).heap.size := by have := HB4.out.lt; have := hb5.size; omega
   rw [← hg4] at hV ⊢
   generalize W4.alloc (.cells #[] 2) = W5 at hV hb5 hg5 ⊢
   have HE5 := Lib.hid (below_to HE4.out hb5); have HB5 := Lib.hid (show BK W5 g0 #[] 22 from (hb5.block _ HB4.out.lt).trans HB4.out)
   have hcalls := spec_l03List.calls k C A c (ts.map toS) A1 c1 plan A2 c2 bs (some ⟨gL, 0, none⟩) cL (layersT C.toNat plan bs (ts.map toS)) (fun _ => False) (some ⟨g4, 0, none⟩) 0 [] 0 60 _ W5 (C_of_rt (HA.out.below HE5.out) (by rw [← HN.out]; omega)) (by rw [List.length_map, ← HN.out]; exact hnc) (C_of_rr (HA1.out.below HE5.out) (by rw [← HM1.out]; have := HL1.out.1; omega)) (by rw [← HM1.out]; exact hc1) (C_of_rr (HA2.out.below HE5.out) (by rw [← HM2.out]; have := HL2.out.1; omega)) (by rw [← HM2.out]; exact hc2)
    (C_of_rr (HRR4.out.below hb5) (by rw [hlenP, HP1.out]; have := HSH.out.h5; have h5 : places plan ≤ 25 := (by unfold places; exact Nat.mul_le_mul HSH.out.h5 HSH.out.w5); omega)) (by rw [hlenP]; exact HLC.out) hV hk
   rw [List.length_map, ← HN.out, ← HM1.out, ← HM2.out, hlenP] at hcalls
   refine hcalls.mono ?_
   clear hcalls hk hV q0 o0 y0 y1 l4 i60
   rintro e W6 ⟨vx, rfl, hN, hb6⟩
   rw [show waysF (stepS C.toNat plan bs (ts.map toS)) n (places plan) 0 0 = fillsF C.toNat plan bs (ts.map toS) by unfold fillsF; rw [List.length_map, ← HN.out]] at hN
   have hxl : ∀ r ∈ fillsF C.toNat plan bs (ts.map toS), r.length = plan.length * rowLen plan 0 := ways_row _ _ _ _ _
   obtain ⟨xs, hxs⟩ : ∃ x_, x_ = fillsF C.toNat plan bs (ts.map toS) := ⟨_, rfl⟩
   rw [← hxs] at hN hxl hle
   have HXS := Lib.hid hxs
   clear hxs
   obtain ⟨Ax, cx, rfl⟩ := Kd.N_slice hN
   have HE6 := Lib.hid (below_to HE5.out hb6); have HB6 := Lib.hid (show BK W6 g0 #[] 22 from (hb6.block _ HB5.out.lt).trans HB5.out)
   have hN2 : Kd.N (Kd.slice 2 (Kd.int .i64)) 56 W6 0 (fun k_ => k_ ≠ g0) (.slice Ax xs.length cx) xs := Kd.N_lower (Kd.N_mono hN (fun k_ hk_ => by rcases hk_ with h | h; exact h.elim; omega)) (Nat.zero_le _)
   have HNX := Lib.hid hN2; have HXL := Lib.hid hxl
   clear hN hN2 hb6 hb5 hxl
   go_wp2_with fail
   go_loopw [10, 12] (fun v10 v12 wr => ∃ i : Nat, i ≤ xs.length ∧ v12 = .int .i64 i ∧ JW w W6 wr w.heap.size g0 ((xs.take i).map (cutR (rowLen plan 0) plan.length)) v10) (fun _ v12 _ => xs.length - (intOf v12).toNat)
   case atStart => exact ⟨0, by omega, rfl, Nat.le_refl _, fun _ _ _ => rfl, fun k_ hk_ => .inl (Option.some.inj hk_).symm, HE6.out, [], fun _ => 0, fun _ => 0, ⟨rfl, .inr ⟨g0, 0, #[], rfl, HG0.out, HB6.out, Nat.le_refl _, by decide, rfl, rfl⟩⟩, fun i hi => absurd hi (Nat.not_lt_zero i), fun i hi => absurd hi (Nat.not_lt_zero i), fun i j _ hj => absurd hj (Nat.not_lt_zero j), fun i hi => absurd hi (Nat.not_lt_zero i)⟩
   case round =>
    obtain ⟨i, hi, rfl, hJ⟩ := hrel
    by_cases hlt : i < xs.length
    ·have i1 : (i : Int) < xs.length := by omega
     have i2 : (0 : Int) ≤ (i : Int) := by omega
     obtain ⟨hj1, hj2, hj3, hj4, vals, a9, b9, hjt⟩ := hJ
     have hRX := rr_of_C (Kd.N_reads' (Kd.N_step (w1 := wr) HNX.out (fun k_ hk_ hlt_ => hj2 k_ hlt_ hk_))).2.2
     obtain ⟨xb, xo, Ai, ci, e, hxb, x0, hri, hlc, -⟩ := hRX i hlt
     subst e
     obtain ⟨pb, po, PA, pc, e, hpb, p0, -, -, -⟩ := (HA1.out.below hj4) 0 (by have := HSH.out.h1; omega)
     subst e
     rw [Nat.add_zero] at p0
     have j2 : 0 < m1 := by rw [HM1.out]; exact HSH.out.h1
     have j1 : (0 : Int) < m1 := by omega
     obtain ⟨ln, hln⟩ : ∃ l_, l_ = rowLen xs i := ⟨_, rfl⟩
     obtain ⟨wd9, hwd⟩ : ∃ l_, l_ = rowLen plan 0 := ⟨_, rfl⟩
     rw [← hln] at x0 hlc
     rw [← hwd] at p0
     have HLN := Lib.hid hln; have HWD := Lib.hid hwd; have HJT := Lib.hid hjt; have HJ1 := Lib.hid hj1; have HJ2 := Lib.hid hj2; have HJ3 := Lib.hid hj3; have HJ4 := Lib.hid hj4; have HRI := Lib.hid hri
     clear hln hwd hjt hj1 hj2 hj3 hj4 hri hRX
     go_upto_region 11 with fail
     have hD := (Below.refl wr.heap.size wr).drew
     have hsd : wr.drew.heap.size = wr.heap.size := rfl
     have x0d := cell_to hD x0
     have p0d := cell_to hD p0
     refine start_ (n := 13) (S := fun w' => w'.cell? ⟨xb, xo + i, none⟩ = some (.slice Ai ln ci) ∧ w'.cell? ⟨pb, po, none⟩ = some (.slice PA wd9 pc)) (ds := [10, 11]) #[f_,f_,f_,f_,f_,f_,f_,f_,f_,f_,f_,f_,f_] (by kernel_rfl) rfl rfl ⟨x0d, p0d⟩ (fun hHeld => ?_)
     refine with_tabW list_tab11 list_bits11 (fun HT_ HW_ => ?_)
     have hriD := HRI.out.below hD
     generalize wr.drew = wd at hD hsd x0d p0d hriD hHeld ⊢
     refine p_ 0 43 ?_ #[t_,f_,f_,f_,f_,f_,f_,f_,f_,f_,f_,f_,f_] rfl rfl HT_.out (by kernel_rfl) (fun _ _ _ h => h) (.inl ⟨by rfl, ?_⟩) ?_ ?_ ?_
     rotate_left
     ·intro w'
      go_simp
      with_reducible rfl
     rotate_left
     ·simp only [Q_]
      rfl
     refine p_ 1 44 ?_ #[t_,t_,f_,f_,f_,f_,f_,f_,f_,f_,f_,f_,f_] rfl rfl HT_.out (by kernel_rfl) (fun _ _ _ h => h) (.inl ⟨by rfl, ?_⟩) ?_ ?_ ?_
     rotate_left
     ·intro w'
      go_simp
      with_reducible rfl
     rotate_left
     ·simp only [Q_]
      rfl
     refine p_ 2 45 ?_ #[t_,t_,t_,f_,f_,f_,f_,f_,f_,f_,f_,f_,f_] rfl rfl HT_.out (by kernel_rfl) (fun _ _ _ h => h) (.inl ⟨by rfl, ?_⟩) ?_ ?_ ?_
     rotate_left
     ·intro w'
      go_simp
      with_reducible rfl
     rotate_left
     ·simp only [Q_]
      rfl
     refine p_ 3 46 ?_ #[t_,t_,t_,t_,f_,f_,f_,f_,f_,f_,f_,f_,f_] rfl rfl HT_.out (by kernel_rfl) (fun _ _ _ h => h) (.inl ⟨by rfl, ?_⟩) ?_ ?_ ?_
     rotate_left
     ·intro w'
      go_simp
      with_reducible rfl
     rotate_left
     ·simp only [Q_]
      rfl
     refine p_ 5 48 ?_ #[t_,t_,t_,t_,f_,t_,f_,f_,f_,f_,f_,f_,f_] rfl rfl HT_.out (by kernel_rfl) (fun _ _ _ h => h) (.inl ⟨by rfl, ?_⟩) ?_ ?_ ?_
     rotate_left
     ·intro w'
      go_simp
      with_reducible rfl
     rotate_left
     ·simp only [Q_]
      rfl
     refine p_ 6 49 ?_ #[t_,t_,t_,t_,f_,t_,t_,f_,f_,f_,f_,f_,f_] rfl rfl HT_.out (by kernel_rfl) (fun _ _ _ h => h) (.inl ⟨by rfl, ?_⟩) ?_ ?_ ?_
     rotate_left
     ·intro w'
      go_simp
      with_reducible rfl
     rotate_left
     ·simp only [Q_]
      rfl
     refine tk_ 4 47 ?_ #[t_,t_,t_,t_,t_,t_,t_,f_,f_,f_,f_,f_,f_] rfl rfl (take_ofW HT_.out HW_.out (by kernel_rfl)) (fun _ _ _ h => h) (.inl ⟨by rfl, ?_⟩) hHeld ?_ ?_ ?_
     rotate_left
     ·rintro w' ⟨s0, s1⟩
      go_simp
      with_reducible rfl
     rotate_left
     ·simp only [Q_]
      rfl
     refine tk_ 7 50 ?_ #[t_,t_,t_,t_,t_,t_,t_,t_,f_,f_,f_,f_,f_] rfl rfl (take_ofW HT_.out HW_.out (by kernel_rfl)) (fun _ _ _ h => h) (.inl ⟨by rfl, ?_⟩) hHeld ?_ ?_ ?_
     rotate_left
     ·rintro w' ⟨s0, s1⟩
      go_simp
      with_reducible rfl
     rotate_left
     ·simp only [Q_]
      rfl
     refine p_ 8 51 ?_ #[t_,t_,t_,t_,t_,t_,t_,t_,t_,f_,f_,f_,f_] rfl rfl HT_.out (by kernel_rfl) (fun _ _ _ h => h) (.inl ⟨by rfl, ?_⟩) ?_ ?_ ?_
     rotate_left
     ·intro w'
      go_simp
      with_reducible rfl
     rotate_left
     ·simp only [Q_]
      rfl
     refine one_ (i := 9) (N := some 52) #[t_,t_,t_,t_,t_,t_,t_,t_,t_,t_,f_,f_,f_] rfl rfl (one_of HT_.out (by kernel_rfl)) (by decide) (fun K hK => ?_)
     refine goes_ Try.func62 (by kernel_rfl) rfl #[.slice Ai ln ci, .int .i64 (wd9 : Int)] (by rfl) rfl rfl (by (try simp only [q4_, q5_, q6_]); first | done | rfl | (simp only [List.length_drop, List.length_take]; rfl)) ?_
     have hrl : (rowAt xs i).length = plan.length * rowLen plan 0 := by rw [rowAt_at hlt]; exact HXL.out _ (List.getElem_mem hlt)
     obtain ⟨k2, hk2⟩ := (cut_ev (rowLen plan 0) plan.length (rowAt xs i) HSH.out.w1 HSH.out.w5 HSH.out.h5 hrl).rounds
     have hcut := spec_l03Cut.calls k2 Ai ci (rowAt xs i) _ _ wd (C_of_ri hriD (by rw [hrl]; have : plan.length * rowLen plan 0 ≤ 25 := Nat.mul_le_mul HSH.out.h5 HSH.out.w5; omega)) (by rw [show (rowAt xs i).length = ln from HLN.out.symm]; exact hlc) hk2
     rw [show (rowAt xs i).length = ln from HLN.out.symm, ← HWD.out] at hcut
     refine hcut.mono ?_
     clear hcut hk2 hriD
     rintro e W7 ⟨v7, rfl, hS7, hb7⟩
     refine ⟨_, rfl, ?_⟩
     have x07 := cell_to hb7 x0d
     have p07 := cell_to hb7 p0d
     have hb79 : Below wr.heap.size wr W7 := below_to hD hb7
     have hO7 := ows_of_S hS7
     rw [hsd] at hO7
     have HO7 := Lib.hid hO7; have HB79 := Lib.hid hb79
     obtain ⟨A7, c7, e7⟩ := OWS.form0 hO7
     obtain ⟨n7, hn7⟩ : ∃ n_, n_ = (cutR wd9 plan.length (rowAt xs i)).length := ⟨_, rfl⟩
     rw [← hn7] at e7
     subst e7
     clear hn7
     clear hS7 hb7 hO7 hb79 hD hsd
     refine hK.out _ _ ⟨x07, p07⟩ (fun hHeld => ?_)
     clear hK K
     refine norm_ (a' := ?_) ?_ ?_
     rotate_left
     ·show Act.put _ (some 52) _ = _
      simp only [Q_]
      rfl
     refine last_ (i := 10) (N := some 53) #[t_,t_,t_,t_,t_,t_,t_,t_,t_,t_,t_,f_,f_] rfl rfl (one_of HT_.out (by kernel_rfl)) (by decide) (fun K hK => ?_)
     refine value_ (w1 := ?_) (v := ?_) (by rfl) rfl ?_ ?_
     rotate_left 2
     ·go_simp
      constructor
      ·rfl
      ·rfl
     refine hK.out _ _ ?_
     clear hK K
     refine norm_ (a' := ?_) ?_ ?_
     rotate_left
     ·show Act.put _ (some 53) _ = _
      simp only [Q_]
      rfl
     refine last_ (i := 11) (N := some 54) #[t_,t_,t_,t_,t_,t_,t_,t_,t_,t_,t_,t_,f_] rfl rfl (one_of HT_.out (by kernel_rfl)) (by decide) (fun K hK => ?_)
     have hle7 := HB79.out.size
     refine app_one_step (w0 := w) w.heap.size (by rfl) (.tmp 43) (.tmp 53) 48 22 (.slice none 0 0) (.slice A7 n7 c7) 24 rfl Try.underlying48 infoRows rfl (by decide) u10 ((xs.take i).map (cutR (rowLen plan 0) plan.length)).length vals rfl rfl rfl ?aO ?aB ?aS ?aL ?_
     (case aO => exact owns_same HJT.out.own (fun k_ hk_ => HB79.out.block k_ (HJT.out.own.lt k_ hk_).2))
     (case aB => exact below_to HJ4.out HB79.out)
     (case aS => exact Nat.le_trans HJ4.out.size hle7)
     (case aL => rw [List.length_map, List.length_take]; omega)
     intro v1 w1 ho hb hg hat
     have hJ1 := JW.app HJT.out HJ2.out HJ1.out HJ3.out HB79.out HJ4.out.size HO7.out (by rw [cutR_len]; exact HSH.out.h1) (by rw [cutR_len]; have := HSH.out.h5; omega) ho hb hg hat
     rw [rowAt_at hlt, HWD.out, ← List.map_singleton, ← List.map_append, ← take_app xs i hlt] at hJ1
     have HJN := Lib.hid hJ1
     clear ho hb hg hat hJ1
     refine hK.out _ _ ?_
     clear hK K
     refine norm_ (a' := ?_) ?_ ?_
     rotate_left
     ·show Act.put _ (some 54) _ = _
      simp only [Q_]
      rfl
     refine p_ 12 10 ?_ #[t_,t_,t_,t_,t_,t_,t_,t_,t_,t_,t_,t_,t_] rfl rfl HT_.out (by kernel_rfl) (fun _ _ _ h => h) (.inl ⟨by rfl, ?_⟩) ?_ ?_ ?_
     rotate_left
     ·intro w'
      go_simp
      with_reducible rfl
     rotate_left
     ·simp only [Q_]
      rfl
     refine done_ (done_of HT_.out (by kernel_rfl)) ?_
     go_wp2_with fail
     go_roundw
     case rel => exact ⟨i + 1, hlt, by go_num, HJN.out⟩
     case measure => simp [intOf]; omega
    ·have hix : i = xs.length := by omega
     have i1 : ¬ (i : Int) < xs.length := by omega
     have HJ := Lib.hid hJ
     clear hJ
     go_wp2_with fail
     go_ret2
     obtain ⟨-, -, -, hj4, vals, a9, b9, hjt⟩ := HJ.out
     rw [hix, List.take_length] at hjt
     have hF : listF C ts plan bs = (xs.map (cutR (rowLen plan 0) plan.length), 0) := by rw [listF, if_pos H0.out, if_neg (Int.not_lt.2 H60.out), ← HXS.out]
     rw [hF] at HFFF
     exact ⟨_, congrArg Ending.returned (by rw [← HFFF.out]; rfl), by rw [← HFFF.out]; exact hjt.owt, hj4⟩
 ·have v0 : (planR C ts plan bs != 0) = true := by simp [h0]
  have e : listF C ts plan bs = ([], planR C ts plan bs) := by rw [listF, if_neg h0]
  have HE := Lib.hid e; clear e
  obtain ⟨z, hz⟩ : ∃ z : Int, z = planR C ts plan bs := ⟨_, rfl⟩
  rw [← hz] at v0 h0 ⊢
  have HZ := Lib.hid hz; clear hz v0
  have v1 : ¬ z = 0 := h0
  go_wp2_with fail
  go_ret2
  exact ⟨_, congrArg Ending.returned (by rw [← HFFF.out, HE.out, ← HZ.out]; rfl), by rw [← HFFF.out, HE.out]; exact owt_nil _ _, HE2.out⟩
end Go.Proofs.Ytcaikaflpmaocaa
namespace Go.Proofs.Ytcaikaflpmaocaa
open Go Go.RowKit Go.Proofs Go.Proofs.YtcaikaflpmaocaaW.PrintWords Go.Proofs.YtcaikaflpmaocaaW.PrintMore Go.Proofs.Ytcaikaflpmaocaa.Q
set_option linter.unusedVariables false
set_option linter.unusedSimpArgs false
theorem specFillingList_any (C : Int) (A : Option Addr) (ts : List T4) (n c : Nat) (A1 : Option Addr) (plan : List (List Int)) (m1 c1 : Nat) (A2 : Option Addr) (bs : List (List Int)) (m2 c2 : Nat) (w : World)
 (hn : n = ts.length) (hA : RT w A ts) (hnc : n ≤ c) (hl : n ≤ 35184372088832) (hm1 : m1 = plan.length) (hA1 : RR w A1 plan) (hc1 : m1 ≤ c1) (hl1 : m1 ≤ 10000000 ∧ rowsz0 plan ≤ 10000000) (hm2 : m2 = bs.length) (hA2 : RR w A2 bs) (hc2 : m2 ≤ c2) (hl2 : m2 ≤ 10000000 ∧ rowsz0 bs ≤ 10000000) :
 Calls Try.prog 31 #[.agg #[.int .i64 C, .slice A n c], .slice A1 m1 c1, .slice A2 m2 c2] w fun e w' => ∃ v xs code, listF C ts plan bs = (xs, code) ∧ e = .returned (.tuple #[v, .int .i64 code]) ∧ OWT w' w.heap.size w'.heap.size v xs (fun i j => icells (rowAt (at3 xs i) j)) ∧ Below w.heap.size w w' :=
 (specList_any C A ts n c A1 plan m1 c1 A2 bs m2 c2 w hn hA hnc hl hm1 hA1 hc1 hl1 hm2 hA2 hc2 hl2).mono fun e w' ⟨v, he, hO, hB⟩ => ⟨v, _, _, rfl, he, hO, hB⟩
theorem implFillingList_any (C : Int) (A : Option Addr) (ts : List T4) (n c : Nat) (A1 : Option Addr) (plan : List (List Int)) (m1 c1 : Nat) (A2 : Option Addr) (bs : List (List Int)) (m2 c2 : Nat) (w : World)
 (hn : n = ts.length) (hA : RT w A ts) (hnc : n ≤ c) (hl : n ≤ 35184372088832) (hm1 : m1 = plan.length) (hA1 : RR w A1 plan) (hc1 : m1 ≤ c1) (hl1 : m1 ≤ 10000000 ∧ rowsz0 plan ≤ 10000000) (hm2 : m2 = bs.length) (hA2 : RR w A2 bs) (hc2 : m2 ≤ c2) (hl2 : m2 ≤ 10000000 ∧ rowsz0 bs ≤ 10000000) :
 Calls Try.prog 32 #[.agg #[.int .i64 C, .slice A n c], .slice A1 m1 c1, .slice A2 m2 c2] w fun e w' => ∃ v xs code, listF C ts plan bs = (xs, code) ∧ e = .returned (.tuple #[v, .int .i64 code]) ∧ OWT w' w.heap.size w'.heap.size v xs (fun i j => icells (rowAt (at3 xs i) j)) ∧ Below w.heap.size w w' :=
 (implList_any C A ts n c A1 plan m1 c1 A2 bs m2 c2 w hn hA hnc hl hm1 hA1 hc1 hl1 hm2 hA2 hc2 hl2).mono fun e w' ⟨v, he, hO, hB⟩ => ⟨v, _, _, rfl, he, hO, hB⟩
theorem tot_le9 (f : Nat → Nat) (b : Nat) (h : ∀ j, f j ≤ b) : ∀ j, tot f j ≤ j * b := by
 intro j
 induction j with
 | zero => simp [tot]
 | succ j ih => rw [tot, Nat.succ_mul]; have := h j; omega
theorem cutR_row (w : Nat) : ∀ (h : Nat) (xs : List Int) (j : Nat), rowLen (cutR w h xs) j ≤ w := by
 intro h xs j
 unfold rowLen rowAt
 by_cases hj : j < h
 ·rw [cutR_at _ _ _ _ hj]; exact List.length_take_le _ _
 ·rw [List.getD_eq_getElem?_getD, List.getElem?_eq_none (by rw [cutR_len]; omega)]; simp
theorem listF_len (C : Int) (ts : List T4) (plan bs : List (List Int)) : (listF C ts plan bs).1.length ≤ 1000000 ∧ rowsz3 (listF C ts plan bs).1 ≤ 40000000 := by
 unfold listF
 split
 ·rename_i h
  obtain ⟨-, hsh⟩ := planR_zero' h
  split
  ·exact ⟨by simp, by simp [rowsz3, tot]⟩
  ·rename_i hh
   have h5 := hsh.h5; have w5 := hsh.w5
   have hle : (fillsF C.toNat plan bs (ts.map toS)).length ≤ 60 := by
    have h1 := ways_len (stepS C.toNat plan bs (ts.map toS)) (ts.map toS).length (places plan) 0 0
    have h2 : numS C.toNat plan bs (ts.map toS) = onw (stepS C.toNat plan bs (ts.map toS)) (ts.map toS).length (places plan) 0 0 := by unfold numS onS; rw [Nat.sub_zero]
    unfold fillsF
    omega
   generalize fillsF C.toNat plan bs (ts.map toS) = xs at hle
   refine ⟨by simp; omega, ?_⟩
   show rowsz3 (xs.map (cutR (rowLen plan 0) plan.length)) ≤ 40000000
   have hb : ∀ j, num3 (xs.map (cutR (rowLen plan 0) plan.length)) j ≤ 25 := by
    intro j
    unfold num3 at3
    by_cases hj : j < xs.length
    ·rw [List.getD_eq_getElem?_getD, List.getElem?_map, List.getElem?_eq_getElem hj]
     show rowsz0 (cutR (rowLen plan 0) plan.length xs[j]) ≤ 25
     unfold rowsz0
     rw [cutR_len]
     have h1 := tot_le9 (rowLen (cutR (rowLen plan 0) plan.length xs[j])) 5 (fun j => Nat.le_trans (cutR_row _ _ _ _) w5) plan.length
     omega
    ·rw [List.getD_eq_getElem?_getD, List.getElem?_eq_none (by rw [List.length_map]; omega)]
     show rowsz0 [] ≤ 25
     simp [rowsz0, tot]
   have h1 := tot_le9 _ 25 hb (xs.map (cutR (rowLen plan 0) plan.length)).length
   unfold rowsz3
   rw [List.length_map] at h1 ⊢
   omega
 ·exact ⟨by simp, by simp [rowsz3, tot]⟩
set_option maxHeartbeats 16000000 in
set_option maxRecDepth 100000 in
theorem lawFillingList_any (w : World) (C0 : Int) (A0 : Option Addr) (ts0 : List T4) (n0 c0 : Nat) (hn0 : n0 = ts0.length) (hA0 : RT w A0 ts0) (hnc0 : n0 ≤ c0) (hl0 : n0 ≤ 35184372088832) (hC0 : -9223372036854775808 ≤ C0 ∧ C0 ≤ 9223372036854775807) (A1 : Option Addr) (ts1 : List (List Int)) (n1 c1 : Nat) (hn1 : n1 = ts1.length) (hA1 : RR w A1 ts1) (hnc1 : n1 ≤ c1) (hl1 : n1 ≤ 35184372088832) (A2 : Option Addr) (ts2 : List (List Int)) (n2 c2 : Nat) (hn2 : n2 = ts2.length) (hA2 : RR w A2 ts2) (hnc2 : n2 ≤ c2) (hl2 : n2 ≤ 35184372088832) :
 Calls Try.prog 9 #[.agg #[.int .i64 C0, .slice A0 n0 c0], .slice A1 n1 c1, .slice A2 n2 c2] w fun e w' => e = .returned (.bool true) ∧ Below w.heap.size w w' := by
 subst hn0
 have HA0 := Lib.hid hA0; clear hA0
 subst hn1
 have HA1 := Lib.hid hA1; clear hA1
 subst hn2
 have HA2 := Lib.hid hA2; clear hA2
 by_cases hbig0 : (1048576 : Int) < ((ts0.length : Nat) : Int)
 ·go_enter Try.func9, Try.ntmps9
  go_wp2_with fail
  refine namec1 ?_
  intro w1 b0 hz hB
  have tw1 : w.heap.size + 1 ≤ w1.heap.size := by omega
  clear hz
  have sw1 : w.heap.size ≤ w1.heap.size := hB.size
  have hE := Lib.hid (hB)
  clear hB
  refine (szSet_any C0 A0 ts0.length c0 (1048576) w1 (by omega) (by omega) (by omega)).mono ?_
  rintro e w2 ⟨rfl, hB⟩
  rw [if_pos (show (1048576 : Int) < (ts0.length : Nat) by omega)]
  replace b0 := b0.below hB b0.lt
  have sw2 : w1.heap.size ≤ w2.heap.size := hB.size
  replace hE := Lib.hid (below_to hE.out hB)
  clear hB
  go_wp2_with fail
  go_ret
  exact ⟨rfl, hE.out⟩
 ·replace hbig0 : ((ts0.length : Nat) : Int) ≤ 1048576 := by omega
  by_cases hbig1 : ((1048576 - ((ts0.length : Nat) : Int)) : Int) < (((ts1.length + rowsz0 ts1) : Nat) : Int)
  ·go_enter Try.func9, Try.ntmps9
   go_wp2_with fail
   refine namec1 ?_
   intro w1 b0 hz hB
   have tw1 : w.heap.size + 1 ≤ w1.heap.size := by omega
   clear hz
   have sw1 : w.heap.size ≤ w1.heap.size := hB.size
   have hE := Lib.hid (hB)
   clear hB
   refine (szSet_any C0 A0 ts0.length c0 (1048576) w1 (by omega) (by omega) (by omega)).mono ?_
   rintro e w2 ⟨rfl, hB⟩
   rw [if_neg (show ¬ (1048576 : Int) < (ts0.length : Nat) by omega)]
   replace b0 := b0.below hB b0.lt
   have sw2 : w1.heap.size ≤ w2.heap.size := hB.size
   replace hE := Lib.hid (below_to hE.out hB)
   clear hB
   have l0 := b0.lt
   have c0_0 : w2.cell? ⟨w.heap.size, 0, none⟩ = some (.int .i64 C0) := b0.cell rfl
   have c0_1 : w2.cell? ⟨w.heap.size, 1, none⟩ = some (.slice A0 ts0.length c0) := b0.cell rfl
   go_wp2_with fail
   clear l0 c0_0 c0_1
   refine (szInt64SS_any A1 ts1 ts1.length c1 ((1048576 - ((ts0.length : Nat) : Int))) w2 rfl (HA1.out.below hE.out) hnc1 (by omega) (by omega) (by omega)).mono ?_
   rintro e w3 ⟨rfl, hB⟩
   rw [if_pos (show ((1048576 - ((ts0.length : Nat) : Int)) : Int) < ((ts1.length + rowsz0 ts1) : Nat) by omega)]
   replace b0 := b0.below hB b0.lt
   have sw3 : w2.heap.size ≤ w3.heap.size := hB.size
   replace hE := Lib.hid (below_to hE.out hB)
   clear hB
   go_wp2_with fail
   go_ret
   exact ⟨rfl, hE.out⟩
  ·replace hbig1 : (((ts1.length + rowsz0 ts1) : Nat) : Int) ≤ (1048576 - ((ts0.length : Nat) : Int)) := by omega
   by_cases hbig2 : (((1048576 - ((ts0.length : Nat) : Int)) - (((ts1.length + rowsz0 ts1) : Nat) : Int)) : Int) < (((ts2.length + rowsz0 ts2) : Nat) : Int)
   ·go_enter Try.func9, Try.ntmps9
    go_wp2_with fail
    refine namec1 ?_
    intro w1 b0 hz hB
    have tw1 : w.heap.size + 1 ≤ w1.heap.size := by omega
    clear hz
    have sw1 : w.heap.size ≤ w1.heap.size := hB.size
    have hE := Lib.hid (hB)
    clear hB
    refine (szSet_any C0 A0 ts0.length c0 (1048576) w1 (by omega) (by omega) (by omega)).mono ?_
    rintro e w2 ⟨rfl, hB⟩
    rw [if_neg (show ¬ (1048576 : Int) < (ts0.length : Nat) by omega)]
    replace b0 := b0.below hB b0.lt
    have sw2 : w1.heap.size ≤ w2.heap.size := hB.size
    replace hE := Lib.hid (below_to hE.out hB)
    clear hB
    have l0 := b0.lt
    have c0_0 : w2.cell? ⟨w.heap.size, 0, none⟩ = some (.int .i64 C0) := b0.cell rfl
    have c0_1 : w2.cell? ⟨w.heap.size, 1, none⟩ = some (.slice A0 ts0.length c0) := b0.cell rfl
    go_wp2_with fail
    clear l0 c0_0 c0_1
    refine (szInt64SS_any A1 ts1 ts1.length c1 ((1048576 - ((ts0.length : Nat) : Int))) w2 rfl (HA1.out.below hE.out) hnc1 (by omega) (by omega) (by omega)).mono ?_
    rintro e w3 ⟨rfl, hB⟩
    rw [if_neg (show ¬ ((1048576 - ((ts0.length : Nat) : Int)) : Int) < ((ts1.length + rowsz0 ts1) : Nat) by omega)]
    replace b0 := b0.below hB b0.lt
    have sw3 : w2.heap.size ≤ w3.heap.size := hB.size
    replace hE := Lib.hid (below_to hE.out hB)
    clear hB
    have l0 := b0.lt
    have c0_0 : w3.cell? ⟨w.heap.size, 0, none⟩ = some (.int .i64 C0) := b0.cell rfl
    have c0_1 : w3.cell? ⟨w.heap.size, 1, none⟩ = some (.slice A0 ts0.length c0) := b0.cell rfl
    go_wp2_with fail
    clear l0 c0_0 c0_1
    refine (szInt64SS_any A2 ts2 ts2.length c2 (((1048576 - ((ts0.length : Nat) : Int)) - (((ts1.length + rowsz0 ts1) : Nat) : Int))) w3 rfl (HA2.out.below hE.out) hnc2 (by omega) (by omega) (by omega)).mono ?_
    rintro e w4 ⟨rfl, hB⟩
    rw [if_pos (show (((1048576 - ((ts0.length : Nat) : Int)) - (((ts1.length + rowsz0 ts1) : Nat) : Int)) : Int) < ((ts2.length + rowsz0 ts2) : Nat) by omega)]
    replace b0 := b0.below hB b0.lt
    have sw4 : w3.heap.size ≤ w4.heap.size := hB.size
    replace hE := Lib.hid (below_to hE.out hB)
    clear hB
    go_wp2_with fail
    go_ret
    exact ⟨rfl, hE.out⟩
   ·replace hbig2 : (((ts2.length + rowsz0 ts2) : Nat) : Int) ≤ ((1048576 - ((ts0.length : Nat) : Int)) - (((ts1.length + rowsz0 ts1) : Nat) : Int)) := by omega
    obtain ⟨r_, hr_⟩ : ∃ r, listF C0 ts0 ts1 ts2 = r := ⟨_, rfl⟩
    obtain ⟨r1, r2⟩ := r_
    have hb1 : r1.length ≤ 1000000 ∧ rowsz3 r1 ≤ 40000000 := by have h_ := listF_len C0 ts0 ts1 ts2; rw [hr_] at h_; exact h_
    have HR := Lib.hid hr_; clear hr_
    go_enter Try.func9, Try.ntmps9
    go_wp2_with fail
    refine namec1 ?_
    intro w1 b0 hz hB
    have tw1 : w.heap.size + 1 ≤ w1.heap.size := by omega
    clear hz
    have sw1 : w.heap.size ≤ w1.heap.size := hB.size
    have hE := Lib.hid (hB)
    clear hB
    refine (szSet_any C0 A0 ts0.length c0 (1048576) w1 (by omega) (by omega) (by omega)).mono ?_
    rintro e w2 ⟨rfl, hB⟩
    rw [if_neg (show ¬ (1048576 : Int) < (ts0.length : Nat) by omega)]
    replace b0 := b0.below hB b0.lt
    have sw2 : w1.heap.size ≤ w2.heap.size := hB.size
    replace hE := Lib.hid (below_to hE.out hB)
    clear hB
    have l0 := b0.lt
    have c0_0 : w2.cell? ⟨w.heap.size, 0, none⟩ = some (.int .i64 C0) := b0.cell rfl
    have c0_1 : w2.cell? ⟨w.heap.size, 1, none⟩ = some (.slice A0 ts0.length c0) := b0.cell rfl
    go_wp2_with fail
    clear l0 c0_0 c0_1
    refine (szInt64SS_any A1 ts1 ts1.length c1 ((1048576 - ((ts0.length : Nat) : Int))) w2 rfl (HA1.out.below hE.out) hnc1 (by omega) (by omega) (by omega)).mono ?_
    rintro e w3 ⟨rfl, hB⟩
    rw [if_neg (show ¬ ((1048576 - ((ts0.length : Nat) : Int)) : Int) < ((ts1.length + rowsz0 ts1) : Nat) by omega)]
    replace b0 := b0.below hB b0.lt
    have sw3 : w2.heap.size ≤ w3.heap.size := hB.size
    replace hE := Lib.hid (below_to hE.out hB)
    clear hB
    have l0 := b0.lt
    have c0_0 : w3.cell? ⟨w.heap.size, 0, none⟩ = some (.int .i64 C0) := b0.cell rfl
    have c0_1 : w3.cell? ⟨w.heap.size, 1, none⟩ = some (.slice A0 ts0.length c0) := b0.cell rfl
    go_wp2_with fail
    clear l0 c0_0 c0_1
    refine (szInt64SS_any A2 ts2 ts2.length c2 (((1048576 - ((ts0.length : Nat) : Int)) - (((ts1.length + rowsz0 ts1) : Nat) : Int))) w3 rfl (HA2.out.below hE.out) hnc2 (by omega) (by omega) (by omega)).mono ?_
    rintro e w4 ⟨rfl, hB⟩
    rw [if_neg (show ¬ (((1048576 - ((ts0.length : Nat) : Int)) - (((ts1.length + rowsz0 ts1) : Nat) : Int)) : Int) < ((ts2.length + rowsz0 ts2) : Nat) by omega)]
    replace b0 := b0.below hB b0.lt
    have sw4 : w3.heap.size ≤ w4.heap.size := hB.size
    replace hE := Lib.hid (below_to hE.out hB)
    clear hB
    have l0 := b0.lt
    have c0_0 : w4.cell? ⟨w.heap.size, 0, none⟩ = some (.int .i64 C0) := b0.cell rfl
    have c0_1 : w4.cell? ⟨w.heap.size, 1, none⟩ = some (.slice A0 ts0.length c0) := b0.cell rfl
    go_wp2_with fail
    clear l0 c0_0 c0_1
    refine (toSet_any C0 A0 ts0 ts0.length c0 w4 rfl (HA0.out.below hE.out) (by omega)).mono ?_
    rintro e w5 ⟨v_, rfl, hO, hB⟩
    obtain ⟨A1_, c1_, rfl, -, -⟩ := hO.reads
    have O1 := Lib.hid (OW.of hO)
    clear hO
    replace b0 := b0.below hB b0.lt
    have sw5 : w4.heap.size ≤ w5.heap.size := hB.size
    replace hE := Lib.hid (below_to hE.out hB)
    clear hB
    have l0 := b0.lt
    have c0_0 : w5.cell? ⟨w.heap.size, 0, none⟩ = some (.int .i64 C0) := b0.cell rfl
    have c0_1 : w5.cell? ⟨w.heap.size, 1, none⟩ = some (.slice A0 ts0.length c0) := b0.cell rfl
    go_wp2_with fail
    clear l0 c0_0 c0_1
    refine (toInt64SS_any A1 ts1 ts1.length c1 w5 rfl (HA1.out.below hE.out) hnc1 (by omega)).mono ?_
    rintro e w6 ⟨v_, rfl, hO, hB⟩
    obtain ⟨A2_, c2_, rfl⟩ := hO.form0
    have O2 := Lib.hid hO
    clear hO
    replace b0 := b0.below hB b0.lt
    replace O1 := Lib.hid (O1.out.to hB)
    have sw6 : w5.heap.size ≤ w6.heap.size := hB.size
    replace hE := Lib.hid (below_to hE.out hB)
    clear hB
    have l0 := b0.lt
    have c0_0 : w6.cell? ⟨w.heap.size, 0, none⟩ = some (.int .i64 C0) := b0.cell rfl
    have c0_1 : w6.cell? ⟨w.heap.size, 1, none⟩ = some (.slice A0 ts0.length c0) := b0.cell rfl
    go_wp2_with fail
    clear l0 c0_0 c0_1
    refine (toInt64SS_any A2 ts2 ts2.length c2 w6 rfl (HA2.out.below hE.out) hnc2 (by omega)).mono ?_
    rintro e w7 ⟨v_, rfl, hO, hB⟩
    obtain ⟨A3_, c3_, rfl⟩ := hO.form0
    have O3 := Lib.hid hO
    clear hO
    replace b0 := b0.below hB b0.lt
    replace O1 := Lib.hid (O1.out.to hB)
    replace O2 := Lib.hid (O2.out.to hB)
    have sw7 : w6.heap.size ≤ w7.heap.size := hB.size
    replace hE := Lib.hid (below_to hE.out hB)
    clear hB
    have l0 := b0.lt
    have c0_0 : w7.cell? ⟨w.heap.size, 0, none⟩ = some (.int .i64 C0) := b0.cell rfl
    have c0_1 : w7.cell? ⟨w.heap.size, 1, none⟩ = some (.slice A0 ts0.length c0) := b0.cell rfl
    go_wp2_with fail
    clear l0 c0_0 c0_1
    refine (specFillingList_any C0 A1_ ts0 ts0.length c1_ A2_ ts1 ts1.length c2_ A3_ ts2 ts2.length c3_ w7 rfl (rt_of O1.out rfl) (le_of O1.out) (by omega) rfl (rr_of O2.out rfl) (le_ofS O2.out) (by omega) rfl (rr_of O3.out rfl) (le_ofS O3.out) (by omega)).mono ?_
    rintro e w8 ⟨v0_, x0_, x1_, hR_, rfl, hO0, hB⟩
    obtain ⟨rfl, rfl⟩ : r1 = x0_ ∧ r2 = x1_ := (by have h_ := HR.out.symm.trans hR_; simpa using h_)
    clear hR_
    obtain ⟨A4_, c4_, rfl⟩ := hO0.form0
    have O4 := Lib.hid hO0
    clear hO0
    replace b0 := b0.below hB b0.lt
    replace O1 := Lib.hid (O1.out.to hB)
    replace O2 := Lib.hid (O2.out.to hB)
    replace O3 := Lib.hid (O3.out.to hB)
    have sw8 : w7.heap.size ≤ w8.heap.size := hB.size
    replace hE := Lib.hid (below_to hE.out hB)
    clear hB
    have l0 := b0.lt
    have c0_0 : w8.cell? ⟨w.heap.size, 0, none⟩ = some (.int .i64 C0) := b0.cell rfl
    have c0_1 : w8.cell? ⟨w.heap.size, 1, none⟩ = some (.slice A0 ts0.length c0) := b0.cell rfl
    go_wp2_with fail
    clear l0 c0_0 c0_1
    refine (toSet_any C0 A0 ts0 ts0.length c0 w8 rfl (HA0.out.below hE.out) (by omega)).mono ?_
    rintro e w9 ⟨v_, rfl, hO, hB⟩
    obtain ⟨A5_, c5_, rfl, -, -⟩ := hO.reads
    have O5 := Lib.hid (OW.of hO)
    clear hO
    replace b0 := b0.below hB b0.lt
    replace O1 := Lib.hid (O1.out.to hB)
    replace O2 := Lib.hid (O2.out.to hB)
    replace O3 := Lib.hid (O3.out.to hB)
    replace O4 := Lib.hid (O4.out.to hB)
    have sw9 : w8.heap.size ≤ w9.heap.size := hB.size
    replace hE := Lib.hid (below_to hE.out hB)
    clear hB
    have l0 := b0.lt
    have c0_0 : w9.cell? ⟨w.heap.size, 0, none⟩ = some (.int .i64 C0) := b0.cell rfl
    have c0_1 : w9.cell? ⟨w.heap.size, 1, none⟩ = some (.slice A0 ts0.length c0) := b0.cell rfl
    go_wp2_with fail
    clear l0 c0_0 c0_1
    refine namec1 ?_
    intro w10 b1 hz hB
    have tw10 : w9.heap.size + 1 ≤ w10.heap.size := by omega
    clear hz
    replace b0 := b0.below hB b0.lt
    replace O1 := Lib.hid (O1.out.to hB)
    replace O2 := Lib.hid (O2.out.to hB)
    replace O3 := Lib.hid (O3.out.to hB)
    replace O4 := Lib.hid (O4.out.to hB)
    replace O5 := Lib.hid (O5.out.to hB)
    have sw10 : w9.heap.size ≤ w10.heap.size := hB.size
    replace hE := Lib.hid (below_to hE.out hB)
    clear hB
    refine (toInt64SS_any A1 ts1 ts1.length c1 w10 rfl (HA1.out.below hE.out) hnc1 (by omega)).mono ?_
    rintro e w11 ⟨v_, rfl, hO, hB⟩
    obtain ⟨A6_, c6_, rfl⟩ := hO.form0
    have O6 := Lib.hid hO
    clear hO
    replace b0 := b0.below hB b0.lt
    replace b1 := b1.below hB b1.lt
    replace O1 := Lib.hid (O1.out.to hB)
    replace O2 := Lib.hid (O2.out.to hB)
    replace O3 := Lib.hid (O3.out.to hB)
    replace O4 := Lib.hid (O4.out.to hB)
    replace O5 := Lib.hid (O5.out.to hB)
    have sw11 : w10.heap.size ≤ w11.heap.size := hB.size
    replace hE := Lib.hid (below_to hE.out hB)
    clear hB
    have l0 := b0.lt
    have c0_0 : w11.cell? ⟨w.heap.size, 0, none⟩ = some (.int .i64 C0) := b0.cell rfl
    have c0_1 : w11.cell? ⟨w.heap.size, 1, none⟩ = some (.slice A0 ts0.length c0) := b0.cell rfl
    have l1 := b1.lt
    have c1_0 : w11.cell? ⟨w9.heap.size, 0, none⟩ = some (.int .i64 C0) := b1.cell rfl
    have c1_1 : w11.cell? ⟨w9.heap.size, 1, none⟩ = some (.slice A5_ ts0.length c5_) := b1.cell rfl
    go_wp2_with fail
    clear l0 c0_0 c0_1 l1 c1_0 c1_1
    refine (toInt64SS_any A2 ts2 ts2.length c2 w11 rfl (HA2.out.below hE.out) hnc2 (by omega)).mono ?_
    rintro e w12 ⟨v_, rfl, hO, hB⟩
    obtain ⟨A7_, c7_, rfl⟩ := hO.form0
    have O7 := Lib.hid hO
    clear hO
    replace b0 := b0.below hB b0.lt
    replace b1 := b1.below hB b1.lt
    replace O1 := Lib.hid (O1.out.to hB)
    replace O2 := Lib.hid (O2.out.to hB)
    replace O3 := Lib.hid (O3.out.to hB)
    replace O4 := Lib.hid (O4.out.to hB)
    replace O5 := Lib.hid (O5.out.to hB)
    replace O6 := Lib.hid (O6.out.to hB)
    have sw12 : w11.heap.size ≤ w12.heap.size := hB.size
    replace hE := Lib.hid (below_to hE.out hB)
    clear hB
    have l0 := b0.lt
    have c0_0 : w12.cell? ⟨w.heap.size, 0, none⟩ = some (.int .i64 C0) := b0.cell rfl
    have c0_1 : w12.cell? ⟨w.heap.size, 1, none⟩ = some (.slice A0 ts0.length c0) := b0.cell rfl
    have l1 := b1.lt
    have c1_0 : w12.cell? ⟨w9.heap.size, 0, none⟩ = some (.int .i64 C0) := b1.cell rfl
    have c1_1 : w12.cell? ⟨w9.heap.size, 1, none⟩ = some (.slice A5_ ts0.length c5_) := b1.cell rfl
    go_wp2_with fail
    clear l0 c0_0 c0_1 l1 c1_0 c1_1
    refine (implFillingList_any C0 A5_ ts0 ts0.length c5_ A6_ ts1 ts1.length c6_ A7_ ts2 ts2.length c7_ w12 rfl (rt_of O5.out rfl) (le_of O5.out) (by omega) rfl (rr_of O6.out rfl) (le_ofS O6.out) (by omega) rfl (rr_of O7.out rfl) (le_ofS O7.out) (by omega)).mono ?_
    rintro e w13 ⟨v0_, x0_, x1_, hR_, rfl, hO0, hB⟩
    obtain ⟨rfl, rfl⟩ : r1 = x0_ ∧ r2 = x1_ := (by have h_ := HR.out.symm.trans hR_; simpa using h_)
    clear hR_
    obtain ⟨A8_, c8_, rfl⟩ := hO0.form0
    have O8 := Lib.hid hO0
    clear hO0
    replace b0 := b0.below hB b0.lt
    replace b1 := b1.below hB b1.lt
    replace O1 := Lib.hid (O1.out.to hB)
    replace O2 := Lib.hid (O2.out.to hB)
    replace O3 := Lib.hid (O3.out.to hB)
    replace O4 := Lib.hid (O4.out.to hB)
    replace O5 := Lib.hid (O5.out.to hB)
    replace O6 := Lib.hid (O6.out.to hB)
    replace O7 := Lib.hid (O7.out.to hB)
    have sw13 : w12.heap.size ≤ w13.heap.size := hB.size
    replace hE := Lib.hid (below_to hE.out hB)
    clear hB
    have l0 := b0.lt
    have c0_0 : w13.cell? ⟨w.heap.size, 0, none⟩ = some (.int .i64 C0) := b0.cell rfl
    have c0_1 : w13.cell? ⟨w.heap.size, 1, none⟩ = some (.slice A0 ts0.length c0) := b0.cell rfl
    have l1 := b1.lt
    have c1_0 : w13.cell? ⟨w9.heap.size, 0, none⟩ = some (.int .i64 C0) := b1.cell rfl
    have c1_1 : w13.cell? ⟨w9.heap.size, 1, none⟩ = some (.slice A5_ ts0.length c5_) := b1.cell rfl
    go_wp2_with fail
    clear l0 c0_0 c0_1 l1 c1_0 c1_1
    refine (eqInt64SSS_any A8_ A4_ r1 r1 r1.length r1.length c8_ c4_ w13 rfl rfl (r3_of O8.out rfl) (r3_of O4.out rfl) (by omega) (by omega)).mono ?_
    rintro e w14 ⟨rfl, hB⟩
    simp only [decide_true, Bool.and_self]
    replace b0 := b0.below hB b0.lt
    replace b1 := b1.below hB b1.lt
    replace O1 := Lib.hid (O1.out.to hB)
    replace O2 := Lib.hid (O2.out.to hB)
    replace O3 := Lib.hid (O3.out.to hB)
    replace O4 := Lib.hid (O4.out.to hB)
    replace O5 := Lib.hid (O5.out.to hB)
    replace O6 := Lib.hid (O6.out.to hB)
    replace O7 := Lib.hid (O7.out.to hB)
    replace O8 := Lib.hid (O8.out.to hB)
    have sw14 : w13.heap.size ≤ w14.heap.size := hB.size
    replace hE := Lib.hid (below_to hE.out hB)
    clear hB
    have l0 := b0.lt
    have c0_0 : w14.cell? ⟨w.heap.size, 0, none⟩ = some (.int .i64 C0) := b0.cell rfl
    have c0_1 : w14.cell? ⟨w.heap.size, 1, none⟩ = some (.slice A0 ts0.length c0) := b0.cell rfl
    have l1 := b1.lt
    have c1_0 : w14.cell? ⟨w9.heap.size, 0, none⟩ = some (.int .i64 C0) := b1.cell rfl
    have c1_1 : w14.cell? ⟨w9.heap.size, 1, none⟩ = some (.slice A5_ ts0.length c5_) := b1.cell rfl
    go_wp2_with fail
    clear l0 c0_0 c0_1 l1 c1_0 c1_1
    have hD : Below w14.heap.size w14 w14.drew := (Below.refl _ _).drew
    replace b0 := b0.below hD b0.lt
    replace b1 := b1.below hD b1.lt
    replace O1 := Lib.hid (O1.out.to hD)
    replace O2 := Lib.hid (O2.out.to hD)
    replace O3 := Lib.hid (O3.out.to hD)
    replace O4 := Lib.hid (O4.out.to hD)
    replace O5 := Lib.hid (O5.out.to hD)
    replace O6 := Lib.hid (O6.out.to hD)
    replace O7 := Lib.hid (O7.out.to hD)
    replace O8 := Lib.hid (O8.out.to hD)
    replace hE := Lib.hid (below_to hE.out hD)
    clear hD
    have d1_w14 : w14.heap.size ≤ w14.drew.heap.size := Nat.le_refl _
    have d2_w14 : w14.drew.heap.size ≤ w14.heap.size := Nat.le_refl _
    go_region_held3 (fun w_ => w_.cell? ⟨w.heap.size, 0, none⟩ = some (.int .i64 C0) ∧ w_.cell? ⟨w.heap.size, 1, none⟩ = some (.slice A0 ts0.length c0) ∧ w_.cell? ⟨w9.heap.size, 0, none⟩ = some (.int .i64 C0) ∧ w_.cell? ⟨w9.heap.size, 1, none⟩ = some (.slice A5_ ts0.length c5_)) (first | exact ⟨b0.cell rfl, b0.cell rfl, b1.cell rfl, b1.cell rfl⟩)
     (first
      | (go_at_call 17; refine (toSet_any C0 A0 ts0 ts0.length c0 w14.drew rfl (HA0.out.below hE.out) (by omega)).mono ?_; rintro e w15 ⟨v_, rfl, hO, hB⟩; obtain ⟨A9_, c9_, rfl, -, -⟩ := hO.reads; have O9 := Lib.hid (OW.of hO); clear hO; replace b0 := b0.below hB b0.lt; replace b1 := b1.below hB b1.lt; replace O1 := Lib.hid (O1.out.to hB); replace O2 := Lib.hid (O2.out.to hB); replace O3 := Lib.hid (O3.out.to hB); replace O4 := Lib.hid (O4.out.to hB); replace O5 := Lib.hid (O5.out.to hB); replace O6 := Lib.hid (O6.out.to hB); replace O7 := Lib.hid (O7.out.to hB); replace O8 := Lib.hid (O8.out.to hB); have sw15 : w14.drew.heap.size ≤ w15.heap.size := hB.size; replace hE := Lib.hid (below_to hE.out hB); clear hB)
      | (go_at_call 19; refine (eqSet_any C0 C0 A5_ A9_ ts0 ts0 ts0.length ts0.length c5_ c9_ w15 rfl rfl (rt_of O5.out rfl) (rt_of O9.out rfl) (by omega) (by omega)).mono ?_; rintro e w16 ⟨rfl, hB⟩; simp only [decide_true, Bool.and_self]; replace b0 := b0.below hB b0.lt; replace b1 := b1.below hB b1.lt; replace O1 := Lib.hid (O1.out.to hB); replace O2 := Lib.hid (O2.out.to hB); replace O3 := Lib.hid (O3.out.to hB); replace O4 := Lib.hid (O4.out.to hB); replace O5 := Lib.hid (O5.out.to hB); replace O6 := Lib.hid (O6.out.to hB); replace O7 := Lib.hid (O7.out.to hB); replace O8 := Lib.hid (O8.out.to hB); replace O9 := Lib.hid (O9.out.to hB); have sw16 : w15.heap.size ≤ w16.heap.size := hB.size; replace hE := Lib.hid (below_to hE.out hB); clear hB))
    have l0 := b0.lt
    have c0_0 : w16.cell? ⟨w.heap.size, 0, none⟩ = some (.int .i64 C0) := b0.cell rfl
    have c0_1 : w16.cell? ⟨w.heap.size, 1, none⟩ = some (.slice A0 ts0.length c0) := b0.cell rfl
    have l1 := b1.lt
    have c1_0 : w16.cell? ⟨w9.heap.size, 0, none⟩ = some (.int .i64 C0) := b1.cell rfl
    have c1_1 : w16.cell? ⟨w9.heap.size, 1, none⟩ = some (.slice A5_ ts0.length c5_) := b1.cell rfl
    go_wp2_with fail
    clear l0 c0_0 c0_1 l1 c1_0 c1_1
    refine (toInt64SS_any A1 ts1 ts1.length c1 w16 rfl (HA1.out.below hE.out) hnc1 (by omega)).mono ?_
    rintro e w17 ⟨v_, rfl, hO, hB⟩
    obtain ⟨A10_, c10_, rfl⟩ := hO.form0
    have O10 := Lib.hid hO
    clear hO
    replace b0 := b0.below hB b0.lt
    replace b1 := b1.below hB b1.lt
    replace O1 := Lib.hid (O1.out.to hB)
    replace O2 := Lib.hid (O2.out.to hB)
    replace O3 := Lib.hid (O3.out.to hB)
    replace O4 := Lib.hid (O4.out.to hB)
    replace O5 := Lib.hid (O5.out.to hB)
    replace O6 := Lib.hid (O6.out.to hB)
    replace O7 := Lib.hid (O7.out.to hB)
    replace O8 := Lib.hid (O8.out.to hB)
    replace O9 := Lib.hid (O9.out.to hB)
    have sw17 : w16.heap.size ≤ w17.heap.size := hB.size
    replace hE := Lib.hid (below_to hE.out hB)
    clear hB
    have l0 := b0.lt
    have c0_0 : w17.cell? ⟨w.heap.size, 0, none⟩ = some (.int .i64 C0) := b0.cell rfl
    have c0_1 : w17.cell? ⟨w.heap.size, 1, none⟩ = some (.slice A0 ts0.length c0) := b0.cell rfl
    have l1 := b1.lt
    have c1_0 : w17.cell? ⟨w9.heap.size, 0, none⟩ = some (.int .i64 C0) := b1.cell rfl
    have c1_1 : w17.cell? ⟨w9.heap.size, 1, none⟩ = some (.slice A5_ ts0.length c5_) := b1.cell rfl
    go_wp2_with fail
    clear l0 c0_0 c0_1 l1 c1_0 c1_1
    refine (eqInt64SS_any A6_ A10_ ts1 ts1 ts1.length ts1.length c6_ c10_ w17 rfl rfl (rr_of O6.out rfl) (rr_of O10.out rfl) (by omega) (by omega)).mono ?_
    rintro e w18 ⟨rfl, hB⟩
    simp only [decide_true, Bool.and_self]
    replace b0 := b0.below hB b0.lt
    replace b1 := b1.below hB b1.lt
    replace O1 := Lib.hid (O1.out.to hB)
    replace O2 := Lib.hid (O2.out.to hB)
    replace O3 := Lib.hid (O3.out.to hB)
    replace O4 := Lib.hid (O4.out.to hB)
    replace O5 := Lib.hid (O5.out.to hB)
    replace O6 := Lib.hid (O6.out.to hB)
    replace O7 := Lib.hid (O7.out.to hB)
    replace O8 := Lib.hid (O8.out.to hB)
    replace O9 := Lib.hid (O9.out.to hB)
    replace O10 := Lib.hid (O10.out.to hB)
    have sw18 : w17.heap.size ≤ w18.heap.size := hB.size
    replace hE := Lib.hid (below_to hE.out hB)
    clear hB
    have l0 := b0.lt
    have c0_0 : w18.cell? ⟨w.heap.size, 0, none⟩ = some (.int .i64 C0) := b0.cell rfl
    have c0_1 : w18.cell? ⟨w.heap.size, 1, none⟩ = some (.slice A0 ts0.length c0) := b0.cell rfl
    have l1 := b1.lt
    have c1_0 : w18.cell? ⟨w9.heap.size, 0, none⟩ = some (.int .i64 C0) := b1.cell rfl
    have c1_1 : w18.cell? ⟨w9.heap.size, 1, none⟩ = some (.slice A5_ ts0.length c5_) := b1.cell rfl
    go_wp2_with fail
    clear l0 c0_0 c0_1 l1 c1_0 c1_1
    refine (toInt64SS_any A2 ts2 ts2.length c2 w18 rfl (HA2.out.below hE.out) hnc2 (by omega)).mono ?_
    rintro e w19 ⟨v_, rfl, hO, hB⟩
    obtain ⟨A11_, c11_, rfl⟩ := hO.form0
    have O11 := Lib.hid hO
    clear hO
    replace b0 := b0.below hB b0.lt
    replace b1 := b1.below hB b1.lt
    replace O1 := Lib.hid (O1.out.to hB)
    replace O2 := Lib.hid (O2.out.to hB)
    replace O3 := Lib.hid (O3.out.to hB)
    replace O4 := Lib.hid (O4.out.to hB)
    replace O5 := Lib.hid (O5.out.to hB)
    replace O6 := Lib.hid (O6.out.to hB)
    replace O7 := Lib.hid (O7.out.to hB)
    replace O8 := Lib.hid (O8.out.to hB)
    replace O9 := Lib.hid (O9.out.to hB)
    replace O10 := Lib.hid (O10.out.to hB)
    have sw19 : w18.heap.size ≤ w19.heap.size := hB.size
    replace hE := Lib.hid (below_to hE.out hB)
    clear hB
    have l0 := b0.lt
    have c0_0 : w19.cell? ⟨w.heap.size, 0, none⟩ = some (.int .i64 C0) := b0.cell rfl
    have c0_1 : w19.cell? ⟨w.heap.size, 1, none⟩ = some (.slice A0 ts0.length c0) := b0.cell rfl
    have l1 := b1.lt
    have c1_0 : w19.cell? ⟨w9.heap.size, 0, none⟩ = some (.int .i64 C0) := b1.cell rfl
    have c1_1 : w19.cell? ⟨w9.heap.size, 1, none⟩ = some (.slice A5_ ts0.length c5_) := b1.cell rfl
    go_wp2_with fail
    clear l0 c0_0 c0_1 l1 c1_0 c1_1
    refine (eqInt64SS_any A7_ A11_ ts2 ts2 ts2.length ts2.length c7_ c11_ w19 rfl rfl (rr_of O7.out rfl) (rr_of O11.out rfl) (by omega) (by omega)).mono ?_
    rintro e w20 ⟨rfl, hB⟩
    simp only [decide_true, Bool.and_self]
    replace b0 := b0.below hB b0.lt
    replace b1 := b1.below hB b1.lt
    replace O1 := Lib.hid (O1.out.to hB)
    replace O2 := Lib.hid (O2.out.to hB)
    replace O3 := Lib.hid (O3.out.to hB)
    replace O4 := Lib.hid (O4.out.to hB)
    replace O5 := Lib.hid (O5.out.to hB)
    replace O6 := Lib.hid (O6.out.to hB)
    replace O7 := Lib.hid (O7.out.to hB)
    replace O8 := Lib.hid (O8.out.to hB)
    replace O9 := Lib.hid (O9.out.to hB)
    replace O10 := Lib.hid (O10.out.to hB)
    replace O11 := Lib.hid (O11.out.to hB)
    have sw20 : w19.heap.size ≤ w20.heap.size := hB.size
    replace hE := Lib.hid (below_to hE.out hB)
    clear hB
    have l0 := b0.lt
    have c0_0 : w20.cell? ⟨w.heap.size, 0, none⟩ = some (.int .i64 C0) := b0.cell rfl
    have c0_1 : w20.cell? ⟨w.heap.size, 1, none⟩ = some (.slice A0 ts0.length c0) := b0.cell rfl
    have l1 := b1.lt
    have c1_0 : w20.cell? ⟨w9.heap.size, 0, none⟩ = some (.int .i64 C0) := b1.cell rfl
    have c1_1 : w20.cell? ⟨w9.heap.size, 1, none⟩ = some (.slice A5_ ts0.length c5_) := b1.cell rfl
    go_wp2_with fail
    clear l0 c0_0 c0_1 l1 c1_0 c1_1
    obtain ⟨m_O5, hm_O5⟩ : ∃ m, m = ts0.length * 4 := ⟨_, rfl⟩
    have bm_O5 : m_O5 ≤ 40000000 := by omega
    have Hm_O5 := Lib.hid hm_O5; clear hm_O5
    refine (markSet_m w8.heap.size w9.heap.size C0 (.slice A5_ ts0.length c5_) ts0.length m_O5 (tcells ts0) (1) w20 Hm_O5.out O5.out (by omega) (by omega) (by omega)).mono ?_
    rintro e w21 ⟨rfl, hO, hK⟩
    clear O5
    have O5 := Lib.hid hO
    clear hO
    replace b0 := b0.only hK (by omega)
    replace b1 := b1.only hK (by omega)
    replace O1 := Lib.hid (O1.out.only hK (by omega))
    replace O2 := Lib.hid (O2.out.only hK (by omega))
    replace O3 := Lib.hid (O3.out.only hK (by omega))
    replace O4 := Lib.hid (O4.out.only hK (by omega))
    replace O6 := Lib.hid (O6.out.only hK (by omega))
    replace O7 := Lib.hid (O7.out.only hK (by omega))
    replace O8 := Lib.hid (O8.out.only hK (by omega))
    replace O9 := Lib.hid (O9.out.only hK (by omega))
    replace O10 := Lib.hid (O10.out.only hK (by omega))
    replace O11 := Lib.hid (O11.out.only hK (by omega))
    have sw21 : w20.heap.size ≤ w21.heap.size := hK.size
    replace hE := Lib.hid (below_only hE.out hK (by omega))
    clear hK
    have l0 := b0.lt
    have c0_0 : w21.cell? ⟨w.heap.size, 0, none⟩ = some (.int .i64 C0) := b0.cell rfl
    have c0_1 : w21.cell? ⟨w.heap.size, 1, none⟩ = some (.slice A0 ts0.length c0) := b0.cell rfl
    have l1 := b1.lt
    have c1_0 : w21.cell? ⟨w9.heap.size, 0, none⟩ = some (.int .i64 C0) := b1.cell rfl
    have c1_1 : w21.cell? ⟨w9.heap.size, 1, none⟩ = some (.slice A5_ ts0.length c5_) := b1.cell rfl
    go_wp2_with fail
    clear l0 c0_0 c0_1 l1 c1_0 c1_1
    obtain ⟨m_O6, hm_O6⟩ : ∃ m, m = rowsz0 ts1 := ⟨_, rfl⟩
    have bm_O6 : m_O6 ≤ 40000000 := by have := (show rowsz0 ts1 ≤ 40000000 by omega); omega
    have Hm_O6 := Lib.hid hm_O6; clear hm_O6
    refine (markInt64SS_m w10.heap.size w11.heap.size ts1 m_O6 ((1 + (m_O5 : Int))) w21 Hm_O6.out O6.out (by omega) (by omega) (by omega)).mono ?_
    rintro e w22 ⟨rfl, hO, hK⟩
    clear O6
    have O6 := Lib.hid hO
    clear hO
    replace b0 := b0.only hK (by omega)
    replace b1 := b1.only hK (by omega)
    replace O1 := Lib.hid (O1.out.only hK (by omega))
    replace O2 := Lib.hid (O2.out.only hK (by omega))
    replace O3 := Lib.hid (O3.out.only hK (by omega))
    replace O4 := Lib.hid (O4.out.only hK (by omega))
    replace O5 := Lib.hid (O5.out.only hK (by omega))
    replace O7 := Lib.hid (O7.out.only hK (by omega))
    replace O8 := Lib.hid (O8.out.only hK (by omega))
    replace O9 := Lib.hid (O9.out.only hK (by omega))
    replace O10 := Lib.hid (O10.out.only hK (by omega))
    replace O11 := Lib.hid (O11.out.only hK (by omega))
    have sw22 : w21.heap.size ≤ w22.heap.size := hK.size
    replace hE := Lib.hid (below_only hE.out hK (by omega))
    clear hK
    have l0 := b0.lt
    have c0_0 : w22.cell? ⟨w.heap.size, 0, none⟩ = some (.int .i64 C0) := b0.cell rfl
    have c0_1 : w22.cell? ⟨w.heap.size, 1, none⟩ = some (.slice A0 ts0.length c0) := b0.cell rfl
    have l1 := b1.lt
    have c1_0 : w22.cell? ⟨w9.heap.size, 0, none⟩ = some (.int .i64 C0) := b1.cell rfl
    have c1_1 : w22.cell? ⟨w9.heap.size, 1, none⟩ = some (.slice A5_ ts0.length c5_) := b1.cell rfl
    go_wp2_with fail
    clear l0 c0_0 c0_1 l1 c1_0 c1_1
    obtain ⟨m_O7, hm_O7⟩ : ∃ m, m = rowsz0 ts2 := ⟨_, rfl⟩
    have bm_O7 : m_O7 ≤ 40000000 := by have := (show rowsz0 ts2 ≤ 40000000 by omega); omega
    have Hm_O7 := Lib.hid hm_O7; clear hm_O7
    refine (markInt64SS_m w11.heap.size w12.heap.size ts2 m_O7 (((1 + (m_O5 : Int)) + (m_O6 : Int))) w22 Hm_O7.out O7.out (by omega) (by omega) (by omega)).mono ?_
    rintro e w23 ⟨rfl, hO, hK⟩
    clear O7
    have O7 := Lib.hid hO
    clear hO
    replace b0 := b0.only hK (by omega)
    replace b1 := b1.only hK (by omega)
    replace O1 := Lib.hid (O1.out.only hK (by omega))
    replace O2 := Lib.hid (O2.out.only hK (by omega))
    replace O3 := Lib.hid (O3.out.only hK (by omega))
    replace O4 := Lib.hid (O4.out.only hK (by omega))
    replace O5 := Lib.hid (O5.out.only hK (by omega))
    replace O6 := Lib.hid (O6.out.only hK (by omega))
    replace O8 := Lib.hid (O8.out.only hK (by omega))
    replace O9 := Lib.hid (O9.out.only hK (by omega))
    replace O10 := Lib.hid (O10.out.only hK (by omega))
    replace O11 := Lib.hid (O11.out.only hK (by omega))
    have sw23 : w22.heap.size ≤ w23.heap.size := hK.size
    replace hE := Lib.hid (below_only hE.out hK (by omega))
    clear hK
    have l0 := b0.lt
    have c0_0 : w23.cell? ⟨w.heap.size, 0, none⟩ = some (.int .i64 C0) := b0.cell rfl
    have c0_1 : w23.cell? ⟨w.heap.size, 1, none⟩ = some (.slice A0 ts0.length c0) := b0.cell rfl
    have l1 := b1.lt
    have c1_0 : w23.cell? ⟨w9.heap.size, 0, none⟩ = some (.int .i64 C0) := b1.cell rfl
    have c1_1 : w23.cell? ⟨w9.heap.size, 1, none⟩ = some (.slice A5_ ts0.length c5_) := b1.cell rfl
    go_wp2_with fail
    clear l0 c0_0 c0_1 l1 c1_0 c1_1
    refine (eqInt64SSS_any A8_ A4_ r1 r1 r1.length r1.length c8_ c4_ w23 rfl rfl (r3_of O8.out rfl) (r3_of O4.out rfl) (by omega) (by omega)).mono ?_
    rintro e w24 ⟨rfl, hB⟩
    simp only [decide_true, Bool.and_self]
    replace b0 := b0.below hB b0.lt
    replace b1 := b1.below hB b1.lt
    replace O1 := Lib.hid (O1.out.to hB)
    replace O2 := Lib.hid (O2.out.to hB)
    replace O3 := Lib.hid (O3.out.to hB)
    replace O4 := Lib.hid (O4.out.to hB)
    replace O5 := Lib.hid (O5.out.to hB)
    replace O6 := Lib.hid (O6.out.to hB)
    replace O7 := Lib.hid (O7.out.to hB)
    replace O8 := Lib.hid (O8.out.to hB)
    replace O9 := Lib.hid (O9.out.to hB)
    replace O10 := Lib.hid (O10.out.to hB)
    replace O11 := Lib.hid (O11.out.to hB)
    have sw24 : w23.heap.size ≤ w24.heap.size := hB.size
    replace hE := Lib.hid (below_to hE.out hB)
    clear hB
    have l0 := b0.lt
    have c0_0 : w24.cell? ⟨w.heap.size, 0, none⟩ = some (.int .i64 C0) := b0.cell rfl
    have c0_1 : w24.cell? ⟨w.heap.size, 1, none⟩ = some (.slice A0 ts0.length c0) := b0.cell rfl
    have l1 := b1.lt
    have c1_0 : w24.cell? ⟨w9.heap.size, 0, none⟩ = some (.int .i64 C0) := b1.cell rfl
    have c1_1 : w24.cell? ⟨w9.heap.size, 1, none⟩ = some (.slice A5_ ts0.length c5_) := b1.cell rfl
    go_wp2_with fail
    clear l0 c0_0 c0_1 l1 c1_0 c1_1
    obtain ⟨m_O8, hm_O8⟩ : ∃ m, m = rowsz3 r1 := ⟨_, rfl⟩
    have bm_O8 : m_O8 ≤ 40000000 := by have := hb1; omega
    have Hm_O8 := Lib.hid hm_O8; clear hm_O8
    refine (markInt64SSS_m w12.heap.size w13.heap.size r1 m_O8 (1) w24 Hm_O8.out O8.out (by omega) (by omega) (by omega)).mono ?_
    rintro e w25 ⟨rfl, hO, hK⟩
    clear O8
    have O8 := Lib.hid hO
    clear hO
    replace b0 := b0.only hK (by omega)
    replace b1 := b1.only hK (by omega)
    replace O1 := Lib.hid (O1.out.only hK (by omega))
    replace O2 := Lib.hid (O2.out.only hK (by omega))
    replace O3 := Lib.hid (O3.out.only hK (by omega))
    replace O4 := Lib.hid (O4.out.only hK (by omega))
    replace O5 := Lib.hid (O5.out.only hK (by omega))
    replace O6 := Lib.hid (O6.out.only hK (by omega))
    replace O7 := Lib.hid (O7.out.only hK (by omega))
    replace O9 := Lib.hid (O9.out.only hK (by omega))
    replace O10 := Lib.hid (O10.out.only hK (by omega))
    replace O11 := Lib.hid (O11.out.only hK (by omega))
    have sw25 : w24.heap.size ≤ w25.heap.size := hK.size
    replace hE := Lib.hid (below_only hE.out hK (by omega))
    clear hK
    have l0 := b0.lt
    have c0_0 : w25.cell? ⟨w.heap.size, 0, none⟩ = some (.int .i64 C0) := b0.cell rfl
    have c0_1 : w25.cell? ⟨w.heap.size, 1, none⟩ = some (.slice A0 ts0.length c0) := b0.cell rfl
    have l1 := b1.lt
    have c1_0 : w25.cell? ⟨w9.heap.size, 0, none⟩ = some (.int .i64 C0) := b1.cell rfl
    have c1_1 : w25.cell? ⟨w9.heap.size, 1, none⟩ = some (.slice A5_ ts0.length c5_) := b1.cell rfl
    go_wp2_with fail
    clear l0 c0_0 c0_1 l1 c1_0 c1_1
    refine (heldInt64SSS_m w12.heap.size w13.heap.size r1 m_O8 (1) w25 Hm_O8.out O8.out (by omega) (by omega) (by omega)).mono ?_
    rintro e w26 ⟨rfl, hB⟩
    replace b0 := b0.below hB b0.lt
    replace b1 := b1.below hB b1.lt
    replace O1 := Lib.hid (O1.out.to hB)
    replace O2 := Lib.hid (O2.out.to hB)
    replace O3 := Lib.hid (O3.out.to hB)
    replace O4 := Lib.hid (O4.out.to hB)
    replace O5 := Lib.hid (O5.out.to hB)
    replace O6 := Lib.hid (O6.out.to hB)
    replace O7 := Lib.hid (O7.out.to hB)
    replace O8 := Lib.hid (O8.out.to hB)
    replace O9 := Lib.hid (O9.out.to hB)
    replace O10 := Lib.hid (O10.out.to hB)
    replace O11 := Lib.hid (O11.out.to hB)
    have sw26 : w25.heap.size ≤ w26.heap.size := hB.size
    replace hE := Lib.hid (below_to hE.out hB)
    clear hB
    have l0 := b0.lt
    have c0_0 : w26.cell? ⟨w.heap.size, 0, none⟩ = some (.int .i64 C0) := b0.cell rfl
    have c0_1 : w26.cell? ⟨w.heap.size, 1, none⟩ = some (.slice A0 ts0.length c0) := b0.cell rfl
    have l1 := b1.lt
    have c1_0 : w26.cell? ⟨w9.heap.size, 0, none⟩ = some (.int .i64 C0) := b1.cell rfl
    have c1_1 : w26.cell? ⟨w9.heap.size, 1, none⟩ = some (.slice A5_ ts0.length c5_) := b1.cell rfl
    go_wp2_with fail
    clear l0 c0_0 c0_1 l1 c1_0 c1_1
    refine (toSet_any C0 A0 ts0 ts0.length c0 w26 rfl (HA0.out.below hE.out) (by omega)).mono ?_
    rintro e w27 ⟨v_, rfl, hO, hB⟩
    obtain ⟨A12_, c12_, rfl, -, -⟩ := hO.reads
    have O12 := Lib.hid (OW.of hO)
    clear hO
    replace b0 := b0.below hB b0.lt
    replace b1 := b1.below hB b1.lt
    replace O1 := Lib.hid (O1.out.to hB)
    replace O2 := Lib.hid (O2.out.to hB)
    replace O3 := Lib.hid (O3.out.to hB)
    replace O4 := Lib.hid (O4.out.to hB)
    replace O5 := Lib.hid (O5.out.to hB)
    replace O6 := Lib.hid (O6.out.to hB)
    replace O7 := Lib.hid (O7.out.to hB)
    replace O8 := Lib.hid (O8.out.to hB)
    replace O9 := Lib.hid (O9.out.to hB)
    replace O10 := Lib.hid (O10.out.to hB)
    replace O11 := Lib.hid (O11.out.to hB)
    have sw27 : w26.heap.size ≤ w27.heap.size := hB.size
    replace hE := Lib.hid (below_to hE.out hB)
    clear hB
    have l0 := b0.lt
    have c0_0 : w27.cell? ⟨w.heap.size, 0, none⟩ = some (.int .i64 C0) := b0.cell rfl
    have c0_1 : w27.cell? ⟨w.heap.size, 1, none⟩ = some (.slice A0 ts0.length c0) := b0.cell rfl
    have l1 := b1.lt
    have c1_0 : w27.cell? ⟨w9.heap.size, 0, none⟩ = some (.int .i64 C0) := b1.cell rfl
    have c1_1 : w27.cell? ⟨w9.heap.size, 1, none⟩ = some (.slice A5_ ts0.length c5_) := b1.cell rfl
    go_wp2_with fail
    clear l0 c0_0 c0_1 l1 c1_0 c1_1
    refine (toInt64SS_any A1 ts1 ts1.length c1 w27 rfl (HA1.out.below hE.out) hnc1 (by omega)).mono ?_
    rintro e w28 ⟨v_, rfl, hO, hB⟩
    obtain ⟨A13_, c13_, rfl⟩ := hO.form0
    have O13 := Lib.hid hO
    clear hO
    replace b0 := b0.below hB b0.lt
    replace b1 := b1.below hB b1.lt
    replace O1 := Lib.hid (O1.out.to hB)
    replace O2 := Lib.hid (O2.out.to hB)
    replace O3 := Lib.hid (O3.out.to hB)
    replace O4 := Lib.hid (O4.out.to hB)
    replace O5 := Lib.hid (O5.out.to hB)
    replace O6 := Lib.hid (O6.out.to hB)
    replace O7 := Lib.hid (O7.out.to hB)
    replace O8 := Lib.hid (O8.out.to hB)
    replace O9 := Lib.hid (O9.out.to hB)
    replace O10 := Lib.hid (O10.out.to hB)
    replace O11 := Lib.hid (O11.out.to hB)
    replace O12 := Lib.hid (O12.out.to hB)
    have sw28 : w27.heap.size ≤ w28.heap.size := hB.size
    replace hE := Lib.hid (below_to hE.out hB)
    clear hB
    have l0 := b0.lt
    have c0_0 : w28.cell? ⟨w.heap.size, 0, none⟩ = some (.int .i64 C0) := b0.cell rfl
    have c0_1 : w28.cell? ⟨w.heap.size, 1, none⟩ = some (.slice A0 ts0.length c0) := b0.cell rfl
    have l1 := b1.lt
    have c1_0 : w28.cell? ⟨w9.heap.size, 0, none⟩ = some (.int .i64 C0) := b1.cell rfl
    have c1_1 : w28.cell? ⟨w9.heap.size, 1, none⟩ = some (.slice A5_ ts0.length c5_) := b1.cell rfl
    go_wp2_with fail
    clear l0 c0_0 c0_1 l1 c1_0 c1_1
    refine (toInt64SS_any A2 ts2 ts2.length c2 w28 rfl (HA2.out.below hE.out) hnc2 (by omega)).mono ?_
    rintro e w29 ⟨v_, rfl, hO, hB⟩
    obtain ⟨A14_, c14_, rfl⟩ := hO.form0
    have O14 := Lib.hid hO
    clear hO
    replace b0 := b0.below hB b0.lt
    replace b1 := b1.below hB b1.lt
    replace O1 := Lib.hid (O1.out.to hB)
    replace O2 := Lib.hid (O2.out.to hB)
    replace O3 := Lib.hid (O3.out.to hB)
    replace O4 := Lib.hid (O4.out.to hB)
    replace O5 := Lib.hid (O5.out.to hB)
    replace O6 := Lib.hid (O6.out.to hB)
    replace O7 := Lib.hid (O7.out.to hB)
    replace O8 := Lib.hid (O8.out.to hB)
    replace O9 := Lib.hid (O9.out.to hB)
    replace O10 := Lib.hid (O10.out.to hB)
    replace O11 := Lib.hid (O11.out.to hB)
    replace O12 := Lib.hid (O12.out.to hB)
    replace O13 := Lib.hid (O13.out.to hB)
    have sw29 : w28.heap.size ≤ w29.heap.size := hB.size
    replace hE := Lib.hid (below_to hE.out hB)
    clear hB
    have l0 := b0.lt
    have c0_0 : w29.cell? ⟨w.heap.size, 0, none⟩ = some (.int .i64 C0) := b0.cell rfl
    have c0_1 : w29.cell? ⟨w.heap.size, 1, none⟩ = some (.slice A0 ts0.length c0) := b0.cell rfl
    have l1 := b1.lt
    have c1_0 : w29.cell? ⟨w9.heap.size, 0, none⟩ = some (.int .i64 C0) := b1.cell rfl
    have c1_1 : w29.cell? ⟨w9.heap.size, 1, none⟩ = some (.slice A5_ ts0.length c5_) := b1.cell rfl
    go_wp2_with fail
    clear l0 c0_0 c0_1 l1 c1_0 c1_1
    refine (implFillingList_any C0 A12_ ts0 ts0.length c12_ A13_ ts1 ts1.length c13_ A14_ ts2 ts2.length c14_ w29 rfl (rt_of O12.out rfl) (le_of O12.out) (by omega) rfl (rr_of O13.out rfl) (le_ofS O13.out) (by omega) rfl (rr_of O14.out rfl) (le_ofS O14.out) (by omega)).mono ?_
    rintro e w30 ⟨v0_, x0_, x1_, hR_, rfl, hO0, hB⟩
    obtain ⟨rfl, rfl⟩ : r1 = x0_ ∧ r2 = x1_ := (by have h_ := HR.out.symm.trans hR_; simpa using h_)
    clear hR_
    obtain ⟨A15_, c15_, rfl⟩ := hO0.form0
    have O15 := Lib.hid hO0
    clear hO0
    replace b0 := b0.below hB b0.lt
    replace b1 := b1.below hB b1.lt
    replace O1 := Lib.hid (O1.out.to hB)
    replace O2 := Lib.hid (O2.out.to hB)
    replace O3 := Lib.hid (O3.out.to hB)
    replace O4 := Lib.hid (O4.out.to hB)
    replace O5 := Lib.hid (O5.out.to hB)
    replace O6 := Lib.hid (O6.out.to hB)
    replace O7 := Lib.hid (O7.out.to hB)
    replace O8 := Lib.hid (O8.out.to hB)
    replace O9 := Lib.hid (O9.out.to hB)
    replace O10 := Lib.hid (O10.out.to hB)
    replace O11 := Lib.hid (O11.out.to hB)
    replace O12 := Lib.hid (O12.out.to hB)
    replace O13 := Lib.hid (O13.out.to hB)
    replace O14 := Lib.hid (O14.out.to hB)
    have sw30 : w29.heap.size ≤ w30.heap.size := hB.size
    replace hE := Lib.hid (below_to hE.out hB)
    clear hB
    have l0 := b0.lt
    have c0_0 : w30.cell? ⟨w.heap.size, 0, none⟩ = some (.int .i64 C0) := b0.cell rfl
    have c0_1 : w30.cell? ⟨w.heap.size, 1, none⟩ = some (.slice A0 ts0.length c0) := b0.cell rfl
    have l1 := b1.lt
    have c1_0 : w30.cell? ⟨w9.heap.size, 0, none⟩ = some (.int .i64 C0) := b1.cell rfl
    have c1_1 : w30.cell? ⟨w9.heap.size, 1, none⟩ = some (.slice A5_ ts0.length c5_) := b1.cell rfl
    go_wp2_with fail
    clear l0 c0_0 c0_1 l1 c1_0 c1_1
    refine (eqInt64SSS_any A15_ A4_ r1 r1 r1.length r1.length c15_ c4_ w30 rfl rfl (r3_of O15.out rfl) (r3_of O4.out rfl) (by omega) (by omega)).mono ?_
    rintro e w31 ⟨rfl, hB⟩
    simp only [decide_true, Bool.and_self]
    replace b0 := b0.below hB b0.lt
    replace b1 := b1.below hB b1.lt
    replace O1 := Lib.hid (O1.out.to hB)
    replace O2 := Lib.hid (O2.out.to hB)
    replace O3 := Lib.hid (O3.out.to hB)
    replace O4 := Lib.hid (O4.out.to hB)
    replace O5 := Lib.hid (O5.out.to hB)
    replace O6 := Lib.hid (O6.out.to hB)
    replace O7 := Lib.hid (O7.out.to hB)
    replace O8 := Lib.hid (O8.out.to hB)
    replace O9 := Lib.hid (O9.out.to hB)
    replace O10 := Lib.hid (O10.out.to hB)
    replace O11 := Lib.hid (O11.out.to hB)
    replace O12 := Lib.hid (O12.out.to hB)
    replace O13 := Lib.hid (O13.out.to hB)
    replace O14 := Lib.hid (O14.out.to hB)
    replace O15 := Lib.hid (O15.out.to hB)
    have sw31 : w30.heap.size ≤ w31.heap.size := hB.size
    replace hE := Lib.hid (below_to hE.out hB)
    clear hB
    have l0 := b0.lt
    have c0_0 : w31.cell? ⟨w.heap.size, 0, none⟩ = some (.int .i64 C0) := b0.cell rfl
    have c0_1 : w31.cell? ⟨w.heap.size, 1, none⟩ = some (.slice A0 ts0.length c0) := b0.cell rfl
    have l1 := b1.lt
    have c1_0 : w31.cell? ⟨w9.heap.size, 0, none⟩ = some (.int .i64 C0) := b1.cell rfl
    have c1_1 : w31.cell? ⟨w9.heap.size, 1, none⟩ = some (.slice A5_ ts0.length c5_) := b1.cell rfl
    go_wp2_with fail
    clear l0 c0_0 c0_1 l1 c1_0 c1_1
    refine (heldInt64SSS_m w12.heap.size w13.heap.size r1 m_O8 (1) w31 Hm_O8.out O8.out (by omega) (by omega) (by omega)).mono ?_
    rintro e w32 ⟨rfl, hB⟩
    replace b0 := b0.below hB b0.lt
    replace b1 := b1.below hB b1.lt
    replace O1 := Lib.hid (O1.out.to hB)
    replace O2 := Lib.hid (O2.out.to hB)
    replace O3 := Lib.hid (O3.out.to hB)
    replace O4 := Lib.hid (O4.out.to hB)
    replace O5 := Lib.hid (O5.out.to hB)
    replace O6 := Lib.hid (O6.out.to hB)
    replace O7 := Lib.hid (O7.out.to hB)
    replace O8 := Lib.hid (O8.out.to hB)
    replace O9 := Lib.hid (O9.out.to hB)
    replace O10 := Lib.hid (O10.out.to hB)
    replace O11 := Lib.hid (O11.out.to hB)
    replace O12 := Lib.hid (O12.out.to hB)
    replace O13 := Lib.hid (O13.out.to hB)
    replace O14 := Lib.hid (O14.out.to hB)
    replace O15 := Lib.hid (O15.out.to hB)
    have sw32 : w31.heap.size ≤ w32.heap.size := hB.size
    replace hE := Lib.hid (below_to hE.out hB)
    clear hB
    go_wp2_with fail
    go_ret
    exact ⟨rfl, hE.out⟩
end Go.Proofs.Ytcaikaflpmaocaa

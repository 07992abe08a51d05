/-
 Parts of the proof, in their order: EachV, EachL.
-/
import Derived.Test.YtcaikaflpmaocaaSq
import Derived.Test.YtcaikaflpmaocaaPk13
import Derived.Test.YtcaikaflpmaocaaPk16
import Derived.Test.YtcaikaflpmaocaaPk8
import Derived.Test.YtcaikaflpmaocaaPk5
namespace Go.Proofs.Ytcaikaflpmaocaa
open Go Go.RowKit Go.Proofs Go.Proofs.YtcaikaflpmaocaaW.PrintWords Go.Proofs.YtcaikaflpmaocaaW.PrintLast Go.Proofs.YtcaikaflpmaocaaW.PrintMore Go.Proofs.Ytcaikaflpmaocaa.Q
set_option linter.unusedVariables false
set_option linter.unusedSimpArgs false
structure KE (X : Nat → Prop) (w W : World) : Prop where
 os : W.os = w.os
 tape : W.tape = w.tape
 output : W.output = w.output
 size : w.heap.size ≤ W.heap.size
 block : ∀ k, k < w.heap.size → ¬ X k → W.heap[k]? = w.heap[k]?
section
variable {X : Nat → Prop} {w W W1 : World}
theorem KE.refl (X : Nat → Prop) (w : World) : KE X w w := ⟨rfl, rfl, rfl, Nat.le_refl _, fun _ _ _ => rfl⟩
theorem KE.below (h : KE X w W) {B : Nat} (hb : Below B W W1) (hB : w.heap.size ≤ B) : KE X w W1 :=
 ⟨hb.os.trans h.os, hb.tape.trans h.tape, hb.output.trans h.output, Nat.le_trans h.size hb.size, fun k hk hx => (hb.block k (by omega)).trans (h.block k hk hx)⟩
theorem KE.grown (h : KE X w W) {r : Option Nat} (hg : W.grownBy W1 r) (hr : ∀ k, r = some k → w.heap.size ≤ k) : KE X w W1 :=
 ⟨hg.os.trans h.os, hg.tape.trans h.tape, hg.output.trans h.output, Nat.le_trans h.size hg.size, fun k hk hx => (hg.block k (Nat.lt_of_lt_of_le hk h.size) (fun e => by have := hr k e.symm; omega)).trans (h.block k hk hx)⟩
theorem KE.trans (h : KE X w W) {B : Nat} (h1 : KE X W W1) : KE X w W1 :=
 ⟨h1.os.trans h.os, h1.tape.trans h.tape, h1.output.trans h.output, Nat.le_trans h.size h1.size, fun k hk hx => (h1.block k (Nat.lt_of_lt_of_le hk h.size) hx).trans (h.block k hk hx)⟩
theorem KE.cell (h : KE X w W) {b o : Nat} {v : Value} (hc : w.cell? ⟨b, o, none⟩ = some v) (hx : ¬ X b) : W.cell? ⟨b, o, none⟩ = some v :=
 (World.cell?_of_block (h.block b (World.block_lt_of_cell? w _ hc) hx)).trans hc
theorem KE.of (h : KE X w W) {B : Nat} {w0 : World} (h0 : Below B w0 w) (hB : B ≤ w.heap.size) (hX : ∀ k, X k → B ≤ k) : Below B w0 W :=
 ⟨h.os.trans h0.os, h.tape.trans h0.tape, h.output.trans h0.output, Nat.le_trans h0.size h.size, fun k hk => (h.block k (by omega) (fun hx => by have := hX k hx; omega)).trans (h0.block k hk)⟩
end
structure XOK (X : Nat → Prop) (w : World) : Prop where
 cell : ∀ b o v, w.cell? ⟨b, o, none⟩ = some v → (∀ A c, v ≠ .slice A 0 c) → ¬ X b
def FIA (w : World) (F : Nat) (C : Int) (cn : Nat) (A : Option Addr) (ts : List T4) (n c : Nat) (A1 : Option Addr) (plan : List (List Int)) (m1 c1 : Nat) (A2 : Option Addr) (bs : List (List Int)) (m2 c2 : Nat) : Prop :=
 ∃ (Ap : Option Addr) (cp ga ca : Nat), (w.cell? ⟨F, 0, none⟩ = some (.int .i64 C) ∧ w.cell? ⟨F, 1, none⟩ = some (.slice A n c) ∧ w.cell? ⟨F, 2, none⟩ = some (.slice A1 m1 c1) ∧ w.cell? ⟨F, 3, none⟩ = some (.slice A2 m2 c2)) ∧
  w.cell? ⟨F, 4, none⟩ = some (.slice Ap (rowLen plan 0 + 1) cp) ∧ w.cell? ⟨F, 6, none⟩ = some (.slice (some ⟨ga, 0, none⟩) (places plan + 1) ca) ∧
  RI w Ap (powL cn (rowLen plan 0)) ∧ RB w ga (alvL (stepI cn plan bs (ts.map toS)) (ts.map toS).length (size cn plan) (places plan) 0)
section
variable {X : Nat → Prop} {w W : World} {F : Nat} {C : Int} {cn : Nat} {A : Option Addr} {ts : List T4} {n c : Nat} {A1 : Option Addr} {plan : List (List Int)} {m1 c1 : Nat} {A2 : Option Addr} {bs : List (List Int)} {m2 c2 : Nat}
theorem FIL.fia (h : FIL w F C cn A ts n c A1 plan m1 c1 A2 bs m2 c2) : FIA w F C cn A ts n c A1 plan m1 c1 A2 bs m2 c2 := by
 obtain ⟨Ap, cp, gc, cc, ga, ca, k0, k4, -, k6, k7, -, k9⟩ := h
 exact ⟨Ap, cp, ga, ca, k0, k4, k6, k7, k9⟩
theorem FIA.below {w' : World} (h : FIA w F C cn A ts n c A1 plan m1 c1 A2 bs m2 c2) (hb : Below w.heap.size w w') : FIA w' F C cn A ts n c A1 plan m1 c1 A2 bs m2 c2 := by
 obtain ⟨Ap, cp, ga, ca, ⟨k0, k1, k2, k3⟩, k4, k6, k7, k9⟩ := h
 exact ⟨Ap, cp, ga, ca, ⟨cell_to hb k0, cell_to hb k1, cell_to hb k2, cell_to hb k3⟩, cell_to hb k4, cell_to hb k6, k7.below hb, k9.below hb⟩
theorem FIA.keep (h : FIA w F C cn A ts n c A1 plan m1 c1 A2 bs m2 c2) (hx : XOK X w) (hk : KE X w W) : FIA W F C cn A ts n c A1 plan m1 c1 A2 bs m2 c2 := by
 obtain ⟨Ap, cp, ga, ca, ⟨k0, k1, k2, k3⟩, k4, k6, k7, k9⟩ := h
 have hF : ¬ X F := hx.cell F 0 _ k0 (by simp)
 refine ⟨Ap, cp, ga, ca, ⟨hk.cell k0 hF, hk.cell k1 hF, hk.cell k2 hF, hk.cell k3 hF⟩, hk.cell k4 hF, hk.cell k6 hF, ?_, ?_⟩
 ·intro k hx2
  obtain ⟨b, o, e, hb, hc⟩ := k7 k hx2
  exact ⟨b, o, e, Nat.lt_of_lt_of_le hb hk.size, hk.cell hc (hx.cell _ _ _ hc (by simp))⟩
 ·intro i j hi hj
  obtain ⟨gr, cr, l1, l2, c1_, c2_⟩ := k9 i j hi hj
  exact ⟨gr, cr, Nat.lt_of_lt_of_le l1 hk.size, Nat.lt_of_lt_of_le l2 hk.size, hk.cell c1_ (hx.cell _ _ _ c1_ (by intro A c e; injection e with _ e; omega)), hk.cell c2_ (hx.cell _ _ _ c2_ (by simp))⟩
end
structure EV (X : Nat → Prop) (wE W : World) (b2 b3 b4 b5 F : Nat) (vis : Value) (wd : Nat) : Prop where
 ke : KE X wE W
 k2 : BK W b2 #[.pointer (some ⟨F, 0, none⟩)] 66
 k3 : BK W b3 #[vis] 81
 k4 : BK W b4 #[.int .i64 wd] 3
 k5 : BK W b5 #[.func (.func 85) #[] #[.pointer (some ⟨b2, 0, none⟩), .pointer (some ⟨b4, 0, none⟩), .pointer (some ⟨b3, 0, none⟩), .pointer (some ⟨b5, 0, none⟩)]] 99
section
variable {X : Nat → Prop} {wE W W1 : World} {b2 b3 b4 b5 F : Nat} {vis : Value} {wd : Nat}
theorem EV.below (h : EV X wE W b2 b3 b4 b5 F vis wd) (hb : Below W.heap.size W W1) : EV X wE W1 b2 b3 b4 b5 F vis wd :=
 ⟨h.ke.below hb h.ke.size, (hb.block _ h.k2.lt).trans h.k2, (hb.block _ h.k3.lt).trans h.k3, (hb.block _ h.k4.lt).trans h.k4, (hb.block _ h.k5.lt).trans h.k5⟩
theorem EV.far (h : EV X wE W b2 b3 b4 b5 F vis wd) {r : Option Nat} (hk : KE X wE W1) (hf : FR W W1 r) (hr : ∀ b C E, r = some b → BK W b C E → E = 2) : EV X wE W1 b2 b3 b4 b5 F vis wd := by
 have go : ∀ {b : Nat} {C : Array Value} {E : TypeId}, BK W b C E → E ≠ 2 → E ≠ 22 → E ≠ 48 → BK W1 b C E := fun {b C E} hb h0 h1 h2 => hf.bk hb (fun e => h0 (hr b C E e.symm hb)) h1 h2
 exact ⟨hk, go h.k2 (by decide) (by decide) (by decide), go h.k3 (by decide) (by decide) (by decide), go h.k4 (by decide) (by decide) (by decide), go h.k5 (by decide) (by decide) (by decide)⟩
end
theorem OI.typed {W : World} {base : Nat} {e : TypeId} {v : Value} {xs : List Int} (h : OI W base e v xs) : ∀ b C E, v.ownBlock = some b → BK W b C E → E = e := by
 intro b C E hv hb
 rcases h.2 with ⟨rfl, _⟩ | ⟨g, cap, cur, rfl, _, hg, _⟩
 ·cases hv
 ·have e1 : g = b := by simpa [Value.ownBlock] using hv
  subst e1
  have e2 : (some (Obj.cells C E (0, 0)) : Option Obj) = some (.cells cur e (0, 0)) := hb.symm.trans hg
  injection e2 with e2; injection e2 with _ e2 _
structure VIS (X : Nat → Prop) (wE : World) (J : List (List (List Int)) → World → (Nat → Prop) → Prop) : Prop where
 mono : ∀ {vs W ok ok'}, J vs W ok → (∀ k, ok k → ok' k) → J vs W ok'
 bound : ∀ {vs W ok}, J vs W ok → J vs W (fun k => ok k ∧ k < W.heap.size)
 step : ∀ {vs W W1 ok}, J vs W ok → W.heap.size ≤ W1.heap.size → (∀ k, ok k → k < W.heap.size → W1.heap[k]? = W.heap[k]?) → J vs W1 ok
theorem VIS.below {X : Nat → Prop} {wE W W1 : World} {J : List (List (List Int)) → World → (Nat → Prop) → Prop} {vs : List (List (List Int))} {ok : Nat → Prop} (hv : VIS X wE J) (h : J vs W ok) (hb : Below W.heap.size W W1) : J vs W1 ok := hv.step h hb.size (fun k _ hk => hb.block k hk)
def VisitK (X : Nat → Prop) (wE : World) (J : List (List (List Int)) → World → (Nat → Prop) → Prop) (K : FuncId) (bo : Nat) (q : Bool) : Prop :=
 ∀ (vs : List (List (List Int))) (W : World) (N : Nat) (ok : Nat → Prop) (v : Value) (rows : List (List Int)), KE X wE W → wE.heap.size ≤ N → N ≤ W.heap.size → vs.length + 1 ≤ 1000000 → J vs W (fun k => ok k ∧ k < N) → Kd.S (Kd.slice 2 (Kd.int .i64)) 56 W N (fun _ => True) v rows → 0 < rows.length → rows.length ≤ 1000000 →
  Calls Try.prog K #[v, .pointer (some ⟨bo, 0, none⟩)] W fun e w' => e = .returned (.bool q) ∧ KE X wE w' ∧ FR W w' none ∧ J (vs ++ [rows]) w' (fun k => ok k ∨ N ≤ k)
theorem grown_of {wd w1 : World} {v v1 : Value} {n : Nat}
 (h : (∃ g c, v = .slice (some ⟨g, 0, none⟩) n c ∧ v1 = .slice (some ⟨g, 0, none⟩) (n + 1) c ∧ wd.grownBy w1 (some g)) ∨ ((∃ b, v1.ownBlock = some b ∧ wd.heap.size ≤ b) ∧ wd.grownBy w1 none)) :
 FR wd w1 v.ownBlock ∧ wd.grownBy w1 v.ownBlock ∧ (v1.ownBlock = v.ownBlock ∨ ∃ b, v1.ownBlock = some b ∧ wd.heap.size ≤ b) := by
 have hg : wd.grownBy w1 v.ownBlock := by
  rcases h with ⟨g, c, rfl, rfl, hg⟩ | ⟨-, hg⟩
  ·exact hg
  ·exact ⟨hg.os, hg.tape, hg.output, hg.size, fun k hk _ => hg.block k hk (by simp)⟩
 refine ⟨FR.of_grown hg, hg, ?_⟩
 rcases h with ⟨g, c, rfl, rfl, -⟩ | ⟨hb, -⟩
 ·exact .inl rfl
 ·exact .inr hb
theorem fresh_ok {W wd w1 : World} {base : Nat} {e : TypeId} {v : Value} {xs : List Int} {ok : Nat → Prop} {r r1 : Option Nat} (hO : OI wd base e v xs) (hF : FR W wd r1) (hF1 : FR wd w1 r) (hok : ∀ k, W.heap.size ≤ k → ok k) : ∀ k, w1.heap.size ≤ k → ok k ∧ some k ≠ v.ownBlock :=
 fun k hk => ⟨hok k (by have := hF.size; have := hF1.size; omega), fun e => by have := (hO.lt k e.symm).2; have := hF1.size; omega⟩
theorem after_app {X : Nat → Prop} {wE wd w1 : World} {J : List (List (List Int)) → World → (Nat → Prop) → Prop} {vs : List (List (List Int))} {ok : Nat → Prop} {v v1 : Value} (hv : VIS X wE J) (h : J vs wd (fun k => ok k ∧ some k ≠ v.ownBlock))
 (hg : FR wd w1 v.ownBlock ∧ wd.grownBy w1 v.ownBlock ∧ (v1.ownBlock = v.ownBlock ∨ ∃ b, v1.ownBlock = some b ∧ wd.heap.size ≤ b)) : J vs w1 (fun k => (ok k ∧ some k ≠ v.ownBlock) ∧ some k ≠ v1.ownBlock) := by
 refine hv.mono (hv.step (hv.bound h) hg.2.1.size (fun k hk hlt => hg.2.1.block k hlt hk.1.2)) (fun k hk => ⟨hk.1, fun e => ?_⟩)
 rcases hg.2.2 with h2 | ⟨b, h2, hb⟩
 ·exact hk.1.2 (e.trans h2)
 ·rw [h2] at e; injection e with e; have := hk.2; omega
theorem back_own {wd w1 w2 : World} {base : Nat} {v v1 : Value} {xs : List Int} {y : Int} (hO : OI wd base 2 v xs)
 (h : (∃ g c, v = .slice (some ⟨g, 0, none⟩) xs.length c ∧ v1 = .slice (some ⟨g, 0, none⟩) (xs.length + 1) c ∧ wd.grownBy w1 (some g)) ∨ ((∃ b, v1.ownBlock = some b ∧ wd.heap.size ≤ b) ∧ wd.grownBy w1 none))
 (hF : FR w1 w2 v1.ownBlock) (hO2 : OI w2 base 2 v1 (xs ++ [y])) : OI w2 base 2 v xs ∧ FR wd w2 v.ownBlock := by
 have hg := grown_of h
 refine ⟨?_, ?_⟩
 ·rcases h with ⟨g, c, rfl, rfl, -⟩ | ⟨⟨b, hb, hbl⟩, hgr⟩
  ·have h2 := OI.take hO2 (m := xs.length) (by simp)
   rw [List.take_left] at h2
   exact h2
  ·have h1 : OI w1 base 2 v xs := (FR.of_grown hgr).oi hO (fun k _ => by simp)
   refine hF.oi h1 (fun k hk e => ?_)
   rw [hb] at e; injection e with e
   have := (hO.lt k hk).2
   omega
 ·exact hg.1.trans hF hg.2.2
theorem S_empty {W : World} {b base : Nat} {ok : Nat → Prop} (hb : BK W b #[] 56) (hbase : base ≤ b) (hok : ok b) : Kd.S (Kd.slice 2 (Kd.int .i64)) 56 W base ok (.slice (some ⟨b, 0, none⟩) 0 0) [] := by
 refine ⟨fun _ => 0, fun k hk => ?_, [], ⟨rfl, .inr ⟨b, 0, #[], rfl, hbase, hb, Nat.le_refl _, by decide, rfl, rfl⟩⟩, ⟨rfl, fun j p hj => by simp at hj⟩⟩
 have : b = k := by simpa [Value.ownBlock] using hk
 subst this
 exact hok
theorem RI.part {w : World} {g a m : Nat} {xs : List Int} (h : RI w (some ⟨g, 0, none⟩) xs) (ha : a + m ≤ xs.length) : RI w (some ⟨g, a, none⟩) ((xs.drop a).take m) := by
 intro k hk
 rw [List.length_take, List.length_drop] at hk
 obtain ⟨b, o, e, hb, hc⟩ := h (a + k) (by omega)
 injection e with e; injection e with e1 e2
 subst e1; subst e2
 refine ⟨g, a, rfl, hb, ?_⟩
 rw [Nat.zero_add] at hc
 rw [hc]
 have : ik ((xs.drop a).take m) k = ik xs (a + k) := by
  unfold ik
  rw [List.getD_eq_getElem?_getD, List.getD_eq_getElem?_getD, List.getElem?_take, if_pos (by omega), List.getElem?_drop]
 rw [this]
def fillL_T14 : Bool × List (List Nat × List Nat) := (true, [([], []), ([0], [0]), ([1], [1]), ([2, 1], [1, 2]), ([3, 1], [1, 3]), ([4, 1], [1, 4]), ([1], [1]), ([6, 1], [1, 6]), ([5, 7, 1], [1, 5, 7]), ([8, 1], [1, 8]), ([1], [1]), ([9, 10, 1], [1, 9, 10]), ([11, 1], [1, 11]), ([1, 12], [1, 12]), ([13, 1], [13]), ([14], [14]), ([14], [14]), ([14], [14]), ([17, 14], [14, 17]), ([16, 18, 14, 14], [14, 16, 18]), ([14], [14]), ([15, 19, 20, 19, 14], [14, 15, 19, 20]), ([21, 14], [14, 21]), ([14, 22], [14, 22])])
def fillL_B14 : List Nat := [0, 1, 3, 7, 15, 31, 3, 67, 255, 511, 3, 2047, 4095, 8191, 16383, 32767, 32767, 32767, 163839, 491519, 32767, 2097151, 4194303, 8388607]
theorem fillL_tab14 : rtab .any (opsOf Try.f85 14) = fillL_T14 := by kernel_rfl
theorem fillL_bits14 : waitsOk fillL_T14.2 fillL_B14 = true := by kernel_rfl
set_option maxHeartbeats 8000000 in
set_option maxRecDepth 100000 in
theorem fillL_any {X : Nat → Prop} {J : List (List (List Int)) → World → (Nat → Prop) → Prop} (C : Int) (cn : Nat) (A : Option Addr) (ts : List T4) (n c : Nat) (A1 : Option Addr) (plan : List (List Int)) (m1 c1 : Nat) (A2 : Option Addr) (bs : List (List Int)) (m2 c2 : Nat) (w0 wE : World) (b2 b3 b4 b5 F bo : Nat)
 (hC : C = (cn : Int)) (hcn : 0 < cn) (c6 : cn ≤ 6) (hn : n = ts.length) (hA : RT w0 A ts) (hl : n ≤ 1000) (hm1 : m1 = plan.length) (hA1 : RR w0 A1 plan) (hm2 : m2 = bs.length) (hA2 : RR w0 A2 bs) (hsh : Shape plan bs) (hcol : ∀ t ∈ ts.map toS, Col cn t)
 (h0E : Below w0.heap.size w0 wE) (hXl : ∀ k, X k → w0.heap.size ≤ k) (hX : XOK X wE) (hfi : FIA wE F C cn A ts n c A1 plan m1 c1 A2 bs m2 c2) (hV : VIS X wE J) (hvis : VisitK X wE J 65 bo true) :
 ∀ (d p s : Nat) (pre : List Int) (lv : Value) (vs : List (List (List Int))) (ok : Nat → Prop) (W : World), p + d = places plan → pre.length = p → s < size cn plan → 0 < (fwd (stepI cn plan bs (ts.map toS)) (ts.map toS).length (size cn plan) p).getD s 0 → EV X wE W b2 b3 b4 b5 F (.func (.func 65) #[] #[.pointer (some ⟨bo, 0, none⟩)]) (rowLen plan 0) →
 OI W wE.heap.size 2 lv pre → (∀ k, W.heap.size ≤ k → ok k) → J vs W (fun k => ok k ∧ some k ≠ lv.ownBlock) → vs.length + (visL true (waysF (stepI cn plan bs (ts.map toS)) (ts.map toS).length d p s)).length ≤ 1000000 →
 Calls Try.prog 85 #[lv, .int .i64 s, .pointer (some ⟨b2, 0, none⟩), .pointer (some ⟨b4, 0, none⟩), .pointer (some ⟨b3, 0, none⟩), .pointer (some ⟨b5, 0, none⟩)] W fun e w' => e = .returned (.bool (true || (waysF (stepI cn plan bs (ts.map toS)) (ts.map toS).length d p s).isEmpty)) ∧ KE X wE w' ∧ FR W w' lv.ownBlock ∧ OI w' wE.heap.size 2 lv pre ∧
  J (vs ++ tellF (rowLen plan 0) plan.length pre (visL true (waysF (stepI cn plan bs (ts.map toS)) (ts.map toS).length d p s))) w' (fun k => ok k ∧ some k ≠ lv.ownBlock) := by
 have HC := Lib.hid hC; have HCN := Lib.hid hcn; have HN := Lib.hid hn; have HA := Lib.hid hA; have HM1 := Lib.hid hm1; have HA1 := Lib.hid hA1; have HM2 := Lib.hid hm2; have HA2 := Lib.hid hA2; have HSH := Lib.hid hsh; have HCOL := Lib.hid hcol
 have H0E := Lib.hid h0E; have HXL := Lib.hid hXl; have HX := Lib.hid hX; have HFI := Lib.hid hfi; have HV := Lib.hid hV; have HVIS := Lib.hid hvis
 clear hC hcn hn hA hm1 hA1 hm2 hA2 hsh hcol h0E hXl hX hfi hV hvis
 have hst : ∀ q, Stay (stepI cn plan bs (ts.map toS)) (ts.map toS).length (size cn plan) q := fun q => nx_stay false cn (rowLen plan 0) (ts.map toS) _ HCN.out HSH.out.w1 HCOL.out q
 have HST := Lib.hid hst; clear hst
 have hpl : places plan ≤ 25 := by unfold places; exact Nat.mul_le_mul HSH.out.h5 HSH.out.w5
 have hw0 : ∀ W : World, KE X wE W → Below w0.heap.size w0 W := fun W hk => hk.of H0E.out H0E.out.size HXL.out
 have HW0 := Lib.hid hw0; clear hw0
 intro d
 induction d with
 | zero =>
  as_aux_lemma =>
   intro p s pre lv vs ok W hpd hpl_ hs hfw hE hO hok hJ hvl
   obtain ⟨Al, cl, rfl, hRI, hcl⟩ := hO.reads
   rw [hpl_] at hcl hO hJ ⊢
   have HPL := Lib.hid hpl_; have HO := Lib.hid hO; have HJ := Lib.hid hJ; have HE := Lib.hid hE; have HOK := Lib.hid hok; have HRI := Lib.hid hRI; have HFW := Lib.hid hfw; have HVL := Lib.hid hvl; have HPD := Lib.hid hpd
   have h1 := HSH.out.h1; have h5 := HSH.out.h5; have w1 := HSH.out.w1; have w5 := HSH.out.w5
   have vP : ((p : Int) == ((places plan : Nat) : Int)) = true := by simp; omega
   have y2 : W.cell? ⟨b2, 0, none⟩ = some (.pointer (some ⟨F, 0, none⟩)) := hE.k2.cell rfl
   obtain ⟨-, -, -, -, ⟨-, -, k2, -⟩, -, -, -, -⟩ := (HFI.out.keep HX.out hE.ke)
   clear hpl_ hO hJ hE hok hRI hfw hvl hpd
   go_enter Try.func85, Try.ntmps85
   go_wp2_with fail
   refine (size_any A1 plan m1 c1 F W HM1.out (HA1.out.below (HW0.out _ HE.out.ke)) h1 h5 w5 k2).mono ?_
   rintro e Wa ⟨rfl, hba⟩
   have hEa := HE.out.below hba
   have hOa := HO.out.to hba
   have hJa := HV.out.below HJ.out hba
   have hFa : FR W Wa (Value.slice Al p cl).ownBlock := FR.of_below hba (Nat.le_refl _) _
   go_upto_region 4 with fail
   refine name1 ?_
   intro Wb bb hzb hbb
   have hEb := hEa.below hbb
   have hS0 : Kd.S (Kd.slice 2 (Kd.int .i64)) 56 Wb Wa.heap.size (fun _ => True) (.slice (some ⟨Wa.heap.size, 0, none⟩) 0 0) (cutR (rowLen plan 0) 0 pre) := S_empty bb (Nat.le_refl _) trivial
   obtain ⟨N, hN⟩ : ∃ N_, N_ = Wa.heap.size := ⟨_, rfl⟩
   rw [← hN] at hS0 ⊢
   have z2 : Wb.cell? ⟨b2, 0, none⟩ = some (.pointer (some ⟨F, 0, none⟩)) := hEb.k2.cell rfl
   have zk := cell_to hbb (cell_to hba k2)
   have HEb := Lib.hid hEb; have HS0 := Lib.hid hS0; have HBB := Lib.hid hbb; have HNN := Lib.hid hN
   have HEa := Lib.hid hEa; have HOa := Lib.hid hOa; have HJa := Lib.hid hJa; have HFa := Lib.hid hFa; have HBA := Lib.hid hba
   clear hEb hS0 hbb bb hzb hN hEa hOa hJa hFa y2 k2 hba
   go_wp2_with fail
   go_loopw [10, 27] (fun v i wr => ∃ y : Nat, y ≤ plan.length ∧ i = .int .i64 y ∧ Below Wa.heap.size Wa wr ∧ Kd.S (Kd.slice 2 (Kd.int .i64)) 56 wr N (fun _ => True) v (cutR (rowLen plan 0) y pre)) (fun _ i _ => plan.length - (intOf i).toNat)
   case atStart => exact ⟨0, by omega, rfl, HBB.out, HS0.out⟩
   case round =>
    obtain ⟨y, hy, rfl, hB, hS⟩ := hrel
    have hEr := HEa.out.below hB
    have z4 : wr.cell? ⟨b4, 0, none⟩ = some (.int .i64 (rowLen plan 0 : Nat)) := hEr.k4.cell rfl
    have HB := Lib.hid hB; have HS := Lib.hid hS; have HEr := Lib.hid hEr
    clear hB hS hEr
    by_cases hlt : y < plan.length
    ·have i1 : (y : Int) < m1 := by rw [HM1.out]; omega
     obtain ⟨a, ha⟩ : ∃ a : Nat, a = y * rowLen plan 0 := ⟨_, rfl⟩
     have hle : a + rowLen plan 0 ≤ p := by
      have h9 : (y + 1) * rowLen plan 0 ≤ plan.length * rowLen plan 0 := Nat.mul_le_mul_right _ hlt
      have h8 := HPD.out
      rw [Nat.succ_mul, ← ha] at h9
      unfold places at h8
      omega
     have e1 : (y : Int) * ((rowLen plan 0 : Nat) : Int) = (a : Int) := by rw [ha, Int.natCast_mul]
     have e2 : ((y : Int) + 1) * ((rowLen plan 0 : Nat) : Int) = (a : Int) + ((rowLen plan 0 : Nat) : Int) := by rw [Int.add_mul, e1, Int.one_mul]
     have hp25 : p ≤ 25 := by have h8 := HPD.out; omega
     have i5 : (a : Int) ≤ 25 := by omega
     have i6 : (a : Int) + ((rowLen plan 0 : Nat) : Int) ≤ 25 := by omega
     have i7 : (a : Int) ≤ (a : Int) + ((rowLen plan 0 : Nat) : Int) := by omega
     have i8 : (a : Int) + ((rowLen plan 0 : Nat) : Int) ≤ (cl : Int) := by omega
     have i9 : ¬ cl = a := by omega
     have HAA := Lib.hid ha
     clear ha
     obtain ⟨g, hgA⟩ : ∃ g : Nat, Al = some ⟨g, 0, none⟩ := by
      obtain ⟨gg, oo, he, -, -⟩ := HRI.out 0 (by rw [HPL.out]; omega)
      rcases HO.out.2 with ⟨hv, hn0⟩ | ⟨g', cap, cur, hv, -⟩
      ·rw [HPL.out] at hn0; omega
      ·injection hv with hv; exact ⟨g', hv⟩
     subst hgA
     have HSL := Lib.hid (RI.part (HRI.out) (a := a) (m := rowLen plan 0) (by rw [HPL.out]; exact hle))
     generalize hwd : rowLen plan 0 = wd at *
     go_wp2_with fail
     refine (CloneI_any ⟨g, a, none⟩ ((pre.drop a).take wd) wd (cl - a) wr (by rw [List.length_take, List.length_drop, HPL.out]; omega) (by omega) ((HSL.out.below HBA.out).below HB.out) (by omega)).mono ?_
     rintro e Wc ⟨gr, cr, rfl, hoc, hbc⟩
     have hgr : wr.heap.size ≤ gr := own_lo hoc gr rfl
     have hNr : N ≤ wr.heap.size := by rw [HNN.out]; exact HB.out.size
     have HROW := Lib.hid (show Kd.R (Kd.int .i64) 2 Wc N (fun _ => True) (.slice (some ⟨gr, 0, none⟩) wd cr) ((pre.drop a).take wd) from Kd.R_of_own (by
      have h := own_base hoc hNr
      have e : ((pre.drop a).take wd).length = wd := by rw [List.length_take, List.length_drop, HPL.out]; omega
      rw [e] at h ⊢; exact h) (fun _ _ => trivial))
     have HAK := Lib.hid (show ∀ k, some k = (Value.slice (some ⟨gr, 0, none⟩) wd cr).ownBlock → True ∧ some k ≠ u10.ownBlock from fun k hk => ⟨trivial, fun e => by
      have e2 : k = gr := Option.some.inj hk
      have := Kd.S_lt HS.out k e.symm
      omega⟩)
     have HSC := Lib.hid (show Kd.S (Kd.slice 2 (Kd.int .i64)) 56 Wc N (fun k => True ∧ ¬ some k = (Value.slice (some ⟨gr, 0, none⟩) wd cr).ownBlock) u10 (cutR wd y pre) from Kd.S_mono (Kd.S_old HS.out hbc) (fun k hk => ⟨trivial, fun e => by
      have e2 : k = gr := Option.some.inj e
      have := hk.2
      omega⟩))
     have HNC := Lib.hid (Nat.le_trans hNr hbc.size)
     have HBC := Lib.hid (HB.out.trans (hbc.mono HB.out.size))
     clear hoc hbc hgr hNr
     go_wp2_with (first | ((with_reducible refine gate_builtin (b := .append) (xs := #[.tmp 30, .tmp 41]) rfl ?_); at_builtin; refine Kd.S_append (Kd.slice 2 (Kd.int .i64)) (w0 := Wc) N rfl (.tmp 30) (.tmp 41) 22 56 (.slice none 0 0) 24 rfl Try.underlying22 info56 rfl (by decide) (by omega) u10 (cutR wd y pre) ((pre.drop a).take wd) [.slice (some ⟨gr, 0, none⟩) wd cr] (fun _ => True) (fun k_ => some k_ = (Value.slice (some ⟨gr, 0, none⟩) wd cr).ownBlock) rfl rfl ?aP ?aK ?aF ?aO ?aB ?aS ?aL ?_; (case aP => exact Kd.M_row (Kd.R_tight rfl HROW.out)); (case aK => exact HAK.out); (case aF => exact fun _ _ => trivial); (case aO => exact HSC.out); (case aB => exact Below.refl _ _); (case aS => exact HNC.out); (case aL => rw [cutR_len]; omega); intro v1 w1 ho hb hg hat; have HO1 := Lib.hid ho; have HB1 := Lib.hid hb; clear ho hb hg hat))
     go_roundw
     case rel => exact ⟨y + 1, by omega, by go_num, HBC.out.trans (by have h := HB1.out; rw [HNN.out] at h; exact h), by rw [cutR_snoc, ← HAA.out]; exact HO1.out⟩
     case measure => simp [intOf]; omega
    ·have i1 : ¬ (y : Int) < m1 := by rw [HM1.out]; omega
     have ey : y = plan.length := by omega
     have HEY := Lib.hid ey
     have y4 : wr.cell? ⟨b3, 0, none⟩ = some (.func (.func 65) #[] #[.pointer (some ⟨bo, 0, none⟩)]) := HEr.out.k3.cell rfl
     clear ey
     go_wp2_with fail
     refine (HVIS.out vs wr N (fun k => ok k ∧ some k ≠ (Value.slice Al p cl).ownBlock) u10 (cutR (rowLen plan 0) y pre) HEr.out.ke (by rw [HNN.out]; exact HEa.out.ke.size) (by rw [HNN.out]; exact HB.out.size) ?v1 ?v2 HS.out (by rw [cutR_len]; omega) (by rw [cutR_len]; omega)).mono ?_
     case v1 => have h := HVL.out; simp [waysF, visL] at h; omega
     case v2 => rw [HNN.out]; exact HV.out.step (HV.out.bound HJa.out) HB.out.size (fun k hk hlt => HB.out.block k hlt)
     rintro e w9 ⟨rfl, hk9, hf9, hj9⟩
     have HK9 := Lib.hid hk9; have HF9 := Lib.hid hf9; have HJ9 := Lib.hid hj9
     clear hk9 hf9 hj9
     go_wp2_with fail
     go_ret
     have hFw : FR W wr (Value.slice Al p cl).ownBlock := HFa.out.trans (FR.of_below HB.out (Nat.le_refl _) (Value.slice Al p cl).ownBlock) (.inl rfl)
     have hlt9 : ∀ k, (Value.slice Al p cl).ownBlock = some k → k < N := fun k hk => by rw [HNN.out]; exact (HOa.out.lt k hk).2
     have hOw : OI wr wE.heap.size 2 (.slice Al p cl) pre := HOa.out.to HB.out
     refine ⟨rfl, HK9.out, hFw.trans (HF9.out.wide _) (.inl rfl), HF9.out.oi hOw (fun k hk => by simp), ?_⟩
     have e : tellF (rowLen plan 0) plan.length pre (visL true (waysF (stepI cn plan bs (ts.map toS)) (ts.map toS).length 0 p s)) = [cutR (rowLen plan 0) y pre] := by simp [waysF, visL, tellF, HEY.out]
     rw [e]
     refine HV.out.mono HJ9.out (fun k hk => ?_)
     rcases hk with hk | hk
     ·exact hk
     ·refine ⟨HOK.out k (by rw [HNN.out] at hk; have := HBA.out.size; omega), fun e => by have := hlt9 k e.symm; omega⟩
 | succ d IH =>
  as_aux_lemma =>
   intro p s pre lv vs ok W hpd hpl_ hs hfw hE hO hok hJ hvl
   obtain ⟨Al, cl, rfl, hRI, hcl⟩ := hO.reads
   rw [hpl_] at hcl hO hJ ⊢
   have HPL := Lib.hid hpl_; have HO := Lib.hid hO; have HJ := Lib.hid hJ; have HE := Lib.hid hE; have HOK := Lib.hid hok; have HFW' := Lib.hid hfw; have HVL0 := Lib.hid hvl; have HPD := Lib.hid hpd
   have h1 := HSH.out.h1; have h5 := HSH.out.h5; have w1 := HSH.out.w1; have w5 := HSH.out.w5
   have vP : ((p : Int) == ((places plan : Nat) : Int)) = false := by simp; omega
   have y2 : W.cell? ⟨b2, 0, none⟩ = some (.pointer (some ⟨F, 0, none⟩)) := hE.k2.cell rfl
   obtain ⟨Ap, cp, ga, ca, ⟨f0, f1, f2, f3⟩, f4, z6, hRP, hRB⟩ := HFI.out
   have nz6 : ¬ X F := HX.out.cell F 0 _ f0 (by simp)
   have k2 := hE.ke.cell f2 nz6
   have hpp : p + 1 ≤ places plan := by omega
   have HFF := Lib.hid (And.intro f0 (And.intro f1 (And.intro f2 (And.intro f3 f4)))); have HZ6 := Lib.hid z6; have HRP := Lib.hid hRP; have HRB := Lib.hid hRB; have HNF := Lib.hid nz6
   clear hpl_ hO hJ hE hok hRI hfw hvl hpd f0 f1 f2 f3 f4 z6 hRP hRB nz6
   generalize hbq : (true || (waysF (stepI cn plan bs (ts.map toS)) (ts.map toS).length (d + 1) p s).isEmpty) = bq
   generalize htot : vs ++ tellF (rowLen plan 0) plan.length pre (visL true (waysF (stepI cn plan bs (ts.map toS)) (ts.map toS).length (d + 1) p s)) = tot
   have HBQ := Lib.hid hbq; have HTOT := Lib.hid htot
   clear hbq htot
   go_enter Try.func85, Try.ntmps85
   go_wp2_with fail
   refine (size_any A1 plan m1 c1 F W HM1.out (HA1.out.below (HW0.out _ HE.out.ke)) h1 h5 w5 k2).mono ?_
   rintro e Wa ⟨rfl, hba⟩
   have hEa := HE.out.below hba
   have y2 : Wa.cell? ⟨b2, 0, none⟩ = some (.pointer (some ⟨F, 0, none⟩)) := hEa.k2.cell rfl
   have y1 := hEa.ke.cell HFF.out.2.1 HNF.out
   have HOa := Lib.hid (HO.out.to hba); have HJa := Lib.hid (HV.out.below HJ.out hba); have HEa := Lib.hid hEa
   have HFa := Lib.hid (FR.of_below hba (Nat.le_refl _) (Value.slice Al p cl).ownBlock)
   clear hEa hba
   go_wp2_with fail
   go_loopw [53] (fun v wr => ∃ i : Nat, i ≤ n ∧ v = .int .i64 i ∧ KE X wE wr ∧ FR W wr (Value.slice Al p cl).ownBlock ∧ OI wr wE.heap.size 2 (.slice Al p cl) pre ∧ J (vs ++ tellF (rowLen plan 0) plan.length pre (visL true (ahead (stepI cn plan bs (ts.map toS)) (ts.map toS).length d p s i))) wr (fun k => ok k ∧ some k ≠ (Value.slice Al p cl).ownBlock) ∧ (true = true ∨ ahead (stepI cn plan bs (ts.map toS)) (ts.map toS).length d p s i = [])) (fun v _ => n - (intOf v).toNat)
   case atStart => exact ⟨0, Nat.zero_le _, rfl, HEa.out.ke, HFa.out, HOa.out, by rw [ahead_zero]; simpa [visL, tellF] using HJa.out, .inr rfl⟩
   case round =>
    obtain ⟨i, hi, rfl, hK, hFW, hO, hJ, hq⟩ := hrel
    have hE := HE.out.far hK hFW HO.out.typed
    have hpl25 : p ≤ 24 := by omega
    by_cases hlt : i < n
    ·have i1 : (i : Int) < n := by omega
     have hiL : i < (ts.map toS).length := by rw [List.length_map, ← HN.out]; exact hlt
     have y2 : wr.cell? ⟨b2, 0, none⟩ = some (.pointer (some ⟨F, 0, none⟩)) := hE.k2.cell rfl
     have HK := Lib.hid hK; have HFW := Lib.hid hFW; have HOr := Lib.hid hO; have HJr := Lib.hid hJ; have HQ := Lib.hid hq; have HEr := Lib.hid hE; have HIL := Lib.hid hiL
     clear hK hFW hO hJ hq hE hiL
     go_wp2_with fail
     refine (ifits_any C cn A ts n c A1 plan m1 c1 A2 bs m2 c2 Ap (powL cn (rowLen plan 0)) (rowLen plan 0 + 1) cp F p s i wr HC.out HCN.out c6 HN.out (HA.out.below (HW0.out _ HK.out)) (by omega) HM1.out (HA1.out.below (HW0.out _ HK.out)) HM2.out (HA2.out.below (HW0.out _ HK.out)) (by rw [powL_len]) ?fp HSH.out (by rw [powL_len]) (fun k hk => powL_at _ _ _ hk) HCOL.out (HK.out.cell HFF.out.1 HNF.out) (HK.out.cell HFF.out.2.1 HNF.out) (HK.out.cell HFF.out.2.2.1 HNF.out) (HK.out.cell HFF.out.2.2.2.1 HNF.out) (HK.out.cell HFF.out.2.2.2.2 HNF.out) (by omega) hs (by rw [← HN.out]; exact hlt)).mono ?_
     case fp =>
      intro k hx
      obtain ⟨b, o, e, hb, hc⟩ := HRP.out k hx
      exact ⟨b, o, e, Nat.lt_of_lt_of_le hb HK.out.size, HK.out.cell hc (HX.out.cell _ _ _ hc (by simp))⟩
     rintro e W42 ⟨rfl, hb42⟩
     have hE := HEr.out.below hb42
     have hFW : FR W W42 (Value.slice Al p cl).ownBlock := HFW.out.trans (FR.of_below hb42 (Nat.le_refl _) (Value.slice Al p cl).ownBlock) (.inl rfl)
     have hO := HOr.out.to hb42
     have hJ := HV.out.below HJr.out hb42
     clear hb42 y2
     generalize hT : (stepI cn plan bs (ts.map toS)) p s i = o
     cases o with
     | none =>
      as_aux_lemma =>
       have HT3 := Lib.hid hT
       have HE4 := Lib.hid hE; have HF4 := Lib.hid hFW; have HO4 := Lib.hid hO; have HJ4 := Lib.hid hJ
       clear hT hE hFW hO hJ
       simp only [outI, someB]
       go_upto_region 14 with fail
       refine wp_region_gro (by kernel_rfl) (by kernel_rfl) ?_
       repeat (first | go_big_quiet_step (fail) | quiet_step (fail))
       refine wpQuiet_nil ?_
       intro W43 hB43
       have HB43 := Lib.hid hB43; clear hB43
       go_wp2_with fail
       go_roundw
       case rel => exact ⟨i + 1, hlt, by go_num, HE4.out.ke.below HB43.out HE4.out.ke.size, HF4.out.trans (FR.of_below HB43.out (Nat.le_refl _) (Value.slice Al p cl).ownBlock) (.inl rfl), HO4.out.to HB43.out, by rw [on_dead (branch_none HT3.out)]; exact HV.out.below HJ4.out HB43.out, by rw [on_dead (branch_none HT3.out)]; first | exact .inl rfl | exact HQ.out⟩
       case measure => simp [intOf]; omega
     | some b =>
      as_aux_lemma =>
       have hbz : b < size cn plan := HST.out p s i b hs HIL.out hT
       have hfb : 0 < (fwd (stepI cn plan bs (ts.map toS)) (ts.map toS).length (size cn plan) (p + 1)).getD b 0 := fwd_pos _ _ _ p s i b (fun j _ => HST.out j) hs HIL.out hT HFW'.out
       obtain ⟨gq, cq, lga, lgq, zq, zb⟩ := HRB.out (p + 1) b (by rw [alvL_len]; omega) (by rw [alvL_get _ _ _ _ _ _ hpp (Nat.zero_le _), alvRow_len]; exact hbz)
       rw [alvL_get _ _ _ _ _ _ hpp (Nat.zero_le _), alvRow_len] at zq
       rw [alvL_get _ _ _ _ _ _ hpp (Nat.zero_le _), alvRow_get _ _ _ _ _ _ hbz] at zb
       have hal : alvAt (stepI cn plan bs (ts.map toS)) (ts.map toS).length (size cn plan) (places plan) (p + 1) b = decide (0 < onw (stepI cn plan bs (ts.map toS)) (ts.map toS).length d (p + 1) b) := by
        unfold alvAt onB
        rw [show places plan - (p + 1) = d by have := HPD.out; omega]
        have h0 : ¬ ik (fwd (stepI cn plan bs (ts.map toS)) (ts.map toS).length (size cn plan) (p + 1)) b = 0 := by unfold ik; omega
        rw [decide_eq_false h0]; rfl
       rw [hal] at zb
       have nzq : ¬ X ga := HX.out.cell _ _ _ zq (by intro A_ c_ e_; injection e_ with _ e_; omega)
       have nzb : ¬ X gq := HX.out.cell _ _ _ zb (by simp)
       have HBZ := Lib.hid hbz; have HFB := Lib.hid hfb; have HT3 := Lib.hid hT
       have i11 : (b : Int) < ((size cn plan : Nat) : Int) := by omega
       have i12 : (p : Int) + 1 < (places plan : Int) + 1 := by omega
       have i13 : (0 : Int) ≤ (p : Int) + 1 := by omega
       have i14 : ((p + 1 : Nat) : Int) < (places plan : Int) + 1 := by omega
       have i15 : p + 1 < places plan + 1 := by omega
       simp only [outI, someB]
       clear hal hbz hfb hT
       by_cases hp : 0 < onw (stepI cn plan bs (ts.map toS)) (ts.map toS).length d (p + 1) b
       ·rw [decide_eq_true hp] at zb
        have HNE := Lib.hid (ways_ne hp); have HP := Lib.hid hp
        have hvl2 := vis_le true HIL.out HT3.out (by first | exact .inl rfl | exact HQ.out) HVL0.out
        have HVL := Lib.hid (show (vs ++ tellF (rowLen plan 0) plan.length pre (visL true (ahead (stepI cn plan bs (ts.map toS)) (ts.map toS).length d p s i))).length + (visL true (waysF (stepI cn plan bs (ts.map toS)) (ts.map toS).length d (p + 1) b)).length ≤ 1000000 by rw [List.length_append, tell_len]; exact hvl2)
        have z6 := HZ6.out; have nz6 := HNF.out
        clear hp hvl2
        go_upto_region 14 with fail
        have hD := (Below.refl W42.heap.size W42).drew
        refine start_ (n := 24) (S := fun w' => w'.cell? ⟨b2, 0, none⟩ = some (.pointer (some ⟨F, 0, none⟩)) ∧ w'.cell? ⟨F, 6, none⟩ = some (.slice (some ⟨ga, 0, none⟩) (places plan + 1) ca) ∧ w'.cell? ⟨ga, p + 1, none⟩ = some (.slice (some ⟨gq, 0, none⟩) (size cn plan) cq) ∧ w'.cell? ⟨gq, b, none⟩ = some (.bool true) ∧ w'.cell? ⟨b5, 0, none⟩ = some (.func (.func 85) #[] #[.pointer (some ⟨b2, 0, none⟩), .pointer (some ⟨b4, 0, none⟩), .pointer (some ⟨b3, 0, none⟩), .pointer (some ⟨b5, 0, none⟩)])) (ds := [21]) #[f_,f_,f_,f_,f_,f_,f_,f_,f_,f_,f_,f_,f_,f_,f_,f_,f_,f_,f_,f_,f_,f_,f_,f_] (by kernel_rfl) rfl rfl ⟨hE.k2.cell rfl, hE.ke.cell z6 nz6, hE.ke.cell zq nzq, hE.ke.cell zb nzb, hE.k5.cell rfl⟩ (fun hHeld => ?_)
        refine with_tabW fillL_tab14 fillL_bits14 (fun HT_ HW_ => ?_)
        replace hE := hE.below hD
        replace hO := hO.to hD
        replace hJ := HV.out.below hJ hD
        replace hFW := hFW.trans (FR.of_below hD (Nat.le_refl _) (Value.slice Al p cl).ownBlock) (.inl rfl)
        generalize W42.drew = wd at hD hE hO hJ hFW hHeld ⊢
        refine p_ 0 64 ?_ #[t_,f_,f_,f_,f_,f_,f_,f_,f_,f_,f_,f_,f_,f_,f_,f_,f_,f_,f_,f_,f_,f_,f_,f_] rfl rfl HT_.out (by kernel_rfl) (fun _ _ _ h => h) (.inl ⟨by rfl, ?_⟩) ?_ ?_ ?_
        rotate_left
        ·intro w'
         go_simp
         with_reducible rfl
        rotate_left
        ·simp only [Q_]
         rfl
        refine p_ 1 65 ?_ #[t_,t_,f_,f_,f_,f_,f_,f_,f_,f_,f_,f_,f_,f_,f_,f_,f_,f_,f_,f_,f_,f_,f_,f_] rfl rfl HT_.out (by kernel_rfl) (fun _ _ _ h => h) (.inl ⟨by rfl, ?_⟩) ?_ ?_ ?_
        rotate_left
        ·intro w'
         go_simp
         with_reducible rfl
        rotate_left
        ·simp only [Q_]
         rfl
        refine p_ 6 70 ?_ #[t_,t_,f_,f_,f_,f_,t_,f_,f_,f_,f_,f_,f_,f_,f_,f_,f_,f_,f_,f_,f_,f_,f_,f_] rfl rfl HT_.out (by kernel_rfl) (fun _ _ _ h => h) (.inl ⟨by rfl, ?_⟩) ?_ ?_ ?_
        rotate_left
        ·intro w'
         go_simp
         with_reducible rfl
        rotate_left
        ·simp only [Q_]
         rfl
        refine p_ 7 71 ?_ #[t_,t_,f_,f_,f_,f_,t_,t_,f_,f_,f_,f_,f_,f_,f_,f_,f_,f_,f_,f_,f_,f_,f_,f_] rfl rfl HT_.out (by kernel_rfl) (fun _ _ _ h => h) (.inl ⟨by rfl, ?_⟩) ?_ ?_ ?_
        rotate_left
        ·intro w'
         go_simp
         with_reducible rfl
        rotate_left
        ·simp only [Q_]
         rfl
        rw [succ_wrap p (by omega)]
        refine p_ 10 74 ?_ #[t_,t_,f_,f_,f_,f_,t_,t_,f_,f_,t_,f_,f_,f_,f_,f_,f_,f_,f_,f_,f_,f_,f_,f_] rfl rfl HT_.out (by kernel_rfl) (fun _ _ _ h => h) (.inl ⟨by rfl, ?_⟩) ?_ ?_ ?_
        rotate_left
        ·intro w'
         go_simp
         with_reducible rfl
        rotate_left
        ·simp only [Q_]
         rfl
        refine tk_ 2 66 ?_ #[t_,t_,t_,f_,f_,f_,t_,t_,f_,f_,t_,f_,f_,f_,f_,f_,f_,f_,f_,f_,f_,f_,f_,f_] rfl rfl (take_ofW HT_.out HW_.out (by kernel_rfl)) (fun _ _ _ h => h) (.inl ⟨by rfl, ?_⟩) hHeld ?_ ?_ ?_
        rotate_left
        ·rintro w' ⟨s0, s1, s2, s3, s4⟩
         go_simp
         with_reducible rfl
        rotate_left
        ·simp only [Q_]
         rfl
        refine p_ 3 67 ?_ #[t_,t_,t_,t_,f_,f_,t_,t_,f_,f_,t_,f_,f_,f_,f_,f_,f_,f_,f_,f_,f_,f_,f_,f_] rfl rfl HT_.out (by kernel_rfl) (fun _ _ _ h => h) (.inl ⟨by rfl, ?_⟩) ?_ ?_ ?_
        rotate_left
        ·intro w'
         go_simp
         with_reducible rfl
        rotate_left
        ·simp only [Q_]
         rfl
        refine p_ 4 68 ?_ #[t_,t_,t_,t_,t_,f_,t_,t_,f_,f_,t_,f_,f_,f_,f_,f_,f_,f_,f_,f_,f_,f_,f_,f_] rfl rfl HT_.out (by kernel_rfl) (fun _ _ _ h => h) (.inl ⟨by rfl, ?_⟩) ?_ ?_ ?_
        rotate_left
        ·intro w'
         go_simp
         with_reducible rfl
        rotate_left
        ·simp only [Q_]
         rfl
        refine tk_ 5 69 ?_ #[t_,t_,t_,t_,t_,t_,t_,t_,f_,f_,t_,f_,f_,f_,f_,f_,f_,f_,f_,f_,f_,f_,f_,f_] rfl rfl (take_ofW HT_.out HW_.out (by kernel_rfl)) (fun _ _ _ h => h) (.inl ⟨by rfl, ?_⟩) hHeld ?_ ?_ ?_
        rotate_left
        ·rintro w' ⟨s0, s1, s2, s3, s4⟩
         go_simp
         with_reducible rfl
        rotate_left
        ·simp only [Q_]
         rfl
        refine p_ 8 72 ?_ #[t_,t_,t_,t_,t_,t_,t_,t_,t_,f_,t_,f_,f_,f_,f_,f_,f_,f_,f_,f_,f_,f_,f_,f_] rfl rfl HT_.out (by kernel_rfl) (fun _ _ _ h => h) (.inl ⟨by rfl, ?_⟩) ?_ ?_ ?_
        rotate_left
        ·intro w'
         go_simp
         with_reducible rfl
        rotate_left
        ·simp only [Q_]
         rfl
        refine tk_ 9 73 ?_ #[t_,t_,t_,t_,t_,t_,t_,t_,t_,t_,t_,f_,f_,f_,f_,f_,f_,f_,f_,f_,f_,f_,f_,f_] rfl rfl (take_ofW HT_.out HW_.out (by kernel_rfl)) (fun _ _ _ h => h) (.inl ⟨by rfl, ?_⟩) hHeld ?_ ?_ ?_
        rotate_left
        ·rintro w' ⟨s0, s1, s2, s3, s4⟩
         go_simp
         with_reducible rfl
        rotate_left
        ·simp only [Q_]
         rfl
        refine p_ 11 75 ?_ #[t_,t_,t_,t_,t_,t_,t_,t_,t_,t_,t_,t_,f_,f_,f_,f_,f_,f_,f_,f_,f_,f_,f_,f_] rfl rfl HT_.out (by kernel_rfl) (fun _ _ _ h => h) (.inl ⟨by rfl, ?_⟩) ?_ ?_ ?_
        rotate_left
        ·intro w'
         go_simp
         with_reducible rfl
        rotate_left
        ·simp only [Q_]
         rfl
        refine tk_ 12 76 ?_ #[t_,t_,t_,t_,t_,t_,t_,t_,t_,t_,t_,t_,t_,f_,f_,f_,f_,f_,f_,f_,f_,f_,f_,f_] rfl rfl (take_ofW HT_.out HW_.out (by kernel_rfl)) (fun _ _ _ h => h) (.inl ⟨by rfl, ?_⟩) hHeld ?_ ?_ ?_
        rotate_left
        ·rintro w' ⟨s0, s1, s2, s3, s4⟩
         go_simp
         with_reducible rfl
        rotate_left
        ·simp only [Q_]
         rfl
        refine p_ 13 77 ?_ #[t_,t_,t_,t_,t_,t_,t_,t_,t_,t_,t_,t_,t_,t_,f_,f_,f_,f_,f_,f_,f_,f_,f_,f_] rfl rfl HT_.out (by kernel_rfl) (fun _ _ _ h => h) (.inl ⟨by rfl, ?_⟩) ?_ ?_ ?_
        rotate_left
        ·intro w'
         go_simp
         with_reducible rfl
        rotate_left
        ·simp only [Q_]
         rfl
        refine p_ 14 78 ?_ #[t_,t_,t_,t_,t_,t_,t_,t_,t_,t_,t_,t_,t_,t_,t_,f_,f_,f_,f_,f_,f_,f_,f_,f_] rfl rfl HT_.out (by kernel_rfl) (fun _ _ _ h => h) (.inl ⟨by rfl, ?_⟩) ?_ ?_ ?_
        rotate_left
        ·intro w'
         go_simp
         with_reducible rfl
        rotate_left
        ·simp only [Q_]
         rfl
        refine p_ 16 80 ?_ #[t_,t_,t_,t_,t_,t_,t_,t_,t_,t_,t_,t_,t_,t_,t_,f_,t_,f_,f_,f_,f_,f_,f_,f_] rfl rfl HT_.out (by kernel_rfl) (fun _ _ _ h => h) (.inl ⟨by rfl, ?_⟩) ?_ ?_ ?_
        rotate_left
        ·intro w'
         go_simp
         with_reducible rfl
        rotate_left
        ·simp only [Q_]
         rfl
        refine p_ 17 81 ?_ #[t_,t_,t_,t_,t_,t_,t_,t_,t_,t_,t_,t_,t_,t_,t_,f_,t_,t_,f_,f_,f_,f_,f_,f_] rfl rfl HT_.out (by kernel_rfl) (fun _ _ _ h => h) (.inl ⟨by rfl, ?_⟩) ?_ ?_ ?_
        rotate_left
        ·intro w'
         go_simp
         with_reducible rfl
        rotate_left
        ·simp only [Q_]
         rfl
        refine p_ 20 84 ?_ #[t_,t_,t_,t_,t_,t_,t_,t_,t_,t_,t_,t_,t_,t_,t_,f_,t_,t_,f_,f_,t_,f_,f_,f_] rfl rfl HT_.out (by kernel_rfl) (fun _ _ _ h => h) (.inl ⟨by rfl, ?_⟩) ?_ ?_ ?_
        rotate_left
        ·intro w'
         go_simp
         with_reducible rfl
        rotate_left
        ·simp only [Q_]
         rfl
        refine tk_ 15 79 ?_ #[t_,t_,t_,t_,t_,t_,t_,t_,t_,t_,t_,t_,t_,t_,t_,t_,t_,t_,f_,f_,t_,f_,f_,f_] rfl rfl (take_ofW HT_.out HW_.out (by kernel_rfl)) (fun _ _ _ h => h) (.inl ⟨by rfl, ?_⟩) hHeld ?_ ?_ ?_
        rotate_left
        ·rintro w' ⟨s0, s1, s2, s3, s4⟩
         go_simp
         with_reducible rfl
        rotate_left
        ·simp only [Q_]
         rfl
        refine one_ (i := 18) (N := some 82) #[t_,t_,t_,t_,t_,t_,t_,t_,t_,t_,t_,t_,t_,t_,t_,t_,t_,t_,t_,f_,t_,f_,f_,f_] rfl rfl (one_of HT_.out (by kernel_rfl)) (by decide) (fun K hK => ?_)
        refine value_ (w1 := ?_) (v := ?_) (by rfl) rfl ?_ ?_
        rotate_left 2
        ·go_simp
         constructor
         ·rfl
         ·rfl
        refine hK.out _ _ ⟨cell_to (below_alloc (Below.refl _ _) _) hHeld.1, cell_to (below_alloc (Below.refl _ _) _) hHeld.2.1, cell_to (below_alloc (Below.refl _ _) _) hHeld.2.2.1, cell_to (below_alloc (Below.refl _ _) _) hHeld.2.2.2.1, cell_to (below_alloc (Below.refl _ _) _) hHeld.2.2.2.2⟩ (fun hHeld => ?_)
        clear hK K
        refine norm_ (a' := ?_) ?_ ?_
        rotate_left
        ·show Act.put _ (some 82) _ = _
         simp only [Q_]
         rfl
        refine one_ (i := 19) (N := some 83) #[t_,t_,t_,t_,t_,t_,t_,t_,t_,t_,t_,t_,t_,t_,t_,t_,t_,t_,t_,t_,t_,f_,f_,f_] rfl rfl (one_of HT_.out (by kernel_rfl)) (by decide) (fun K hK => ?_)
        refine app_cap_step (w0 := wd) wE.heap.size (by rfl) (.tmp 80) (.tmp 82) 56 2 rfl Try.underlying56 info2 (.slice Al p cl) pre (i : Int) rfl rfl ?aO (Below.refl _ _) ?aS ?aL ?_
        (case aO => exact hO)
        (case aS => exact hE.ke.size)
        (case aL => have := HPL.out; omega)
        intro lv1 w1 hO1 hB1 hcs
        have hgr := grown_of hcs
        have hF1 : FR wd w1 (Value.slice Al p cl).ownBlock := hgr.1
        have hK1 : KE X wE w1 := hE.ke.grown hgr.2.1 (fun k hk => own_lo hO k hk)
        have hE1 := hE.far hK1 hF1 hO.typed
        have hI1 := HFI.out.keep HX.out hK1
        refine hK.out _ _ ⟨hE1.k2.cell rfl, hK1.cell z6 nz6, hK1.cell zq nzq, hK1.cell zb nzb, hE1.k5.cell rfl⟩ (fun hHeld => ?_)
        clear hK K
        refine norm_ (a' := ?_) ?_ ?_
        rotate_left
        ·show Act.put _ (some 83) _ = _
         simp only [Q_]
         rfl
        refine last_ (i := 21) (N := some 85) #[t_,t_,t_,t_,t_,t_,t_,t_,t_,t_,t_,t_,t_,t_,t_,t_,t_,t_,t_,t_,t_,t_,f_,f_] rfl rfl (one_of HT_.out (by kernel_rfl)) (by decide) (fun K hK => ?_)
        refine goesV_ Try.func85 (by kernel_rfl) rfl #[lv1, .int .i64 b] #[.pointer (some ⟨b2, 0, none⟩), .pointer (some ⟨b4, 0, none⟩), .pointer (some ⟨b3, 0, none⟩), .pointer (some ⟨b5, 0, none⟩)] #[lv1, .int .i64 b, .pointer (some ⟨b2, 0, none⟩), .pointer (some ⟨b4, 0, none⟩), .pointer (some ⟨b3, 0, none⟩), .pointer (some ⟨b5, 0, none⟩)] (by rfl) rfl rfl rfl (by simp only [q4_, q5_, q6_]; rfl) (by first | rfl | simp) ?_
        with_reducible refine (IH (p + 1) b (pre ++ [(i : Int)]) lv1 (vs ++ tellF (rowLen plan 0) plan.length pre (visL true (ahead (stepI cn plan bs (ts.map toS)) (ts.map toS).length d p s i))) (fun k => ok k ∧ some k ≠ (Value.slice Al p cl).ownBlock) w1 (by have := HPD.out; omega) (by simp [HPL.out]) HBZ.out HFB.out hE1 hO1 ?c1 ?c2 ?c3).mono ?_
        (case c1 => exact fun k hk => fresh_ok hO hFW hF1 HOK.out k hk)
        (case c2 => exact after_app HV.out hJ hgr)
        (case c3 => exact HVL.out)
        rintro e w2 ⟨he, hK2, hF2, hO2, hJ2⟩
        rw [HNE.out, Bool.or_false] at he
        subst he
        refine ⟨_, rfl, ?_⟩
        refine hK.out _ _ ?_
        clear hK K
        refine norm_ (a' := ?_) ?_ ?_
        rotate_left
        ·show Act.put _ (some 85) _ = _
         simp only [Q_]
         rfl
        refine p_ 22 86 ?_ #[t_,t_,t_,t_,t_,t_,t_,t_,t_,t_,t_,t_,t_,t_,t_,t_,t_,t_,t_,t_,t_,t_,t_,f_] rfl rfl HT_.out (by kernel_rfl) (fun _ _ _ h => h) (.inl ⟨by rfl, ?_⟩) ?_ ?_ ?_
        rotate_left
        ·intro w'
         go_simp
         with_reducible rfl
        rotate_left
        ·simp only [Q_]
         rfl
        refine p_ 23 87 ?_ #[t_,t_,t_,t_,t_,t_,t_,t_,t_,t_,t_,t_,t_,t_,t_,t_,t_,t_,t_,t_,t_,t_,t_,t_] rfl rfl HT_.out (by kernel_rfl) (fun _ _ _ h => h) (.inl ⟨by rfl, ?_⟩) ?_ ?_ ?_
        rotate_left
        ·intro w'
         go_simp
         with_reducible rfl
        rotate_left
        ·simp only [Q_]
         rfl
        refine done_ (done_of HT_.out (by kernel_rfl)) ?_
        have hbk := back_own hO hcs hF2 hO2
        have HK2 := Lib.hid hK2; have HO2 := Lib.hid hbk.1; have HF2 := Lib.hid (hFW.trans hbk.2 (.inl rfl))
        have hJ3 := HV.out.mono hJ2 (fun k hk => hk.1)
        rw [List.append_assoc] at hJ3
        have HJ2 := Lib.hid hJ3
        clear hK2 hbk hF2 hO2 hJ2 hJ3 hcs hO1 hB1 hgr hF1 hK1 hE1 hI1 hE hFW hO hJ hD zq zb z6 nz6 nzq nzb HT_ HW_
        try clear hHeld
        go_wp2_with fail
        go_roundw
        case rel => exact ⟨i + 1, hlt, by go_num, HK2.out, HF2.out, HO2.out, by rw [← on_true (rowLen plan 0) plan.length pre HT3.out]; exact HJ2.out, .inl (by trivial)⟩
        case measure => simp [intOf]; omega
       ·rw [decide_eq_false hp] at zb
        have HP := Lib.hid hp
        have y2 : W42.cell? ⟨b2, 0, none⟩ = some (.pointer (some ⟨F, 0, none⟩)) := hE.k2.cell rfl
        have y6 := hE.ke.cell HZ6.out HNF.out
        have yq := hE.ke.cell zq nzq
        have yb := hE.ke.cell zb nzb
        have l2 := World.block_lt_of_cell? _ _ y2; have l6 := World.block_lt_of_cell? _ _ y6; have lq := World.block_lt_of_cell? _ _ yq; have lb := World.block_lt_of_cell? _ _ yb
        simp only at l2 l6 lq lb
        have HE4 := Lib.hid hE; have HF4 := Lib.hid hFW; have HO4 := Lib.hid hO; have HJ4 := Lib.hid hJ
        clear hE hFW hO hJ hp zq zb nzq nzb lga lgq
        go_upto_region 14 with fail
        refine wp_region_gro (by kernel_rfl) (by kernel_rfl) ?_
        repeat (first | go_big_quiet_step (fail) | quiet_step (fail))
        refine wpQuiet_nil ?_
        intro W43 hB43
        have HB43 := Lib.hid hB43; clear hB43
        go_wp2_with fail
        go_roundw
        case rel => exact ⟨i + 1, hlt, by go_num, HE4.out.ke.below HB43.out HE4.out.ke.size, HF4.out.trans (FR.of_below HB43.out (Nat.le_refl _) (Value.slice Al p cl).ownBlock) (.inl rfl), HO4.out.to HB43.out, by rw [on_dead (branch_dead HT3.out HP.out)]; exact HV.out.below HJ4.out HB43.out, by rw [on_dead (branch_dead HT3.out HP.out)]; first | exact .inl rfl | exact HQ.out⟩
        case measure => simp [intOf]; omega
    ·have i1 : ¬ (i : Int) < n := by omega
     have ei : i = (ts.map toS).length := by rw [List.length_map, ← HN.out]; omega
     have HEI := Lib.hid ei
     have HK := Lib.hid hK; have HFW := Lib.hid hFW; have HOr := Lib.hid hO; have HJr := Lib.hid hJ; have HQ := Lib.hid hq
     clear ei hK hFW hO hJ hq hE
     go_wp2_with fail
     go_ret
     have hJ := HJr.out
     have hq := HQ.out
     rw [HEI.out, ahead_all] at hJ hq
     rw [HTOT.out] at hJ
     refine ⟨?_, HK.out, HFW.out, HOr.out, hJ⟩
     rw [← HBQ.out]
     rcases hq with hq | hq
     ·first | rfl | cases hq
     ·rw [hq]; rfl
end Go.Proofs.Ytcaikaflpmaocaa

/-
  Contract: the lasting tiles in the program. (mkkeepi.py wrote it.)
-/
import Derived.Test.YtgdmflmglkakgaaMapB
import Derived.Test.YtgdmflmglkakgaaPKeepP
import Derived.Test.YtgdmflmglkakgaaIsSet2
import Derived.Deep.CutBlock
namespace Go.Proofs.Ytgdmflmglkakgaa
open Go Go.RowKit Go.Proofs Go.Proofs.YtgdmflmglkakgaaW.PrintWords Go.Proofs.YtgdmflmglkakgaaW.PrintLast Go.Proofs.YtgdmflmglkakgaaW.PrintMore
set_option linter.unusedVariables false
set_option linter.unusedSimpArgs false

def kp_T9 : Bool × List (List Nat × List Nat) := (true, [([], []), ([0], [0]), ([1], [1]), ([], []), ([3], [3]), ([4], [4]), ([2, 5, 0, 1, 2, 3, 4, 5], [2, 5])])
def kp_B9 : List Nat := [0, 1, 3, 0, 8, 24, 63]
theorem kp_tab9 : rtab .any (opsOf Try.f46 9) = kp_T9 := by kernel_rfl
theorem kp_bits9 : waitsOk kp_T9.2 kp_B9 = true := by kernel_rfl
def mv (b : Nat → Nat) (s j : Nat) : Value := if j < s then .map (some (b j)) else .map none
def arrM (b : Nat → Nat) (s : Nat) : Array Value := #[mv b s 0, mv b s 1, mv b s 2, mv b s 3]
def upd (b : Nat → Nat) (s q : Nat) : Nat → Nat := fun j => if j = s then q else b j
theorem arr_upd0 (b : Nat → Nat) (q : Nat) : (arrM b 0).setIfInBounds 0 (.map (some q)) = arrM (upd b 0 q) 1 := by simp [arrM, mv, upd]
theorem arr_upd1 (b : Nat → Nat) (q : Nat) : (arrM b 1).setIfInBounds 1 (.map (some q)) = arrM (upd b 1 q) 2 := by simp [arrM, mv, upd]
theorem arr_upd2 (b : Nat → Nat) (q : Nat) : (arrM b 2).setIfInBounds 2 (.map (some q)) = arrM (upd b 2 q) 3 := by simp [arrM, mv, upd]
theorem arr_upd3 (b : Nat → Nat) (q : Nat) : (arrM b 3).setIfInBounds 3 (.map (some q)) = arrM (upd b 3 q) 4 := by simp [arrM, mv, upd]
/-- the numbers at side s of the first k tiles -/
def sideP (T : List T4) (s k : Nat) (x : Int) : Bool := (T.take k).any fun t => decide (x = t.get s)
theorem sideP_succ {T : List T4} {s k : Nat} (hk : k < T.length) (x : Int) : sideP T s (k + 1) x = (decide (x = (tk T k).get s) || sideP T s k x) := by
  unfold sideP
  rw [List.take_succ_eq_append_getElem hk, List.any_append, tk_get hk, Bool.or_comm]
  simp
theorem sideP_zero (T : List T4) (s : Nat) (x : Int) : sideP T s 0 x = false := by simp [sideP]
theorem last_side (T : List T4) (t : T4) : lastT T t = (sideP T 2 T.length (t.get 0) && sideP T 0 T.length (t.get 2)) := by
  unfold lastT sideP
  rw [List.take_length]
  congr 1 <;> (congr 1; funext u; simp [eq_comm])
/-- what stands while the maps are laid: s of them -/
structure MW (wo wr : World) (B3 : Nat) (T : List T4) (b : Nat → Nat) (s : Nat) : Prop where
  be : Below wo.heap.size wo wr
  lo : wo.heap.size ≤ B3
  ar : BK wr B3 (arrM b s) 79
  mp : ∀ j, j < s → SetM wr (b j) 1000 (sideP T j T.length) ∧ b j ≠ B3
theorem nameK {P : Program} {c : Code} {Q : Exit → Act → World → Prop} {a : Act} {w : World} {C1 : Array Value} {E1 : TypeId}
    (h : ∀ W, BK W w.heap.size C1 E1 → Below w.heap.size w W → c.wp P Q a W) : c.wp P Q a (w.alloc (.cells C1 E1)) := h _ (BK.new _ _ _) (below_alloc (Below.refl _ _) _)
theorem nameA {P : Program} {c : Code} {Q : Exit → Act → World → Prop} {a : Act} {w : World} {E : TypeId} {x0 x1 x2 x3 u0 u1 u2 u3 : Value}
    (h : ∀ W, BK W w.heap.size #[u0, u1, u2, u3] E → Below w.heap.size w W → c.wp P Q a W) :
    c.wp P Q a (((((w.alloc (.cells #[x0, x1, x2, x3] E)).setCell ⟨w.heap.size, 0, none⟩ u0).setCell ⟨w.heap.size, 1, none⟩ u1).setCell ⟨w.heap.size, 2, none⟩ u2).setCell ⟨w.heap.size, 3, none⟩ u3) :=
  h _ (((((BK.new w #[x0, x1, x2, x3] E).set 0 u0).set 1 u1).set 2 u2).set 3 u3) ((((((Below.refl _ _).alloc (Nat.le_refl _) _).setCell (Nat.le_refl _) _).setCell (Nat.le_refl _) _).setCell (Nat.le_refl _) _).setCell (Nat.le_refl _) _)
theorem nameMp {P : Program} {c : Code} {Q : Exit → Act → World → Prop} {a : Act} {w : World} {B s : Nat} {C : Array Value} {E : TypeId} (hb : BK w B C E)
    (h : ∀ W, W.heap[w.heap.size]? = some (.map #[] 0) → BK W B (C.setIfInBounds s (.map (some w.heap.size))) E → (∀ k, k < w.heap.size → k ≠ B → W.heap[k]? = w.heap[k]?) → Below B w W → W.heap.size = w.heap.size + 1 → c.wp P Q a W) :
    c.wp P Q a ((w.setCell ⟨B, s, none⟩ (.map (some w.heap.size))).alloc (.map #[] 0)) := by
  have hl := hb.lt
  have hsz : (w.setCell ⟨B, s, none⟩ (.map (some w.heap.size))).heap.size = w.heap.size := by simp
  have hB : Below B w (w.setCell ⟨B, s, none⟩ (.map (some w.heap.size))) := (Below.refl B w).setCell (p := ⟨B, s, none⟩) (Nat.le_refl B) _
  refine h _ ?_ ((hb.set s _).alloc _) (fun k hk hne => ?_) (hB.alloc (by omega) _) (by simp)
  · have h1 := (MapKept.heap_alloc (w.setCell ⟨B, s, none⟩ (.map (some w.heap.size))) (.map #[] 0)).1
    rw [hsz] at h1
    exact h1
  · exact (Below.heap_alloc (w.setCell ⟨B, s, none⟩ (.map (some w.heap.size))) _ k (by rw [hsz]; exact hk)).trans (Below.heap_setCell w ⟨B, s, none⟩ _ k hne)
def lenOv (v : Value) : Nat := match v with | .slice _ n _ => n | _ => 0
set_option maxHeartbeats 8000000 in
set_option maxRecDepth 100000 in
theorem kept_any (A : Option Addr) (ts : List T4) (n c : Nat) (w : World) (hn : n = ts.length) (hA : RT w A ts) (hnc : n ≤ c) (h16 : n ≤ 16) (hwf : ∀ t, t ∈ ts → ∀ j, j < 4 → wfKey (t.get j) = true) :
    Calls Try.prog 46 #[.slice A n c] w fun e w' => ∃ A' c', e = .returned (.slice A' (keepS ts.length ts).length c') ∧ OT w' w.heap.size 63 (.slice A' (keepS ts.length ts).length c') (keepS ts.length ts) ∧ Below w.heap.size w w' := by
  have HA := Lib.hid hA; have HN := Lib.hid hn; have HWF := Lib.hid hwf; clear hA hn hwf
  have hmm := fun w_ => run_makeMap (P := Try.prog) 78 w_
  have hz79 : ∀ w_, (zeroValue 79).run Try.prog w_ = .ok (.agg #[.map none, .map none, .map none, .map none]) w_ := fun w_ => by simp [zeroValue]; rfl
  go_enter Try.func46, Try.ntmps46
  go_wp2_with fail
  go_loopw [0] (fun v0 wr => ∃ (T : List T4) (m nT : Nat) (A4 : Option Addr) (c4 : Nat), v0 = .slice A4 nT c4 ∧ nT = T.length ∧ T.length ≤ m ∧ T.length ≤ 16 ∧ T.Sublist ts ∧ keepS m T = keepS ts.length ts ∧ RT wr A4 T ∧ T.length ≤ c4 ∧ Below w.heap.size w wr) (fun v0 _ => lenOv v0)
  case atStart => exact ⟨ts, ts.length, n, A, c, rfl, HN.out, Nat.le_refl _, by rw [← HN.out]; exact h16, List.Sublist.refl _, rfl, HA.out, by rw [← HN.out]; exact hnc, Below.refl _ _⟩
  case round =>
    rename World => wo
    obtain ⟨T, m, nT, A4, c4, rfl, hnT, hm, h16, hsub, htr, hrt, hc4, hB⟩ := hrel
    have HNT := Lib.hid hnT; have HM := Lib.hid hm; have H16 := Lib.hid h16; have HSUB := Lib.hid hsub; have HTR := Lib.hid htr; have HRT4 := Lib.hid hrt; have HC4 := Lib.hid hc4; have HB4 := Lib.hid hB
    have HWT := Lib.hid (show ∀ i, i < T.length → ∀ j, j < 4 → wfKey ((tk T i).get j) = true from fun i hi j hj => HWF.out _ (hsub.subset (tk_mem hi)) j hj)
    have n16 : nT ≤ 16 := by rw [hnT]; exact h16
    have nc4 : nT ≤ c4 := by rw [hnT]; exact hc4
    clear hnT hm h16 hsub htr hrt hc4 hB
    go_upto_region 2 with fail
    refine nameK ?_
    intro W3 b3 hb3
    obtain ⟨B3, hB3⟩ : ∃ q, q = wo.heap.size := ⟨_, rfl⟩
    rw [← hB3] at b3 ⊢
    have HMW := Lib.hid (show MW wo W3 B3 T (fun _ => 0) 0 from ⟨hb3, Nat.le_of_eq hB3.symm, b3, fun j hj => absurd hj (Nat.not_lt_zero j)⟩)
    clear b3 hb3 hB3
    go_wp2_with fail
    go_loopw [11] (fun v wr => ∃ (s : Nat) (b : Nat → Nat), s ≤ 4 ∧ v = .int .i64 s ∧ MW wo wr B3 T b s) (fun v _ => 4 - (intOf v).toNat)
    case atStart => exact ⟨0, _, Nat.zero_le _, rfl, HMW.out⟩
    case round =>
      rename World => ws
      obtain ⟨s, b, hs4, rfl, hW⟩ := hrel
      have HW := Lib.hid hW; clear hW
      match s, hs4 with
      | 0, _ =>
        rw [show ((0 : Nat) : Int) = (0 : Int) from rfl]
        have ba := HW.out.ar
        have x0 : ws.cell? ⟨B3, 0, none⟩ = some (.map none) := ba.cell (k := 0) (v := .map none) rfl
        have f0 := ba.frozen 0; have l0 := ba.lt
        go_upto_region 6 with fail
        refine nameMp ba ?_
        intro W5 hm5 ba5 hk5 hb5 hs5
        rw [arr_upd0] at ba5
        obtain ⟨q, hq⟩ : ∃ q, q = ws.heap.size := ⟨_, rfl⟩
        rw [← hq] at hm5 ba5 ⊢
        have HM5 := Lib.hid (SetM.made hm5); have HA5 := Lib.hid ba5; have HK5 := Lib.hid hk5; have HQ := Lib.hid hq
        have HB5 := Lib.hid (show Below wo.heap.size wo W5 from HW.out.be.trans (hb5.mono HW.out.lo))
        have HQL := Lib.hid (show q < W5.heap.size by rw [hs5, hq]; omega)
        have HQ3 := Lib.hid (show wo.heap.size ≤ q by rw [hq]; exact HW.out.be.size)
        have hne3 : B3 ≠ q := by rw [hq]; omega
        clear ba x0 f0 l0 hm5 ba5 hk5 hb5 hs5 hq
        go_wp2_with fail
        go_loopw [19] (fun v wk => ∃ k nn : Nat, k ≤ nT ∧ nn ≤ k ∧ v = .int .i64 k ∧ W5.grownBy wk (some q) ∧ SetM wk q nn (sideP T 0 k)) (fun v _ => nT - (intOf v).toNat)
        case atStart => exact ⟨0, 0, Nat.zero_le _, Nat.le_refl _, rfl, ⟨rfl, rfl, rfl, Nat.le_refl _, fun _ _ _ => rfl⟩, HM5.out.congr fun x => (sideP_zero T 0 x).symm⟩
        case round =>
          rename World => wk
          obtain ⟨k, nn, hk, hnn, rfl, hG, hM⟩ := hrel
          have HG := Lib.hid hG; have HMK := Lib.hid hM
          have HBK := Lib.hid (grown_below HB5.out hG (fun b_ e_ => by injection e_ with e_; subst e_; exact HQ3.out))
          have hak := HA5.out.grown hG (by simpa using hne3)
          have HAK := Lib.hid hak
          clear hG hM hak
          by_cases hlk : k < nT
          · have k1 : (k : Int) < nT := by omega
            have HK := Lib.hid (show k < T.length by rw [← HNT.out]; exact hlk)
            obtain ⟨tb, tq, e, hbb, p0, p1, p2, p3⟩ := (HRT4.out.below HBK.out) k HK.out
            subst e
            go_upto_region 9 with fail
            refine nameK ?_
            intro W7 b7 hb7
            obtain ⟨tB, htB⟩ : ∃ z, z = wk.heap.size := ⟨_, rfl⟩
            rw [← htB] at b7 ⊢
            have a7 := HAK.out.below hb7 HAK.out.lt
            have hM7 := HMK.out.same (hb7.block _ HMK.out.lt)
            have hg7 : W5.grownBy W7 (some q) := World.grownBy.trans HG.out ⟨hb7.os, hb7.tape, hb7.output, hb7.size, fun k_ hk_ _ => hb7.block k_ hk_⟩
            clear hb7 htB p0 p1 p2 p3 hbb
            have c0 : W7.drew.cell? ⟨B3, 0, none⟩ = some (.map (some q)) := a7.cell (k := 0) rfl
            have c1 : W7.drew.cell? ⟨tB, 0, none⟩ = some (.int .i64 ((tk T k).get 0)) := b7.cell (k := 0) rfl
            have a8 : BK W7.drew B3 (arrM (upd b 0 q) (0 + 1)) 79 := a7
            have b8 : BK W7.drew tB (tk T k).arr 63 := b7
            have hM8 : SetM W7.drew q nn (sideP T 0 k) := hM7.same rfl
            have hg8 : W5.grownBy W7.drew (some q) := ⟨hg7.os, hg7.tape, hg7.output, hg7.size, hg7.block⟩
            refine start_ (n := 7) (S := fun w' => w'.cell? ⟨B3, 0, none⟩ = some (.map (some q)) ∧ w'.cell? ⟨tB, 0, none⟩ = some (.int .i64 ((tk T k).get 0))) (ds := [6]) #[false, false, false, false, false, false, false] (by kernel_rfl) rfl rfl ⟨c0, c1⟩ (fun hHeld => ?_)
            refine with_tabW kp_tab9 kp_bits9 (fun HT_ HW_ => ?_)
            generalize W7.drew = wd at c0 c1 a8 b8 hM8 hg8 hHeld ⊢
            refine pure_ (i := 0) (N := some 23) (v := ?_) (a' := ?_) #[true, false, false, false, false, false, false] rfl rfl (any_of HT_.out (by kernel_rfl)) (fun _ _ _ h => h) (Or.inl ⟨by rfl, ?_⟩) ?_ ?_
            rotate_left
            · intro w'
              go_simp
              with_reducible rfl
            rotate_left
            · simp only [Act.put, List.setIfInBounds_toArray, List.set_cons_zero, List.set_cons_succ, i64_w, i32_w]
              rfl
            refine pure_ (i := 1) (N := some 24) (v := ?_) (a' := ?_) #[true, true, false, false, false, false, false] rfl rfl (any_of HT_.out (by kernel_rfl)) (fun _ _ _ h => h) (Or.inl ⟨by rfl, ?_⟩) ?_ ?_
            rotate_left
            · intro w'
              go_simp
              with_reducible rfl
            rotate_left
            · simp only [Act.put, List.setIfInBounds_toArray, List.set_cons_zero, List.set_cons_succ, i64_w, i32_w]
              rfl
            refine pure_ (i := 3) (N := some 26) (v := ?_) (a' := ?_) #[true, true, false, true, false, false, false] rfl rfl (any_of HT_.out (by kernel_rfl)) (fun _ _ _ h => h) (Or.inl ⟨by rfl, ?_⟩) ?_ ?_
            rotate_left
            · intro w'
              go_simp
              with_reducible rfl
            rotate_left
            · simp only [Act.put, List.setIfInBounds_toArray, List.set_cons_zero, List.set_cons_succ, i64_w, i32_w]
              rfl
            refine pure_ (i := 4) (N := some 27) (v := ?_) (a' := ?_) #[true, true, false, true, true, false, false] rfl rfl (any_of HT_.out (by kernel_rfl)) (fun _ _ _ h => h) (Or.inl ⟨by rfl, ?_⟩) ?_ ?_
            rotate_left
            · intro w'
              go_simp
              with_reducible rfl
            rotate_left
            · simp only [Act.put, List.setIfInBounds_toArray, List.set_cons_zero, List.set_cons_succ, i64_w, i32_w]
              rfl
            refine take_ (i := 2) (N := some 25) (v := ?_) (a' := ?_) #[true, true, true, true, true, false, false] rfl rfl (take_ofW HT_.out HW_.out (by kernel_rfl)) (fun _ _ _ h => h) (Or.inl ⟨by rfl, ?_⟩) hHeld ?_ ?_
            rotate_left
            · rintro w' ⟨s0, s1⟩
              go_simp
              with_reducible rfl
            rotate_left
            · simp only [Act.put, List.setIfInBounds_toArray, List.set_cons_zero, List.set_cons_succ, i64_w, i32_w]
              rfl
            refine take_ (i := 5) (N := some 28) (v := ?_) (a' := ?_) #[true, true, true, true, true, true, false] rfl rfl (take_ofW HT_.out HW_.out (by kernel_rfl)) (fun _ _ _ h => h) (Or.inl ⟨by rfl, ?_⟩) hHeld ?_ ?_
            rotate_left
            · rintro w' ⟨s0, s1⟩
              go_simp
              with_reducible rfl
            rotate_left
            · simp only [Act.put, List.setIfInBounds_toArray, List.set_cons_zero, List.set_cons_succ, i64_w, i32_w]
              rfl
            obtain ⟨w9, hrun, hM9, hg9⟩ := hM8.put ((tk T k).get 0) (HWT.out k HK.out 0 (by omega)) (by omega)
            refine last_ (i := 6) (N := none) #[true, true, true, true, true, true, true] rfl rfl (one_of HT_.out (by kernel_rfl)) (by decide) (fun K hK => ?_)
            refine mapUpdate_step (by rfl) (.tmp 25) (.tmp 28) (.const (.bool true)) 78 rfl _ _ _ rfl rfl rfl rfl hrun ?_
            refine hK.out _ _ ?_
            clear hK K
            refine done_ (done_of HT_.out (by kernel_rfl)) ?_
            have HM9 := Lib.hid (show SetM w9 q (nn + 1) (sideP T 0 (k + 1)) from hM9.congr fun x => (sideP_succ HK.out x).symm)
            have HG9 := Lib.hid (World.grownBy.trans hg8 hg9)
            clear hM9 hg9 hrun hM8 hg8 a8 b8 c0 c1 hHeld a7 b7 hM7 hg7
            go_wp2_with fail
            go_roundw
            case rel => exact ⟨k + 1, nn + 1, hlk, by omega, by go_num, HG9.out, HM9.out⟩
            case measure => simp [intOf]; omega
          · have hkn : k = nT := by omega
            go_wp2_with fail
            go_roundw
            case rel =>
              refine ⟨0 + 1, upd b 0 q, by omega, by go_num, HBK.out, HW.out.lo, HAK.out, fun j hj => ?_⟩
              by_cases e : j = 0
              · subst e
                have h1 := HMK.out
                rw [hkn, HNT.out] at h1
                obtain ⟨D_, ⟨es, clock, i1, F, i2, i3⟩, i4, i5⟩ := h1
                refine ⟨⟨D_, ⟨es, clock, ?_, F, by omega, i3⟩, i4, i5⟩, ?_⟩
                · simp only [upd, if_pos]; exact i1
                · simp only [upd, if_pos]; exact Ne.symm hne3
              · have h1 := HW.out.mp j (by omega)
                have h2 := h1.1.lt
                have h3 : (wk.heap[b j]? : Option Obj) = ws.heap[b j]? := (HG.out.block _ (Nat.lt_trans h2 (by have := HQL.out; have := HQ.out; omega)) (fun e2 => by injection e2 with e2; have := HQ.out; omega)).trans (HK5.out _ h2 h1.2)
                simp only [upd, if_neg e]
                exact ⟨h1.1.same h3, h1.2⟩
            case measure => simp [intOf]
      | 1, _ =>
        rw [show ((1 : Nat) : Int) = (1 : Int) from rfl]
        have ba := HW.out.ar
        have x0 : ws.cell? ⟨B3, 1, none⟩ = some (.map none) := ba.cell (k := 1) (v := .map none) rfl
        have f0 := ba.frozen 1; have l0 := ba.lt
        go_upto_region 6 with fail
        refine nameMp ba ?_
        intro W5 hm5 ba5 hk5 hb5 hs5
        rw [arr_upd1] at ba5
        obtain ⟨q, hq⟩ : ∃ q, q = ws.heap.size := ⟨_, rfl⟩
        rw [← hq] at hm5 ba5 ⊢
        have HM5 := Lib.hid (SetM.made hm5); have HA5 := Lib.hid ba5; have HK5 := Lib.hid hk5; have HQ := Lib.hid hq
        have HB5 := Lib.hid (show Below wo.heap.size wo W5 from HW.out.be.trans (hb5.mono HW.out.lo))
        have HQL := Lib.hid (show q < W5.heap.size by rw [hs5, hq]; omega)
        have HQ3 := Lib.hid (show wo.heap.size ≤ q by rw [hq]; exact HW.out.be.size)
        have hne3 : B3 ≠ q := by rw [hq]; omega
        clear ba x0 f0 l0 hm5 ba5 hk5 hb5 hs5 hq
        go_wp2_with fail
        go_loopw [19] (fun v wk => ∃ k nn : Nat, k ≤ nT ∧ nn ≤ k ∧ v = .int .i64 k ∧ W5.grownBy wk (some q) ∧ SetM wk q nn (sideP T 1 k)) (fun v _ => nT - (intOf v).toNat)
        case atStart => exact ⟨0, 0, Nat.zero_le _, Nat.le_refl _, rfl, ⟨rfl, rfl, rfl, Nat.le_refl _, fun _ _ _ => rfl⟩, HM5.out.congr fun x => (sideP_zero T 1 x).symm⟩
        case round =>
          rename World => wk
          obtain ⟨k, nn, hk, hnn, rfl, hG, hM⟩ := hrel
          have HG := Lib.hid hG; have HMK := Lib.hid hM
          have HBK := Lib.hid (grown_below HB5.out hG (fun b_ e_ => by injection e_ with e_; subst e_; exact HQ3.out))
          have hak := HA5.out.grown hG (by simpa using hne3)
          have HAK := Lib.hid hak
          clear hG hM hak
          by_cases hlk : k < nT
          · have k1 : (k : Int) < nT := by omega
            have HK := Lib.hid (show k < T.length by rw [← HNT.out]; exact hlk)
            obtain ⟨tb, tq, e, hbb, p0, p1, p2, p3⟩ := (HRT4.out.below HBK.out) k HK.out
            subst e
            go_upto_region 9 with fail
            refine nameK ?_
            intro W7 b7 hb7
            obtain ⟨tB, htB⟩ : ∃ z, z = wk.heap.size := ⟨_, rfl⟩
            rw [← htB] at b7 ⊢
            have a7 := HAK.out.below hb7 HAK.out.lt
            have hM7 := HMK.out.same (hb7.block _ HMK.out.lt)
            have hg7 : W5.grownBy W7 (some q) := World.grownBy.trans HG.out ⟨hb7.os, hb7.tape, hb7.output, hb7.size, fun k_ hk_ _ => hb7.block k_ hk_⟩
            clear hb7 htB p0 p1 p2 p3 hbb
            have c0 : W7.drew.cell? ⟨B3, 1, none⟩ = some (.map (some q)) := a7.cell (k := 1) rfl
            have c1 : W7.drew.cell? ⟨tB, 1, none⟩ = some (.int .i64 ((tk T k).get 1)) := b7.cell (k := 1) rfl
            have a8 : BK W7.drew B3 (arrM (upd b 1 q) (1 + 1)) 79 := a7
            have b8 : BK W7.drew tB (tk T k).arr 63 := b7
            have hM8 : SetM W7.drew q nn (sideP T 1 k) := hM7.same rfl
            have hg8 : W5.grownBy W7.drew (some q) := ⟨hg7.os, hg7.tape, hg7.output, hg7.size, hg7.block⟩
            refine start_ (n := 7) (S := fun w' => w'.cell? ⟨B3, 1, none⟩ = some (.map (some q)) ∧ w'.cell? ⟨tB, 1, none⟩ = some (.int .i64 ((tk T k).get 1))) (ds := [6]) #[false, false, false, false, false, false, false] (by kernel_rfl) rfl rfl ⟨c0, c1⟩ (fun hHeld => ?_)
            refine with_tabW kp_tab9 kp_bits9 (fun HT_ HW_ => ?_)
            generalize W7.drew = wd at c0 c1 a8 b8 hM8 hg8 hHeld ⊢
            refine pure_ (i := 0) (N := some 23) (v := ?_) (a' := ?_) #[true, false, false, false, false, false, false] rfl rfl (any_of HT_.out (by kernel_rfl)) (fun _ _ _ h => h) (Or.inl ⟨by rfl, ?_⟩) ?_ ?_
            rotate_left
            · intro w'
              go_simp
              with_reducible rfl
            rotate_left
            · simp only [Act.put, List.setIfInBounds_toArray, List.set_cons_zero, List.set_cons_succ, i64_w, i32_w]
              rfl
            refine pure_ (i := 1) (N := some 24) (v := ?_) (a' := ?_) #[true, true, false, false, false, false, false] rfl rfl (any_of HT_.out (by kernel_rfl)) (fun _ _ _ h => h) (Or.inl ⟨by rfl, ?_⟩) ?_ ?_
            rotate_left
            · intro w'
              go_simp
              with_reducible rfl
            rotate_left
            · simp only [Act.put, List.setIfInBounds_toArray, List.set_cons_zero, List.set_cons_succ, i64_w, i32_w]
              rfl
            refine pure_ (i := 3) (N := some 26) (v := ?_) (a' := ?_) #[true, true, false, true, false, false, false] rfl rfl (any_of HT_.out (by kernel_rfl)) (fun _ _ _ h => h) (Or.inl ⟨by rfl, ?_⟩) ?_ ?_
            rotate_left
            · intro w'
              go_simp
              with_reducible rfl
            rotate_left
            · simp only [Act.put, List.setIfInBounds_toArray, List.set_cons_zero, List.set_cons_succ, i64_w, i32_w]
              rfl
            refine pure_ (i := 4) (N := some 27) (v := ?_) (a' := ?_) #[true, true, false, true, true, false, false] rfl rfl (any_of HT_.out (by kernel_rfl)) (fun _ _ _ h => h) (Or.inl ⟨by rfl, ?_⟩) ?_ ?_
            rotate_left
            · intro w'
              go_simp
              with_reducible rfl
            rotate_left
            · simp only [Act.put, List.setIfInBounds_toArray, List.set_cons_zero, List.set_cons_succ, i64_w, i32_w]
              rfl
            refine take_ (i := 2) (N := some 25) (v := ?_) (a' := ?_) #[true, true, true, true, true, false, false] rfl rfl (take_ofW HT_.out HW_.out (by kernel_rfl)) (fun _ _ _ h => h) (Or.inl ⟨by rfl, ?_⟩) hHeld ?_ ?_
            rotate_left
            · rintro w' ⟨s0, s1⟩
              go_simp
              with_reducible rfl
            rotate_left
            · simp only [Act.put, List.setIfInBounds_toArray, List.set_cons_zero, List.set_cons_succ, i64_w, i32_w]
              rfl
            refine take_ (i := 5) (N := some 28) (v := ?_) (a' := ?_) #[true, true, true, true, true, true, false] rfl rfl (take_ofW HT_.out HW_.out (by kernel_rfl)) (fun _ _ _ h => h) (Or.inl ⟨by rfl, ?_⟩) hHeld ?_ ?_
            rotate_left
            · rintro w' ⟨s0, s1⟩
              go_simp
              with_reducible rfl
            rotate_left
            · simp only [Act.put, List.setIfInBounds_toArray, List.set_cons_zero, List.set_cons_succ, i64_w, i32_w]
              rfl
            obtain ⟨w9, hrun, hM9, hg9⟩ := hM8.put ((tk T k).get 1) (HWT.out k HK.out 1 (by omega)) (by omega)
            refine last_ (i := 6) (N := none) #[true, true, true, true, true, true, true] rfl rfl (one_of HT_.out (by kernel_rfl)) (by decide) (fun K hK => ?_)
            refine mapUpdate_step (by rfl) (.tmp 25) (.tmp 28) (.const (.bool true)) 78 rfl _ _ _ rfl rfl rfl rfl hrun ?_
            refine hK.out _ _ ?_
            clear hK K
            refine done_ (done_of HT_.out (by kernel_rfl)) ?_
            have HM9 := Lib.hid (show SetM w9 q (nn + 1) (sideP T 1 (k + 1)) from hM9.congr fun x => (sideP_succ HK.out x).symm)
            have HG9 := Lib.hid (World.grownBy.trans hg8 hg9)
            clear hM9 hg9 hrun hM8 hg8 a8 b8 c0 c1 hHeld a7 b7 hM7 hg7
            go_wp2_with fail
            go_roundw
            case rel => exact ⟨k + 1, nn + 1, hlk, by omega, by go_num, HG9.out, HM9.out⟩
            case measure => simp [intOf]; omega
          · have hkn : k = nT := by omega
            go_wp2_with fail
            go_roundw
            case rel =>
              refine ⟨1 + 1, upd b 1 q, by omega, by go_num, HBK.out, HW.out.lo, HAK.out, fun j hj => ?_⟩
              by_cases e : j = 1
              · subst e
                have h1 := HMK.out
                rw [hkn, HNT.out] at h1
                obtain ⟨D_, ⟨es, clock, i1, F, i2, i3⟩, i4, i5⟩ := h1
                refine ⟨⟨D_, ⟨es, clock, ?_, F, by omega, i3⟩, i4, i5⟩, ?_⟩
                · simp only [upd, if_pos]; exact i1
                · simp only [upd, if_pos]; exact Ne.symm hne3
              · have h1 := HW.out.mp j (by omega)
                have h2 := h1.1.lt
                have h3 : (wk.heap[b j]? : Option Obj) = ws.heap[b j]? := (HG.out.block _ (Nat.lt_trans h2 (by have := HQL.out; have := HQ.out; omega)) (fun e2 => by injection e2 with e2; have := HQ.out; omega)).trans (HK5.out _ h2 h1.2)
                simp only [upd, if_neg e]
                exact ⟨h1.1.same h3, h1.2⟩
            case measure => simp [intOf]
      | 2, _ =>
        rw [show ((2 : Nat) : Int) = (2 : Int) from rfl]
        have ba := HW.out.ar
        have x0 : ws.cell? ⟨B3, 2, none⟩ = some (.map none) := ba.cell (k := 2) (v := .map none) rfl
        have f0 := ba.frozen 2; have l0 := ba.lt
        go_upto_region 6 with fail
        refine nameMp ba ?_
        intro W5 hm5 ba5 hk5 hb5 hs5
        rw [arr_upd2] at ba5
        obtain ⟨q, hq⟩ : ∃ q, q = ws.heap.size := ⟨_, rfl⟩
        rw [← hq] at hm5 ba5 ⊢
        have HM5 := Lib.hid (SetM.made hm5); have HA5 := Lib.hid ba5; have HK5 := Lib.hid hk5; have HQ := Lib.hid hq
        have HB5 := Lib.hid (show Below wo.heap.size wo W5 from HW.out.be.trans (hb5.mono HW.out.lo))
        have HQL := Lib.hid (show q < W5.heap.size by rw [hs5, hq]; omega)
        have HQ3 := Lib.hid (show wo.heap.size ≤ q by rw [hq]; exact HW.out.be.size)
        have hne3 : B3 ≠ q := by rw [hq]; omega
        clear ba x0 f0 l0 hm5 ba5 hk5 hb5 hs5 hq
        go_wp2_with fail
        go_loopw [19] (fun v wk => ∃ k nn : Nat, k ≤ nT ∧ nn ≤ k ∧ v = .int .i64 k ∧ W5.grownBy wk (some q) ∧ SetM wk q nn (sideP T 2 k)) (fun v _ => nT - (intOf v).toNat)
        case atStart => exact ⟨0, 0, Nat.zero_le _, Nat.le_refl _, rfl, ⟨rfl, rfl, rfl, Nat.le_refl _, fun _ _ _ => rfl⟩, HM5.out.congr fun x => (sideP_zero T 2 x).symm⟩
        case round =>
          rename World => wk
          obtain ⟨k, nn, hk, hnn, rfl, hG, hM⟩ := hrel
          have HG := Lib.hid hG; have HMK := Lib.hid hM
          have HBK := Lib.hid (grown_below HB5.out hG (fun b_ e_ => by injection e_ with e_; subst e_; exact HQ3.out))
          have hak := HA5.out.grown hG (by simpa using hne3)
          have HAK := Lib.hid hak
          clear hG hM hak
          by_cases hlk : k < nT
          · have k1 : (k : Int) < nT := by omega
            have HK := Lib.hid (show k < T.length by rw [← HNT.out]; exact hlk)
            obtain ⟨tb, tq, e, hbb, p0, p1, p2, p3⟩ := (HRT4.out.below HBK.out) k HK.out
            subst e
            go_upto_region 9 with fail
            refine nameK ?_
            intro W7 b7 hb7
            obtain ⟨tB, htB⟩ : ∃ z, z = wk.heap.size := ⟨_, rfl⟩
            rw [← htB] at b7 ⊢
            have a7 := HAK.out.below hb7 HAK.out.lt
            have hM7 := HMK.out.same (hb7.block _ HMK.out.lt)
            have hg7 : W5.grownBy W7 (some q) := World.grownBy.trans HG.out ⟨hb7.os, hb7.tape, hb7.output, hb7.size, fun k_ hk_ _ => hb7.block k_ hk_⟩
            clear hb7 htB p0 p1 p2 p3 hbb
            have c0 : W7.drew.cell? ⟨B3, 2, none⟩ = some (.map (some q)) := a7.cell (k := 2) rfl
            have c1 : W7.drew.cell? ⟨tB, 2, none⟩ = some (.int .i64 ((tk T k).get 2)) := b7.cell (k := 2) rfl
            have a8 : BK W7.drew B3 (arrM (upd b 2 q) (2 + 1)) 79 := a7
            have b8 : BK W7.drew tB (tk T k).arr 63 := b7
            have hM8 : SetM W7.drew q nn (sideP T 2 k) := hM7.same rfl
            have hg8 : W5.grownBy W7.drew (some q) := ⟨hg7.os, hg7.tape, hg7.output, hg7.size, hg7.block⟩
            refine start_ (n := 7) (S := fun w' => w'.cell? ⟨B3, 2, none⟩ = some (.map (some q)) ∧ w'.cell? ⟨tB, 2, none⟩ = some (.int .i64 ((tk T k).get 2))) (ds := [6]) #[false, false, false, false, false, false, false] (by kernel_rfl) rfl rfl ⟨c0, c1⟩ (fun hHeld => ?_)
            refine with_tabW kp_tab9 kp_bits9 (fun HT_ HW_ => ?_)
            generalize W7.drew = wd at c0 c1 a8 b8 hM8 hg8 hHeld ⊢
            refine pure_ (i := 0) (N := some 23) (v := ?_) (a' := ?_) #[true, false, false, false, false, false, false] rfl rfl (any_of HT_.out (by kernel_rfl)) (fun _ _ _ h => h) (Or.inl ⟨by rfl, ?_⟩) ?_ ?_
            rotate_left
            · intro w'
              go_simp
              with_reducible rfl
            rotate_left
            · simp only [Act.put, List.setIfInBounds_toArray, List.set_cons_zero, List.set_cons_succ, i64_w, i32_w]
              rfl
            refine pure_ (i := 1) (N := some 24) (v := ?_) (a' := ?_) #[true, true, false, false, false, false, false] rfl rfl (any_of HT_.out (by kernel_rfl)) (fun _ _ _ h => h) (Or.inl ⟨by rfl, ?_⟩) ?_ ?_
            rotate_left
            · intro w'
              go_simp
              with_reducible rfl
            rotate_left
            · simp only [Act.put, List.setIfInBounds_toArray, List.set_cons_zero, List.set_cons_succ, i64_w, i32_w]
              rfl
            refine pure_ (i := 3) (N := some 26) (v := ?_) (a' := ?_) #[true, true, false, true, false, false, false] rfl rfl (any_of HT_.out (by kernel_rfl)) (fun _ _ _ h => h) (Or.inl ⟨by rfl, ?_⟩) ?_ ?_
            rotate_left
            · intro w'
              go_simp
              with_reducible rfl
            rotate_left
            · simp only [Act.put, List.setIfInBounds_toArray, List.set_cons_zero, List.set_cons_succ, i64_w, i32_w]
              rfl
            refine pure_ (i := 4) (N := some 27) (v := ?_) (a' := ?_) #[true, true, false, true, true, false, false] rfl rfl (any_of HT_.out (by kernel_rfl)) (fun _ _ _ h => h) (Or.inl ⟨by rfl, ?_⟩) ?_ ?_
            rotate_left
            · intro w'
              go_simp
              with_reducible rfl
            rotate_left
            · simp only [Act.put, List.setIfInBounds_toArray, List.set_cons_zero, List.set_cons_succ, i64_w, i32_w]
              rfl
            refine take_ (i := 2) (N := some 25) (v := ?_) (a' := ?_) #[true, true, true, true, true, false, false] rfl rfl (take_ofW HT_.out HW_.out (by kernel_rfl)) (fun _ _ _ h => h) (Or.inl ⟨by rfl, ?_⟩) hHeld ?_ ?_
            rotate_left
            · rintro w' ⟨s0, s1⟩
              go_simp
              with_reducible rfl
            rotate_left
            · simp only [Act.put, List.setIfInBounds_toArray, List.set_cons_zero, List.set_cons_succ, i64_w, i32_w]
              rfl
            refine take_ (i := 5) (N := some 28) (v := ?_) (a' := ?_) #[true, true, true, true, true, true, false] rfl rfl (take_ofW HT_.out HW_.out (by kernel_rfl)) (fun _ _ _ h => h) (Or.inl ⟨by rfl, ?_⟩) hHeld ?_ ?_
            rotate_left
            · rintro w' ⟨s0, s1⟩
              go_simp
              with_reducible rfl
            rotate_left
            · simp only [Act.put, List.setIfInBounds_toArray, List.set_cons_zero, List.set_cons_succ, i64_w, i32_w]
              rfl
            obtain ⟨w9, hrun, hM9, hg9⟩ := hM8.put ((tk T k).get 2) (HWT.out k HK.out 2 (by omega)) (by omega)
            refine last_ (i := 6) (N := none) #[true, true, true, true, true, true, true] rfl rfl (one_of HT_.out (by kernel_rfl)) (by decide) (fun K hK => ?_)
            refine mapUpdate_step (by rfl) (.tmp 25) (.tmp 28) (.const (.bool true)) 78 rfl _ _ _ rfl rfl rfl rfl hrun ?_
            refine hK.out _ _ ?_
            clear hK K
            refine done_ (done_of HT_.out (by kernel_rfl)) ?_
            have HM9 := Lib.hid (show SetM w9 q (nn + 1) (sideP T 2 (k + 1)) from hM9.congr fun x => (sideP_succ HK.out x).symm)
            have HG9 := Lib.hid (World.grownBy.trans hg8 hg9)
            clear hM9 hg9 hrun hM8 hg8 a8 b8 c0 c1 hHeld a7 b7 hM7 hg7
            go_wp2_with fail
            go_roundw
            case rel => exact ⟨k + 1, nn + 1, hlk, by omega, by go_num, HG9.out, HM9.out⟩
            case measure => simp [intOf]; omega
          · have hkn : k = nT := by omega
            go_wp2_with fail
            go_roundw
            case rel =>
              refine ⟨2 + 1, upd b 2 q, by omega, by go_num, HBK.out, HW.out.lo, HAK.out, fun j hj => ?_⟩
              by_cases e : j = 2
              · subst e
                have h1 := HMK.out
                rw [hkn, HNT.out] at h1
                obtain ⟨D_, ⟨es, clock, i1, F, i2, i3⟩, i4, i5⟩ := h1
                refine ⟨⟨D_, ⟨es, clock, ?_, F, by omega, i3⟩, i4, i5⟩, ?_⟩
                · simp only [upd, if_pos]; exact i1
                · simp only [upd, if_pos]; exact Ne.symm hne3
              · have h1 := HW.out.mp j (by omega)
                have h2 := h1.1.lt
                have h3 : (wk.heap[b j]? : Option Obj) = ws.heap[b j]? := (HG.out.block _ (Nat.lt_trans h2 (by have := HQL.out; have := HQ.out; omega)) (fun e2 => by injection e2 with e2; have := HQ.out; omega)).trans (HK5.out _ h2 h1.2)
                simp only [upd, if_neg e]
                exact ⟨h1.1.same h3, h1.2⟩
            case measure => simp [intOf]
      | 3, _ =>
        rw [show ((3 : Nat) : Int) = (3 : Int) from rfl]
        have ba := HW.out.ar
        have x0 : ws.cell? ⟨B3, 3, none⟩ = some (.map none) := ba.cell (k := 3) (v := .map none) rfl
        have f0 := ba.frozen 3; have l0 := ba.lt
        go_upto_region 6 with fail
        refine nameMp ba ?_
        intro W5 hm5 ba5 hk5 hb5 hs5
        rw [arr_upd3] at ba5
        obtain ⟨q, hq⟩ : ∃ q, q = ws.heap.size := ⟨_, rfl⟩
        rw [← hq] at hm5 ba5 ⊢
        have HM5 := Lib.hid (SetM.made hm5); have HA5 := Lib.hid ba5; have HK5 := Lib.hid hk5; have HQ := Lib.hid hq
        have HB5 := Lib.hid (show Below wo.heap.size wo W5 from HW.out.be.trans (hb5.mono HW.out.lo))
        have HQL := Lib.hid (show q < W5.heap.size by rw [hs5, hq]; omega)
        have HQ3 := Lib.hid (show wo.heap.size ≤ q by rw [hq]; exact HW.out.be.size)
        have hne3 : B3 ≠ q := by rw [hq]; omega
        clear ba x0 f0 l0 hm5 ba5 hk5 hb5 hs5 hq
        go_wp2_with fail
        go_loopw [19] (fun v wk => ∃ k nn : Nat, k ≤ nT ∧ nn ≤ k ∧ v = .int .i64 k ∧ W5.grownBy wk (some q) ∧ SetM wk q nn (sideP T 3 k)) (fun v _ => nT - (intOf v).toNat)
        case atStart => exact ⟨0, 0, Nat.zero_le _, Nat.le_refl _, rfl, ⟨rfl, rfl, rfl, Nat.le_refl _, fun _ _ _ => rfl⟩, HM5.out.congr fun x => (sideP_zero T 3 x).symm⟩
        case round =>
          rename World => wk
          obtain ⟨k, nn, hk, hnn, rfl, hG, hM⟩ := hrel
          have HG := Lib.hid hG; have HMK := Lib.hid hM
          have HBK := Lib.hid (grown_below HB5.out hG (fun b_ e_ => by injection e_ with e_; subst e_; exact HQ3.out))
          have hak := HA5.out.grown hG (by simpa using hne3)
          have HAK := Lib.hid hak
          clear hG hM hak
          by_cases hlk : k < nT
          · have k1 : (k : Int) < nT := by omega
            have HK := Lib.hid (show k < T.length by rw [← HNT.out]; exact hlk)
            obtain ⟨tb, tq, e, hbb, p0, p1, p2, p3⟩ := (HRT4.out.below HBK.out) k HK.out
            subst e
            go_upto_region 9 with fail
            refine nameK ?_
            intro W7 b7 hb7
            obtain ⟨tB, htB⟩ : ∃ z, z = wk.heap.size := ⟨_, rfl⟩
            rw [← htB] at b7 ⊢
            have a7 := HAK.out.below hb7 HAK.out.lt
            have hM7 := HMK.out.same (hb7.block _ HMK.out.lt)
            have hg7 : W5.grownBy W7 (some q) := World.grownBy.trans HG.out ⟨hb7.os, hb7.tape, hb7.output, hb7.size, fun k_ hk_ _ => hb7.block k_ hk_⟩
            clear hb7 htB p0 p1 p2 p3 hbb
            have c0 : W7.drew.cell? ⟨B3, 3, none⟩ = some (.map (some q)) := a7.cell (k := 3) rfl
            have c1 : W7.drew.cell? ⟨tB, 3, none⟩ = some (.int .i64 ((tk T k).get 3)) := b7.cell (k := 3) rfl
            have a8 : BK W7.drew B3 (arrM (upd b 3 q) (3 + 1)) 79 := a7
            have b8 : BK W7.drew tB (tk T k).arr 63 := b7
            have hM8 : SetM W7.drew q nn (sideP T 3 k) := hM7.same rfl
            have hg8 : W5.grownBy W7.drew (some q) := ⟨hg7.os, hg7.tape, hg7.output, hg7.size, hg7.block⟩
            refine start_ (n := 7) (S := fun w' => w'.cell? ⟨B3, 3, none⟩ = some (.map (some q)) ∧ w'.cell? ⟨tB, 3, none⟩ = some (.int .i64 ((tk T k).get 3))) (ds := [6]) #[false, false, false, false, false, false, false] (by kernel_rfl) rfl rfl ⟨c0, c1⟩ (fun hHeld => ?_)
            refine with_tabW kp_tab9 kp_bits9 (fun HT_ HW_ => ?_)
            generalize W7.drew = wd at c0 c1 a8 b8 hM8 hg8 hHeld ⊢
            refine pure_ (i := 0) (N := some 23) (v := ?_) (a' := ?_) #[true, false, false, false, false, false, false] rfl rfl (any_of HT_.out (by kernel_rfl)) (fun _ _ _ h => h) (Or.inl ⟨by rfl, ?_⟩) ?_ ?_
            rotate_left
            · intro w'
              go_simp
              with_reducible rfl
            rotate_left
            · simp only [Act.put, List.setIfInBounds_toArray, List.set_cons_zero, List.set_cons_succ, i64_w, i32_w]
              rfl
            refine pure_ (i := 1) (N := some 24) (v := ?_) (a' := ?_) #[true, true, false, false, false, false, false] rfl rfl (any_of HT_.out (by kernel_rfl)) (fun _ _ _ h => h) (Or.inl ⟨by rfl, ?_⟩) ?_ ?_
            rotate_left
            · intro w'
              go_simp
              with_reducible rfl
            rotate_left
            · simp only [Act.put, List.setIfInBounds_toArray, List.set_cons_zero, List.set_cons_succ, i64_w, i32_w]
              rfl
            refine pure_ (i := 3) (N := some 26) (v := ?_) (a' := ?_) #[true, true, false, true, false, false, false] rfl rfl (any_of HT_.out (by kernel_rfl)) (fun _ _ _ h => h) (Or.inl ⟨by rfl, ?_⟩) ?_ ?_
            rotate_left
            · intro w'
              go_simp
              with_reducible rfl
            rotate_left
            · simp only [Act.put, List.setIfInBounds_toArray, List.set_cons_zero, List.set_cons_succ, i64_w, i32_w]
              rfl
            refine pure_ (i := 4) (N := some 27) (v := ?_) (a' := ?_) #[true, true, false, true, true, false, false] rfl rfl (any_of HT_.out (by kernel_rfl)) (fun _ _ _ h => h) (Or.inl ⟨by rfl, ?_⟩) ?_ ?_
            rotate_left
            · intro w'
              go_simp
              with_reducible rfl
            rotate_left
            · simp only [Act.put, List.setIfInBounds_toArray, List.set_cons_zero, List.set_cons_succ, i64_w, i32_w]
              rfl
            refine take_ (i := 2) (N := some 25) (v := ?_) (a' := ?_) #[true, true, true, true, true, false, false] rfl rfl (take_ofW HT_.out HW_.out (by kernel_rfl)) (fun _ _ _ h => h) (Or.inl ⟨by rfl, ?_⟩) hHeld ?_ ?_
            rotate_left
            · rintro w' ⟨s0, s1⟩
              go_simp
              with_reducible rfl
            rotate_left
            · simp only [Act.put, List.setIfInBounds_toArray, List.set_cons_zero, List.set_cons_succ, i64_w, i32_w]
              rfl
            refine take_ (i := 5) (N := some 28) (v := ?_) (a' := ?_) #[true, true, true, true, true, true, false] rfl rfl (take_ofW HT_.out HW_.out (by kernel_rfl)) (fun _ _ _ h => h) (Or.inl ⟨by rfl, ?_⟩) hHeld ?_ ?_
            rotate_left
            · rintro w' ⟨s0, s1⟩
              go_simp
              with_reducible rfl
            rotate_left
            · simp only [Act.put, List.setIfInBounds_toArray, List.set_cons_zero, List.set_cons_succ, i64_w, i32_w]
              rfl
            obtain ⟨w9, hrun, hM9, hg9⟩ := hM8.put ((tk T k).get 3) (HWT.out k HK.out 3 (by omega)) (by omega)
            refine last_ (i := 6) (N := none) #[true, true, true, true, true, true, true] rfl rfl (one_of HT_.out (by kernel_rfl)) (by decide) (fun K hK => ?_)
            refine mapUpdate_step (by rfl) (.tmp 25) (.tmp 28) (.const (.bool true)) 78 rfl _ _ _ rfl rfl rfl rfl hrun ?_
            refine hK.out _ _ ?_
            clear hK K
            refine done_ (done_of HT_.out (by kernel_rfl)) ?_
            have HM9 := Lib.hid (show SetM w9 q (nn + 1) (sideP T 3 (k + 1)) from hM9.congr fun x => (sideP_succ HK.out x).symm)
            have HG9 := Lib.hid (World.grownBy.trans hg8 hg9)
            clear hM9 hg9 hrun hM8 hg8 a8 b8 c0 c1 hHeld a7 b7 hM7 hg7
            go_wp2_with fail
            go_roundw
            case rel => exact ⟨k + 1, nn + 1, hlk, by omega, by go_num, HG9.out, HM9.out⟩
            case measure => simp [intOf]; omega
          · have hkn : k = nT := by omega
            go_wp2_with fail
            go_roundw
            case rel =>
              refine ⟨3 + 1, upd b 3 q, by omega, by go_num, HBK.out, HW.out.lo, HAK.out, fun j hj => ?_⟩
              by_cases e : j = 3
              · subst e
                have h1 := HMK.out
                rw [hkn, HNT.out] at h1
                obtain ⟨D_, ⟨es, clock, i1, F, i2, i3⟩, i4, i5⟩ := h1
                refine ⟨⟨D_, ⟨es, clock, ?_, F, by omega, i3⟩, i4, i5⟩, ?_⟩
                · simp only [upd, if_pos]; exact i1
                · simp only [upd, if_pos]; exact Ne.symm hne3
              · have h1 := HW.out.mp j (by omega)
                have h2 := h1.1.lt
                have h3 : (wk.heap[b j]? : Option Obj) = ws.heap[b j]? := (HG.out.block _ (Nat.lt_trans h2 (by have := HQL.out; have := HQ.out; omega)) (fun e2 => by injection e2 with e2; have := HQ.out; omega)).trans (HK5.out _ h2 h1.2)
                simp only [upd, if_neg e]
                exact ⟨h1.1.same h3, h1.2⟩
            case measure => simp [intOf]
      | 4, _ =>
        rw [show ((4 : Nat) : Int) = (4 : Int) from rfl]
        have ba := HW.out.ar
        have HM0 := Lib.hid (HW.out.mp 0 (by omega)).1; have HM2 := Lib.hid (HW.out.mp 2 (by omega)).1; have HAR := Lib.hid ba
        have HBE := Lib.hid HW.out.be
        clear ba
        go_wp2_with fail
        refine nameK ?_
        intro W3 b3 hb3
        have HL3 := Lib.hid (OT.empty (base := ws.heap.size) b3 (Nat.le_refl _)); have HB3 := Lib.hid hb3
        clear b3 hb3
        go_loopw [7, 34] (fun v5 v6 wi => ∃ i : Nat, i ≤ nT ∧ v6 = .int .i64 i ∧ Below ws.heap.size ws wi ∧ OT wi ws.heap.size 63 v5 ((T.take i).filter (lastT T))) (fun _ v6 _ => nT - (intOf v6).toNat)
        case atStart => exact ⟨0, Nat.zero_le _, rfl, HB3.out, by simpa using HL3.out⟩
        case round =>
          rename World => wi
          obtain ⟨i, hi, rfl, hB, hO⟩ := hrel
          by_cases hlt : i < nT
          · have i1 : (i : Int) < nT := by omega
            have HI := Lib.hid (show i < T.length by rw [← HNT.out]; exact hlt)
            have HBI := Lib.hid hB; have HOI := Lib.hid hO
            obtain ⟨tb, tq, e, hbb, p0, p1, p2, p3⟩ := (HRT4.out.below (below_to HBE.out hB)) i HI.out
            subst e
            clear hB hO
            go_upto_region 16 with fail
            refine nameK ?_
            intro W7 b7 hb7
            obtain ⟨tB, htB⟩ : ∃ z, z = wi.heap.size := ⟨_, rfl⟩
            rw [← htB] at b7 ⊢
            have hB7 := below_to HBI.out hb7
            have a7 := HAR.out.below hB7 HAR.out.lt
            have hM0 := HM0.out.same (hB7.block _ HM0.out.lt); have hM2 := HM2.out.same (hB7.block _ HM2.out.lt)
            have y0 : W7.cell? ⟨B3, 0, none⟩ = some (.map (some (b 0))) := a7.cell (k := 0) rfl
            have y2 : W7.cell? ⟨B3, 2, none⟩ = some (.map (some (b 2))) := a7.cell (k := 2) rfl
            have t0 : W7.cell? ⟨tB, 0, none⟩ = some (.int .i64 ((tk T i).get 0)) := b7.cell (k := 0) rfl
            have t1 : W7.cell? ⟨tB, 1, none⟩ = some (.int .i64 ((tk T i).get 1)) := b7.cell (k := 1) rfl
            have t2 : W7.cell? ⟨tB, 2, none⟩ = some (.int .i64 ((tk T i).get 2)) := b7.cell (k := 2) rfl
            have t3 : W7.cell? ⟨tB, 3, none⟩ = some (.int .i64 ((tk T i).get 3)) := b7.cell (k := 3) rfl
            have ly := a7.lt; have lt := b7.lt
            have hl2 := hM2.look ((tk T i).get 0) (HWT.out i HI.out 0 (by omega))
            have hl0 := hM0.look ((tk T i).get 2) (HWT.out i HI.out 2 (by omega))
            have HG := Lib.hid (last_side T (tk T i))
            have HB7 := Lib.hid hB7; have HO7 := Lib.hid (HOI.out.to hb7)
            clear hb7 htB p0 p1 p2 p3 hbb a7 b7 hB7 hM0 hM2
            cases hp : sideP T 2 T.length ((tk T i).get 0)
            · have HG2 := Lib.hid (show ¬ lastT T (tk T i) = true by rw [HG.out, hp]; simp)
              rw [hp] at hl2
              clear hp
              go_wp2_with fail
              go_roundw
              case rel => exact ⟨i + 1, hlt, by go_num, HB7.out, by rw [filter_take HI.out, if_neg HG2.out]; exact HO7.out⟩
              case measure => simp [intOf]; omega
            · cases hp2 : sideP T 0 T.length ((tk T i).get 2)
              · have HG2 := Lib.hid (show ¬ lastT T (tk T i) = true by rw [HG.out, hp, hp2]; simp)
                rw [hp] at hl2; rw [hp2] at hl0
                clear hp hp2
                go_wp2_with fail
                go_roundw
                case rel => exact ⟨i + 1, hlt, by go_num, HB7.out, by rw [filter_take HI.out, if_neg HG2.out]; exact HO7.out⟩
                case measure => simp [intOf]; omega
              · have HG2 := Lib.hid (show lastT T (tk T i) = true by rw [HG.out, hp, hp2]; rfl)
                rw [hp] at hl2; rw [hp2] at hl0
                clear hp hp2
                have hz6 : ws.heap.size ≤ W7.heap.size := HB7.out.size
                go_wp2_with (at_builtin; refine app_tile ws.heap.size rfl (.tmp 50) (.tmp 52) 30 63 rfl Try.underlying30 info63 _ _ (tk T i) rfl rfl HO7.out hz6 (by have := List.length_filter_le (lastT T) (T.take i); rw [List.length_take] at this; omega) ?_; intro v6 w6 hO6 hG _; have HB8 := Lib.hid (grown_below HB7.out hG fun b hb => by have := own_lo HO7.out b hb; omega); have HO8 := Lib.hid hO6; clear hO6 hG)
                go_roundw
                case rel => exact ⟨i + 1, hlt, by go_num, HB8.out, by rw [filter_take HI.out, if_pos HG2.out]; exact HO8.out⟩
                case measure => simp [intOf]; omega
          · have hin : i = nT := by omega
            have i1 : ¬ (i : Int) < nT := by omega
            have e9 : T.take i = T := by rw [hin, HNT.out, List.take_length]
            rw [e9] at hO
            obtain ⟨F, hF⟩ : ∃ F, F = T.filter (lastT T) := ⟨_, rfl⟩
            rw [← hF] at hO
            obtain ⟨A5, c5, e5, hrt, hc5⟩ := hO.reads
            subst e5
            obtain ⟨nF, hnF⟩ : ∃ q, q = F.length := ⟨_, rfl⟩
            rw [← hnF] at hc5 hO ⊢
            have HF := Lib.hid hF; have HNF := Lib.hid hnF; have HRT5 := Lib.hid hrt; have HC5 := Lib.hid hc5; have HO5 := Lib.hid hO
            have HBW := Lib.hid (below_to HB4.out (below_to HBE.out hB))
            have hle : nF ≤ nT := by rw [hnF, HNT.out, hF]; exact List.length_filter_le _ _
            clear hO hF hrt hc5 hnF hB e9
            by_cases heq : nF = nT
            · have j1 : ((nF : Int) == nT) = true := by simp [heq]
              have HEQ := Lib.hid heq
              clear heq
              go_wp2_with fail
              go_ret
              have hE : keepS ts.length ts = F := by rw [← HTR.out, keepS_done HM.out (by rw [← HF.out, ← HNF.out, HEQ.out, HNT.out]), HF.out]
              rw [hE, ← HNF.out]
              exact ⟨A5, c5, rfl, own_base HO5.out (below_to HB4.out HBE.out).size, HBW.out⟩
            · have j1 : ((nF : Int) == nT) = false := by simp; omega
              have HEQ := Lib.hid heq
              have hlt9 : nF < nT := by omega
              clear heq
              go_wp2_with fail
              go_roundw
              case rel =>
                obtain ⟨m2, hm2⟩ : ∃ m2, m = m2 + 1 := ⟨m - 1, by have := HM.out; have := HNT.out; omega⟩
                refine ⟨F, m2, nF, A5, c5, rfl, HNF.out, by have := HM.out; have := HNT.out; have := HNF.out; omega, by have := HNF.out; omega, by rw [HF.out]; exact List.filter_sublist.trans HSUB.out, ?_, HRT5.out, by rw [← HNF.out]; exact HC5.out, HBW.out⟩
                rw [← HTR.out, hm2, keepS_more (by rw [← HF.out, ← HNF.out, ← HNT.out]; exact HEQ.out), HF.out]
              case measure => simp only [lenOv]; omega
end Go.Proofs.Ytgdmflmglkakgaa

/-
  Parts of the proof, in their order: Values, Collect.
-/
import Derived.Test.YtnjmgmdpkogocaaPk8
import Derived.RangeFuncNested
import Derived.RangeFuncBox
import Derived.RangeFuncLeaves
import Derived.RangeFuncBound
import Derived.RangeFuncCalls
import Derived.Shelf.Abstract
import Derived.Shelf.RegionOpen
import Derived.OwnWalkIn
import Derived.TacticsInMore
import Derived.LoopNIn
import Derived.LoopIn
import Derived.Maps.AppendAt
namespace Go.Proofs.Ytnjmgmdpkogocaa
open Go Go.RowKit Go.Proofs Go.Shelf
set_option linter.unusedVariables false
set_option linter.unusedSimpArgs false
attribute [local go_sem] Oper.semAt_some
def encV (t : T4) : Array Value := #[.agg #[.int .i64 (t.get 0), .int .i64 (t.get 1), .int .i64 (t.get 2), .int .i64 (t.get 3)]]
set_option maxRecDepth 100000 in
set_option maxHeartbeats 4000000 in
theorem ValuesT_stops (F : Fence) (n : Nat) (h7 : F.fn 119) (hro : F.round = none) (hn : 1 ≤ n) (Bs len cap : Nat) (A : Option Addr) (ts : List T4) (w0 w : World) (hlen : len = ts.length) (hl : len ≤ 1000000) (hA : RT w0 A ts) (hw : Below w0.heap.size w0 w) (hBs : Bs < w.heap.size) (hc : w.cell? ⟨Bs, 0, none⟩ = some (.slice A len cap)) :
    SeqStopsK F n Try.prog 119 #[.pointer (some ⟨Bs, 0, none⟩)] encV (Below w0.heap.size) (fun ys => ys = ts) (fun pre => pre <+: ts) ts.length w := fun l J Jx W hW hJ _ hY h0 => by
  have hc' := (hW.cell (p := ⟨Bs, 0, none⟩) hBs).trans hc
  have hB0 : Below w0.heap.size w0 W := below_to hw hW
  have HA := Lib.hid hA; have HL := Lib.hid hlen; have HB0 := Lib.hid hB0; clear hA hlen hB0 hw hW
  refine callsIn_of_wp Try.func119 rfl h7 ?_ hro
  simp only [Try.ntmps119, List.size_toArray, List.length_cons, List.length_nil, Nat.reduceAdd, Nat.reduceSub, Array.replicate_succ, Array.replicate_zero, List.push_toArray, List.append_toArray, List.nil_append, List.cons_append]
  gi_wp2
  gi_loopw [7] (fun i wr => ∃ k : Nat, k ≤ len ∧ i = .int .i64 k ∧ J (ts.take k) wr ∧ Below w0.heap.size W wr ∧ W.heap.size ≤ wr.heap.size) (fun i _ => len - (intOf i).toNat)
  case atStart => exact ⟨0, Nat.zero_le _, rfl, by simpa using h0, Below.refl _ _, Nat.le_refl _⟩
  case round =>
    obtain ⟨k, hk, rfl, hJs, hnx, hz⟩ := hrel
    by_cases hlt : k < len
    · have i1 : (k : Int) < len := by omega
      obtain ⟨b, o, hAt, hb, h0', h1', h2', h3'⟩ := (HA.out.below (HB0.out.trans hnx)) k (by have := HL.out; omega)
      subst hAt
      obtain ⟨fn, tmps, assign, body, hy, hR⟩ := hY (ts.take k) (tk ts k) (wr.alloc (.cells #[.int .i64 ((tk ts k).get 0), .int .i64 ((tk ts k).get 1), .int .i64 ((tk ts k).get 2), .int .i64 ((tk ts k).get 3)] 45)) (hJ _ _ _ none hJs (World.grownBy_alloc _ _ _) (fun r e => by cases e)) (by rw [List.length_take]; have := HL.out; omega)
      simp only [encV] at hy
      gi_wp2
      refine hR.mono ?_
      have ht : ts.take (k + 1) = ts.take k ++ [tk ts k] := by rw [List.take_succ_eq_append_getElem (by have := HL.out; omega)]; simp [tk, List.getD, List.getElem?_eq_getElem (show k < ts.length by have := HL.out; omega)]
      have HT := Lib.hid ht; clear ht
      rintro e W3 (⟨rfl, hJ3, hk3⟩ | ⟨rfl, hJx3⟩)
      · have hb3 : Below w0.heap.size W W3 := hnx.trans (((Below.refl _ _).alloc (Nat.le_trans HB0.out.size hz) _).trans hk3)
        have HB3 := Lib.hid hb3; have HJ3 := Lib.hid hJ3
        have hz3 : W.heap.size ≤ W3.heap.size := hb3.size
        clear hb3 hJ3 hk3 hy hR
        gi_wp2
        go_roundw
        case rel => exact ⟨k + 1, by omega, by go_num, by rw [HT.out]; exact HJ3.out, HB3.out, hz3⟩
        case measure => (simp [intOf] <;> omega)
      · have HJ3 := Lib.hid hJx3
        clear hJx3 hy hR
        gi_wp2
        refine bodyPost_ret (results_none rfl _ _ _) rfl ?_
        exact ⟨⟨_, rfl⟩, .inr ⟨_, ⟨ts.drop (k + 1), by rw [← HT.out, List.take_append_drop]⟩, HJ3.out⟩⟩
    · have hkn : k = len := by omega
      have HJ3 := Lib.hid hJs
      clear hJs
      subst hkn
      gi_wp2
      go_end0
      refine ⟨⟨_, rfl⟩, .inl ⟨_, rfl, ?_⟩⟩
      have := HJ3.out
      rwa [HL.out, List.take_length] at this
end Go.Proofs.Ytnjmgmdpkogocaa
namespace Go.Proofs.Ytnjmgmdpkogocaa
open Go Go.RowKit Go.Proofs Go.Shelf
set_option linter.unusedVariables false
set_option linter.unusedSimpArgs false
attribute [local go_sem] Oper.semAt_some
theorem bk_own {β : Type} (B : Nat) (C : Array Value) (E : TypeId) : Own (fun (_ : β) W => BK W B C E) := fun s X Y row hs hg hrow =>
  hs.grown hg (fun e' => by
    obtain ⟨o, ho, hc⟩ := hrow B e'.symm
    have hs' : X.heap[B]? = some (.cells C E (0, 0)) := hs
    rw [hs'] at ho; cases ho; cases hc)
set_option maxRecDepth 100000 in
set_option maxHeartbeats 4000000 in
theorem AppendSeqT_in (F : Fence) (n : Nat) (h3 : F.fn 131) (h5 : F.fn 119) (hro : F.round = none) (hn : 4 ≤ n) (Bs len cap : Nat) (A : Option Addr) (ts : List T4) (w : World) (hlen : len = ts.length) (hl : len ≤ 1000000) (hA : RT w A ts) (hBs : Bs < w.heap.size) (hc : w.cell? ⟨Bs, 0, none⟩ = some (.slice A len cap)) :
    CallsIn F n Try.prog 131 #[.slice none 0 0, .func (.func 119) #[] #[.pointer (some ⟨Bs, 0, none⟩)]] w fun e w' => ∃ v, e = .returned v ∧ OT w' w.heap.size 45 v ts ∧ (v = .slice none 0 0 ↔ ts = []) ∧ Below w.heap.size w w' := by
  obtain ⟨i0, hi, hz0, hz1, hz2⟩ := info_parts info45
  have HA := Lib.hid hA; have HL := Lib.hid hlen; clear hA hlen
  refine callsIn_of_wp_marks Try.func131 rfl h3 ?_ hro
  simp only [Try.ntmps131, List.size_toArray, List.length_cons, List.length_nil, Nat.reduceAdd, Nat.reduceSub, Array.replicate_succ, Array.replicate_zero, List.push_toArray, List.append_toArray, List.nil_append, List.cons_append]
  gi_wp2
  have bS := Boxed.new w 24 (.slice none 0 0)
  have hB0 : Below w.heap.size w (w.alloc (.cells #[.slice none 0 0] 24)) := (Below.refl _ w).alloc (Nat.le_refl _) _
  have hsz : (w.alloc (.cells #[.slice none 0 0] 24)).heap.size = w.heap.size + 1 := by simp
  obtain ⟨W0, hW0⟩ : ∃ W0, w.alloc (.cells #[.slice none 0 0] 24) = W0 := ⟨_, rfl⟩
  rw [hW0] at bS hB0 hsz ⊢
  clear hW0
  refine wpIn_rangeFunc_ownH hro (by omega) (gf := 119) (lb := #[.pointer (some ⟨Bs, 0, none⟩)]) rfl h5 (enters_of Try.func119 (by kernel_rfl) rfl)
    (ValuesT_stops F (n - 1) h5 hro (by omega) Bs len cap A ts w W0 HL.out hl HA.out hB0 (by omega) (cell_to hB0 hc)) belowK_t (belowK_b (by omega)) (Below.refl _ _) (fun _ => rfl)
    (fun pre W => (∃ v, Boxed W w.heap.size 24 v ∧ W.ownsRow w.heap.size 45 4 v pre.length (tcells pre) ∧ (v = .slice none 0 0 ↔ pre = [])) ∧ Below w.heap.size w W)
    (fun _ _ _ => False)
    (OwnFrom.and (Own.from (holdsRow_own w.heap.size w.heap.size 24 45 4 List.length tcells (fun pre v => (v = .slice none 0 0 ↔ pre = []))) _) (ownFrom_below (Nat.le_refl _) (by omega)))
    (fun _ _ _ _ _ hs _ _ => hs)
    ⟨⟨_, bS, World.ownsRow_nil _ _ _ _, by simp⟩, hB0⟩
    (fun x a' W => ∃ Bx, w.heap.size < Bx ∧ BK W Bx x.arr 45 ∧ a' = { tmps := #[.slice none 0 0, .func (.func 119) #[] #[.pointer (some ⟨Bs, 0, none⟩)], .pointer (some ⟨w.heap.size, 0, none⟩), undef, .slice none 0 0, .pointer (some ⟨Bx, 0, none⟩), .func (.func 119) #[] #[.pointer (some ⟨Bs, 0, none⟩)], .agg #[.int .i64 (x.get 0), .int .i64 (x.get 1), .int .i64 (x.get 2), .int .i64 (x.get 3)], undef, undef, undef, undef, undef], defers := [] })
    (fun x a' _ X Y row hs hg hr => by obtain ⟨Bx, h1, h2, h3⟩ := hs; exact ⟨Bx, h1, bk_own (β := Unit) Bx x.arr _ () X Y row h2 hg (fun r e => (hr r e).2), h3⟩)
    ?assign ?body ?done ?stop
  case assign =>
    rintro l pre x W K ⟨⟨v, hv, hrow, hnil⟩, hB1⟩ hK
    dsimp only [encV]
    gi_wp2
    exact hK _ _ ((KeepsOthers.alloc _ _).from _) ((Below.refl _ W).alloc hB1.size _) ⟨⟨v, hv.alloc _, hrow.alloc _, hnil⟩, hB1.alloc hB1.size _⟩ ⟨W.heap.size, hv.lt, BK.new W x.arr _, rfl⟩
  case body =>
    rintro l pre x a' W hl' ⟨r, hr⟩ ⟨⟨v, hv, hrow, hnil⟩, hB1⟩ ⟨Bx, hBx, bX, rfl⟩ hlt
    have hvc := hv.cell
    have x0 := bX.cell (x.cell 0 (by omega)); have x1 := bX.cell (x.cell 1 (by omega)); have x2 := bX.cell (x.cell 2 (by omega)); have x3 := bX.cell (x.cell 3 (by omega))
    have hpl : pre.length < 1000000 := by have := HL.out; omega
    gi_wp2_with (gi_at_builtin; refine wpListIn_append_own _ rfl _ _ 24 rfl w.heap.size 45 i0 _ 4 32 Try.underlying24 hi hz0 hz1 hz2 rfl (by decide) _ _ _ rfl (hrow.alloc _) ⟨W.heap.size, 0, none⟩ 1 1 x.arr.toList rfl rfl (fun j u hj => (by rw [add_none]; exact (BK.new W x.arr 45).cell (by simpa using hj))) (by simp [T4.arr, Value.oneCell']) (by simp only [maxLen]; omega) (by omega) (by have := hB1.size; simp; omega) ?_; intro v' w1 hown' hgrow _; obtain ⟨g', cap', rfl⟩ := ownsRow_succ hown'; obtain ⟨hv1, hv2, hr2, hk2, hb2⟩ := hv.appended (by decide) hrow hB1.size (Nat.le_refl _) hown' hgrow; have hc1 := hv1.cell; have hf1 := hv1.frozen)
    exact ⟨hk2.from _, hb2, ⟨_, hv2, by rw [List.length_append, tcells_snoc]; exact hr2, by simp⟩, hB1.trans hb2⟩
  case done =>
    rintro D ys W hD rfl ⟨⟨v, hv, hrow, hnil⟩, hB1⟩ hK
    have hvc := hv.cell
    gi_wp2
    refine ⟨by simp, .inl ⟨_, _, rfl, run_takeDeferred hK, ?_⟩⟩
    exact ⟨_, results_tmp (t := 4) rfl _ _ _, v, rfl, ownsRow_putObj hrow _ hK rfl, hnil, hB1.trans (belowK_b (w := w) (Nat.le_refl _) W D _ _ (by omega) hK rfl rfl)⟩
  case stop =>
    rintro D c pre W _ _ hF _
    exact hF.elim
set_option maxRecDepth 100000 in
set_option maxHeartbeats 1000000 in
theorem CollectT_any (Bs len cap : Nat) (A : Option Addr) (ts : List T4) (w : World) (hlen : len = ts.length) (hl : len ≤ 1000000) (hA : RT w A ts) (hBs : Bs < w.heap.size) (hc : w.cell? ⟨Bs, 0, none⟩ = some (.slice A len cap)) :
    Calls Try.prog 117 #[.func (.func 119) #[] #[.pointer (some ⟨Bs, 0, none⟩)]] w fun e w' => ∃ v, e = .returned v ∧ OT w' w.heap.size 45 v ts ∧ (v = .slice none 0 0 ↔ ts = []) ∧ Below w.heap.size w w' := by
  have h := (callsIn_wide (n := 8)).1 (AppendSeqT_in Fence.wide 8 trivial trivial rfl (by omega) Bs len cap A ts w hlen hl hA hBs hc)
  clear hA hc
  go_enter Try.func117, Try.ntmps117
  go_wp2_with fail
  refine h.mono ?_
  rintro e w1 ⟨v, rfl, hO, hv, hB1⟩
  have HO := Lib.hid hO; have HV := Lib.hid hv; have HB := Lib.hid hB1; clear hO hv hB1 h
  go_wp2_with fail
  go_ret
  exact ⟨v, rfl, HO.out, HV.out, HB.out⟩
end Go.Proofs.Ytnjmgmdpkogocaa

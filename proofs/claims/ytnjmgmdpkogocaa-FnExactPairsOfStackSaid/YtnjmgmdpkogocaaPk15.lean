/-
  Parts of the proof, in their order: PairsI, StackI, LawPairsOfStack.
-/
import Derived.Test.YtnjmgmdpkogocaaPk12
import Derived.Test.YtnjmgmdpkogocaaPk14
import Derived.Test.YtnjmgmdpkogocaaPk11
import Derived.Test.YtnjmgmdpkogocaaPk3
import Derived.Deep.CutBlock
import Derived.Test.YtnjmgmdpkogocaaPk6
import Derived.Deep.RegionHeld3
/-
  Contract: impl.pairs. (mkpairsi.py wrote it.)
-/
namespace Go.Proofs.Ytnjmgmdpkogocaa
open Go Go.RowKit Go.Proofs Go.Proofs.YtnjmgmdpkogocaaW.PrintWords Go.Proofs.YtnjmgmdpkogocaaW.PrintLast Go.Proofs.YtnjmgmdpkogocaaW.PrintMore Go.Proofs.Ytnjmgmdpkogocaa.Q
set_option linter.unusedVariables false
set_option linter.unusedSimpArgs false

def pri_T8 : Bool × List (List Nat × List Nat) := (true, [([], []), ([], []), ([1], [1]), ([0, 2], [0, 2]), ([3], [3]), ([], []), ([], []), ([6], [6]), ([5, 7], [5, 7]), ([8], [8]), ([], []), ([4, 9, 10], [4, 9, 10]), ([], []), ([12, 11, 11, 0, 1, 2, 3, 4, 5, 6, 7, 8, 9, 10, 11, 12], [11, 12])])
def pri_B8 : List Nat := [0, 0, 2, 7, 15, 0, 0, 64, 224, 480, 0, 2047, 0, 8191]
theorem pri_tab8 : rtab .any (opsOf Try.f87 8) = pri_T8 := by kernel_rfl
theorem pri_bits8 : waitsOk pri_T8.2 pri_B8 = true := by kernel_rfl
set_option maxRecDepth 100000 in
theorem ix2_0 (a b : Int) (w : World) : (Instr.index 100 (Value.agg #[.int .i64 a, .int .i64 b]) (.int .i64 0)).run Try.prog w = .ok (.int .i64 a) w := by
  simp [Instr.index]; rfl
set_option maxRecDepth 100000 in
theorem ix2_1 (a b : Int) (w : World) : (Instr.index 100 (Value.agg #[.int .i64 a, .int .i64 b]) (.int .i64 1)).run Try.prog w = .ok (.int .i64 b) w := by
  simp [Instr.index]; rfl
theorem cell_al2 {w : World} (o : Obj) {b j : Nat} {v : Value} (h : w.cell? ⟨b, j, none⟩ = some v) : (w.alloc o).cell? ⟨b, j, none⟩ = some v := cell_to (new_below w o) h
/-- a fresh pair, made before or behind the call -/
structure PJ (wd w' : World) (b : Nat) : Prop where
  be : Below wd.heap.size wd w'
  lo : wd.heap.size ≤ b
  bk : BK w' b #[.int .i64 0, .int .i64 0] 86
theorem PJ.callFirst {wd w3 : World} (hB : Below wd.heap.size wd w3) : PJ wd (w3.alloc (.cells #[.int .i64 0, .int .i64 0] 86)) w3.heap.size :=
  ⟨below_alloc hB _, hB.size, BK.new _ _ _⟩
theorem PJ.allocFirst {wd w3 : World} (hB : Below (wd.alloc (.cells #[.int .i64 0, .int .i64 0] 86)).heap.size (wd.alloc (.cells #[.int .i64 0, .int .i64 0] 86)) w3) : PJ wd w3 wd.heap.size :=
  ⟨below_to (below_alloc (Below.refl _ _) _) hB, Nat.le_refl _, (BK.new wd _ _).below hB (by simp)⟩
theorem nameP2 {P : Program} {c : Code} {Q : Exit → Act → World → Prop} {a : Act} {w : World} {E : TypeId}
    (h : ∀ W, W.heap[w.heap.size]? = some (.map #[] 0) → BK W (w.heap.size + 1) #[] E → Below w.heap.size w W → c.wp P Q a W) : c.wp P Q a ((w.alloc (.map #[] 0)).alloc (.cells #[] E)) := by
  refine h _ ?_ (by simpa using BK.new (w.alloc (.map #[] 0)) #[] E) (below_alloc (below_alloc (Below.refl _ _) _) _)
  have h1 := (MapKept.heap_alloc w (.map #[] 0)).1
  rw [Below.heap_alloc (w.alloc (.map #[] 0)) _ w.heap.size (by simp)]
  exact h1
theorem nameV2 {P : Program} {c : Code} {Q : Exit → Act → World → Prop} {a : Act} {w : World} {C1 : Array Value} {E1 : TypeId}
    (h : ∀ W, BK W w.heap.size C1 E1 → Below w.heap.size w W → c.wp P Q a W) : c.wp P Q a (w.alloc (.cells C1 E1)) := h _ (BK.new _ _ _) (below_alloc (Below.refl _ _) _)
section
variable {P : Program} {ops : Array Oper} {rest : List Oper} {o : Oper} {a : Act} {Q : Exit → Act → World → Prop}
theorem wp_putP {w : World} (hg : o.guard = none) (m x v : Operand) (hop : o.op = Op.mapUpdate 97 m x v) {b n : Nat} {p : Int × Int → Bool} (y : Int × Int) (hm : a.eval m = .map (some b)) (hx : a.eval x = valP y) (hv : a.eval v = .bool true)
    (h : SetP w b n p) (hn : n < 1000000) (hy : wfP y)
    (hK : ∀ w', SetP w' b (n + 1) (fun z => decide (z = y) || p z) → w.grownBy w' (some b) → wpList Try.prog ops Q rest (a.put o.dst undef) w') : wpList Try.prog ops Q (o :: rest) a w := by
  refine wpList_plain hg fun K' hK' => ?_
  obtain ⟨w', hrun, r1, r2⟩ := h.put y hy hn
  unfold Oper.wp
  simp [execOp, hop, hm, hx, hv, hrun, Result.andThen]
  exact hK' _ _ (hK w' r1 r2)
theorem app_pair {W : World} (base : Nat) (hgd : o.guard = none) (s x : Operand) (t : TypeId)
    (ho : o.op = .call { callee := .builtin .append, args := #[s, x], argTypes := #[t, t] }) (ht : P.underlying t = some (.slice 86))
    (hinfo : (P.info? 86).map (fun i => (i.zero, i.size, i.bytes)) = some (some (.agg #[.int .i64 0, .int .i64 0]), 2, 16))
    (v : Value) (ps : List (Int × Int)) (y : Int × Int) (hs : a.eval s = v) {B : Nat} (hB : B = W.heap.size) (hx : a.eval x = .slice (some ⟨B, 0, none⟩) 1 1)
    (HO : OP W base v ps) (hbase : base ≤ W.heap.size) (hl : ps.length + 1 ≤ 1000000000000)
    (h : ∀ v1 w1, OP w1 base v1 (ps ++ [y]) → W.grownBy w1 v.ownBlock → (v1.ownBlock = v.ownBlock ∨ ∃ b, v1.ownBlock = some b ∧ W.heap.size ≤ b) → wpList P ops Q rest (a.put o.dst v1) w1) :
    wpList P ops Q (o :: rest) a (W.alloc (.cells #[.int .i64 y.1, .int .i64 y.2] 86)) := by
  subst hB
  refine app_cells base hgd s x t 86 _ 2 16 ho ht hinfo rfl (by decide) (by decide) v ps.length (pcells ps) #[.int .i64 y.1, .int .i64 y.2] hs hx rfl (by simp [Value.oneCell']) HO hbase (by omega) ?_
  intro v1 w1 hown hg hat
  exact h v1 w1 (by
    have e : pcells (ps ++ [y]) = pcells ps ++ (#[.int .i64 y.1, .int .i64 y.2] : Array Value).toList := by rw [pcells_snoc]; rfl
    unfold OP; rw [List.length_append, List.length_singleton, e]; exact hown) hg hat
end
theorem infoP : (Try.prog.info? 86).map (fun i => (i.zero, i.size, i.bytes)) = some (some (.agg #[.int .i64 0, .int .i64 0]), 2, 16) := by kernel_rfl
/-- what stands while the pairs are met: the map in block mB, the list v -/
structure PrL (w wF wr : World) (mB g : Nat) (v : Value) (nn : Nat) (xs : List (Int × Int)) (p : Int × Int → Bool) : Prop where
  sz : wF.heap.size ≤ wr.heap.size
  bl : ∀ k, k < wF.heap.size → k ≠ mB → k ≠ g → wr.heap[k]? = wF.heap[k]?
  own0 : ∀ k, v.ownBlock = some k → k = g ∨ wF.heap.size ≤ k
  be : Below w.heap.size w wr
  op : OP wr w.heap.size v xs
  some0 : v.ownBlock ≠ none
  mp : SetP wr mB nn p
theorem PrL.to {w wF wr W : World} {mB g nn : Nat} {v : Value} {xs : List (Int × Int)} {p : Int × Int → Bool} (h : PrL w wF wr mB g v nn xs p) (hb : Below wr.heap.size wr W) : PrL w wF W mB g v nn xs p :=
  ⟨Nat.le_trans h.sz hb.size, fun k h1 h2 h3 => (hb.block k (Nat.lt_of_lt_of_le h1 h.sz)).trans (h.bl k h1 h2 h3), h.own0, below_to h.be hb, h.op.to hb, h.some0, h.mp.same (hb.block _ h.mp.lt)⟩
theorem OP.typed {W : World} {base : Nat} {v : Value} {ps : List (Int × Int)} (h : OP W base v ps) {b : Nat} (hb : v.ownBlock = some b) : ∃ C, BK W b C 86 := by
  rcases h.2 with ⟨hv, -⟩ | ⟨g, cap, cur, hv, hg, hh, -⟩
  · rw [hv] at hb; simp [Value.ownBlock] at hb
  · rw [hv] at hb
    have : g = b := by simpa [Value.ownBlock] using hb
    subst this
    exact ⟨cur, hh⟩
theorem bk_type {W : World} {b : Nat} {C C' : Array Value} {E E' : TypeId} (h : BK W b C E) (h' : BK W b C' E') : E = E' := by
  have h1 : W.heap[b]? = some (.cells C E (0, 0)) := h
  have h2 : W.heap[b]? = some (.cells C' E' (0, 0)) := h'
  rw [h1] at h2
  injection h2 with h2
  injection h2 with e1 e2
theorem OP.same {w w' : World} {base : Nat} {v : Value} {ps : List (Int × Int)} (h : OP w base v ps) (hk : ∀ k, v.ownBlock = some k → w'.heap[k]? = w.heap[k]?) : OP w' base v ps := by
  refine ⟨h.1, ?_⟩
  rcases h.2 with h2 | ⟨g, cap, cur, hv, hg, hh, r⟩
  · exact .inl h2
  · exact .inr ⟨g, cap, cur, hv, hg, (hk g (by rw [hv]; rfl)).trans hh, r⟩
theorem PrL.put {w wF wr W : World} {mB g nn : Nat} {v : Value} {xs : List (Int × Int)} {p q : Int × Int → Bool} (h : PrL w wF wr mB g v nn xs p) (hm : SetP W mB (nn + 1) q) (hg : wr.grownBy W (some mB)) (hmB : w.heap.size ≤ mB) : PrL w wF W mB g v (nn + 1) xs q :=
  ⟨Nat.le_trans h.sz hg.size, fun k h1 h2 h3 => (hg.block k (Nat.lt_of_lt_of_le h1 h.sz) (fun e => h2 (Option.some.inj e))).trans (h.bl k h1 h2 h3), h.own0, grown_below h.be hg (fun b hb => by injection hb with hb; subst hb; exact hmB),
    h.op.same fun k hk => by
      obtain ⟨C, hC⟩ := h.op.typed hk
      exact hg.block k (h.op.lt k hk).2 (fun e => by
        have e := Option.some.inj e
        subst e
        exact h.mp.not_cells C _ hC), h.some0, hm⟩
theorem PrL.app {w wF wr W : World} {mB g nn : Nat} {v v1 : Value} {xs xs1 : List (Int × Int)} {p : Int × Int → Bool} (h : PrL w wF wr mB g v nn xs p) (hO : OP W w.heap.size v1 xs1) (h1 : 0 < xs1.length) (hG : wr.grownBy W v.ownBlock) (hat : v1.ownBlock = v.ownBlock ∨ ∃ b, v1.ownBlock = some b ∧ wr.heap.size ≤ b) : PrL w wF W mB g v1 nn xs1 p := by
  refine ⟨Nat.le_trans h.sz hG.size, fun k h1 h2 h3 => (hG.block k (Nat.lt_of_lt_of_le h1 h.sz) (fun e => ?_)).trans (h.bl k h1 h2 h3), fun k hk => ?_, grown_below h.be hG (fun b hb => (h.op.lt b hb).1), hO, ?_, h.mp.same (hG.block _ h.mp.lt (fun e => ?_))⟩
  · rcases h.own0 k e.symm with e2 | e2
    · exact h3 e2
    · omega
  · rcases hat with e | ⟨b, e, hb⟩
    · exact h.own0 k (by rw [← e]; exact hk)
    · rw [e] at hk
      injection hk with hk
      right
      have := h.sz
      omega
  · rcases hO.2 with ⟨hv, hn⟩ | ⟨g', cap, cur, hv, -⟩
    · omega
    · rw [hv]; simp [Value.ownBlock]
  · obtain ⟨C, hC⟩ := h.op.typed e.symm
    exact h.mp.not_cells C _ hC
theorem PrL.mask {w wF wr : World} {mB g nn : Nat} {v : Value} {xs : List (Int × Int)} {p q : Int × Int → Bool} (h : PrL w wF wr mB g v nn xs p) (e : ∀ x, p x = q x) : PrL w wF wr mB g v nn xs q :=
  ⟨h.sz, h.bl, h.own0, h.be, h.op, h.some0, h.mp.congr e⟩
def inP (xs : List (Int × Int)) (x : Int × Int) : Bool := decide (x ∈ xs)
/-- the pairs that have been met behind q places and s sides -/
def metTo (ss ts : List T4) (L : List SPos) (q s : Nat) : List (Int × Int) := (L.take q).flatMap (pairsAt ss ts) ++ (match L[q]? with | some p => (pairsAt ss ts p).take s | none => [])
theorem metTo_zero (ss ts : List T4) (L : List SPos) : metTo ss ts L 0 0 = [] := by
  unfold metTo; cases L[0]? <;> simp
theorem metTo_side {ss ts : List T4} {L : List SPos} {q s : Nat} (hq : q < L.length) (hs : s < 2) : metTo ss ts L q (s + 1) = metTo ss ts L q s ++ [((tk ss (L[q]).f0.toNat).get (2 * s), (tk ts (L[q]).f1.toNat).get (2 * s))] := by
  unfold metTo
  rw [List.getElem?_eq_getElem hq]
  match s, hs with
  | 0, _ => simp [pairsAt]
  | 1, _ => simp [pairsAt]
theorem metTo_next {ss ts : List T4} {L : List SPos} {q : Nat} (hq : q < L.length) : metTo ss ts L q 2 = metTo ss ts L (q + 1) 0 := by
  have z : (match L[q + 1]? with | some p => (pairsAt ss ts p).take 0 | none => []) = [] := by cases L[q + 1]? <;> rfl
  have e : (pairsAt ss ts L[q]).take 2 = pairsAt ss ts L[q] := rfl
  unfold metTo
  rw [z, List.append_nil, List.getElem?_eq_getElem hq, List.take_succ_eq_append_getElem hq, List.flatMap_append]
  simp only [List.flatMap_cons, List.flatMap_nil, List.append_nil, e]
theorem metTo_all (ss ts : List T4) (L : List SPos) : metTo ss ts L L.length 0 = L.flatMap (pairsAt ss ts) := by
  unfold metTo
  rw [List.take_length, List.getElem?_eq_none (Nat.le_refl _)]; simp
theorem metTo_len (ss ts : List T4) (L : List SPos) (q s : Nat) (hs : s ≤ 2) : (metTo ss ts L q s).length ≤ 2 * q + 2 := by
  unfold metTo
  rw [List.length_append]
  have h1 : ((L.take q).flatMap (pairsAt ss ts)).length ≤ 2 * q := by
    rw [List.length_flatMap]
    have : ((L.take q).map fun a => (pairsAt ss ts a).length) = List.replicate (L.take q).length 2 := by
      rw [← List.map_const']; rfl
    rw [this, List.sum_replicate_nat, List.length_take]
    omega
  have h2 : (match L[q]? with | some p => (pairsAt ss ts p).take s | none => []).length ≤ 2 := by
    split
    · rw [List.length_take]; omega
    · simp
  omega

set_option maxHeartbeats 8000000 in
set_option maxRecDepth 100000 in
theorem pairs_any (A1 : Option Addr) (ss : List T4) (n1 c1 : Nat) (A2 : Option Addr) (ts : List T4) (n2 c2 : Nat) (w : World) (hn1 : n1 = ss.length) (hA1 : RT w A1 ss) (hc1 : n1 ≤ c1) (hn2 : n2 = ts.length) (hA2 : RT w A2 ts) (hc2 : n2 ≤ c2) (h16 : n1 ≤ 16 ∧ n2 ≤ 16)
    (hwf : ∀ t, t ∈ ss ∨ t ∈ ts → ∀ j, j < 4 → (Lit.int .i64 (t.get j)).wf = true) :
    Calls Try.prog 87 #[.slice A1 n1 c1, .slice A2 n2 c2] w fun e w' => ∃ v, e = .returned v ∧ OP w' w.heap.size v (msortP (nubP (metPairs ss ts))) ∧ Below w.heap.size w w' := by
  have HA1 := Lib.hid hA1; have HA2 := Lib.hid hA2; have HN1 := Lib.hid hn1; have HN2 := Lib.hid hn2; have HWF := Lib.hid hwf
  obtain ⟨s16, t16⟩ := h16
  clear hA1 hA2 hn1 hn2 hwf
  have hmm := fun w_ => run_makeMap (P := Try.prog) 97 w_
  go_enter Try.func87, Try.ntmps87
  go_upto_region 2 with fail
  refine nameP2 ?_
  intro W1 m1 b1 hb1
  have HM1 := Lib.hid (SetP.made m1); have HO1 := Lib.hid (OP.empty (base := w.heap.size) b1 (by omega)); have HB1 := Lib.hid hb1
  obtain ⟨mB, hmB⟩ : ∃ q, q = w.heap.size := ⟨_, rfl⟩
  obtain ⟨g, hg⟩ : ∃ q, q = w.heap.size + 1 := ⟨_, rfl⟩
  have hl1 : w.heap.size + 1 < W1.heap.size := b1.lt
  rw [← hg] at HO1 ⊢
  rw [← hmB] at HM1 ⊢
  have HGW := Lib.hid (show w.heap.size ≤ mB ∧ w.heap.size ≤ g ∧ mB ≠ g ∧ mB < W1.heap.size ∧ g < W1.heap.size by omega)
  clear m1 b1 hb1 hmB hg hl1
  obtain ⟨kk, hkk⟩ := (stacked_ev (ss.map toS) (ts.map toS) (by rw [List.length_map, ← HN1.out]; omega) (by rw [List.length_map, ← HN2.out]; omega)).rounds
  have hcalls := impl_stacked.calls kk A1 c1 (ss.map toS) A2 c2 (ts.map toS) _ W1 (C_of_rt (HA1.out.below HB1.out) (by rw [← HN1.out]; omega)) (by rw [List.length_map, ← HN1.out]; exact hc1) (C_of_rt (HA2.out.below HB1.out) (by rw [← HN2.out]; omega)) (by rw [List.length_map, ← HN2.out]; exact hc2) hkk
  rw [List.length_map, ← HN1.out, List.length_map, ← HN2.out] at hcalls
  have HCALLS := Lib.hid hcalls
  clear hcalls hkk
  go_wp2_with fail
  refine HCALLS.out.mono ?_
  rintro e W3 ⟨vL, rfl, hR, hb3⟩
  obtain ⟨AL, cL, rfl⟩ := Kd.R_slice hR
  obtain ⟨-, hcL, hCL⟩ := Kd.R_reads' hR
  have hmem : ∀ p ∈ posL (ss.map toS) (ts.map toS), 0 ≤ p.f0 ∧ p.f0 < (n1 : Int) ∧ 0 ≤ p.f1 ∧ p.f1 < (n2 : Int) := fun p hp => by
    have := posL_mem hp
    rw [List.length_map, List.length_map, ← HN1.out, ← HN2.out] at this
    exact this
  have hmet : (posL (ss.map toS) (ts.map toS)).flatMap (pairsAt ss ts) = metPairs ss ts := by
    have := posL_met (ss.map toS) (ts.map toS)
    rwa [map_toTS, map_toTS] at this
  have hlenL : (posL (ss.map toS) (ts.map toS)).length ≤ 256 := by
    have := posI_len (ss.map toS) (ts.map toS) (ss.map toS).length 0
    rw [List.length_map, List.length_map, ← HN1.out, ← HN2.out] at this
    have h3 : n1 * n2 ≤ 16 * 16 := Nat.mul_le_mul s16 t16
    unfold posL
    rw [List.length_map, ← HN1.out]
    omega
  generalize posL (ss.map toS) (ts.map toS) = L at hR hcL hCL hmem hmet hlenL ⊢
  -- the places' own block
  have hown : ∀ b, (Value.slice AL L.length cL).ownBlock = some b → W1.heap.size ≤ b ∧ b < W3.heap.size := fun b hb => ⟨Kd.R_base hR b hb, Kd.R_lt hR b hb⟩
  obtain ⟨m, hm⟩ : ∃ q, q = L.length := ⟨_, rfl⟩
  have HCL := Lib.hid hCL; have HMEM := Lib.hid hmem; have HMET := Lib.hid hmet; have HB3 := Lib.hid (below_to HB1.out hb3); have HM := Lib.hid hm
  have HOWN := Lib.hid hown
  have HPL0 := Lib.hid (show PrL w W3 W3 mB g (.slice (some ⟨g, 0, none⟩) 0 0) 0 [] (fun _ => false) from
    ⟨Nat.le_refl _, fun _ _ _ _ => rfl, fun k hk => .inl (Option.some.inj hk).symm, HB3.out, HO1.out.to hb3, by simp [Value.ownBlock], HM1.out.same (hb3.block _ HM1.out.lt)⟩)
  have HG3 := Lib.hid (show mB < W3.heap.size ∧ g < W3.heap.size from ⟨Nat.lt_of_lt_of_le HGW.out.2.2.2.1 hb3.size, Nat.lt_of_lt_of_le HGW.out.2.2.2.2 hb3.size⟩)
  have HW13 := Lib.hid hb3.size
  rw [← HM.out] at hcL hlenL ⊢
  clear hR hCL hmem hmet hb3 hm hown hcL
  go_wp2_with fail
  go_loopw [6, 18] (fun v6 v18 wr => ∃ q nn : Nat, q ≤ m ∧ nn ≤ 2 * q ∧ v18 = .int .i64 q ∧ PrL w W3 wr mB g v6 nn (nubP (metTo ss ts L q 0)) (inP (nubP (metTo ss ts L q 0)))) (fun _ v18 _ => m - (intOf v18).toNat)
  case atStart => exact ⟨0, 0, Nat.zero_le _, Nat.le_refl _, rfl, by rw [metTo_zero]; exact HPL0.out.mask fun x => by simp [inP, nubP]⟩
  case round =>
    rename World => wo
    obtain ⟨q, nn, hq, hnn, rfl, hL⟩ := hrel
    have HLO := Lib.hid hL; clear hL
    by_cases hlt : q < m
    · have i1 : (q : Int) < m := by omega
      have HQ := Lib.hid (show q < L.length by rw [← HM.out]; exact hlt)
      -- the places are as they were
      obtain ⟨lb, lo, hAL, hlb, l0, l1⟩ := pos_of_C HCL.out HQ.out
      have hlz : lo = 0 ∨ True := .inr trivial
      clear hlz
      obtain ⟨i, hi⟩ : ∃ i : Nat, (L[q]'HQ.out).f0 = (i : Int) := ⟨(L[q]'HQ.out).f0.toNat, by have := (HMEM.out _ (List.getElem_mem HQ.out)).1; omega⟩
      obtain ⟨k, hk⟩ : ∃ k : Nat, (L[q]'HQ.out).f1 = (k : Int) := ⟨(L[q]'HQ.out).f1.toNat, by have := (HMEM.out _ (List.getElem_mem HQ.out)).2.2.1; omega⟩
      have hin : i < n1 ∧ k < n2 := by
        have := HMEM.out _ (List.getElem_mem HQ.out)
        omega
      rw [hi] at l0; rw [hk] at l1
      have HI := Lib.hid hi; have HK := Lib.hid hk
      subst hAL
      have hlbk : wo.heap[lb]? = W3.heap[lb]? := by
        have h1 := HOWN.out lb rfl
        have h2 := HGW.out
        exact HLO.out.bl lb hlb (by omega) (by omega)
      have hlo : lb < wo.heap.size := Nat.lt_of_lt_of_le hlb HLO.out.sz
      have l0' : wo.cell? ⟨lb, lo + q * 2, none⟩ = some (.int .i64 (i : Int)) := (World.cell?_of_block (w := W3) (a := ⟨lb, lo + q * 2, none⟩) hlbk).trans l0
      have l1' : wo.cell? ⟨lb, lo + q * 2 + 1, none⟩ = some (.int .i64 (k : Int)) := (World.cell?_of_block (w := W3) (a := ⟨lb, lo + q * 2 + 1, none⟩) hlbk).trans l1
      clear l0 l1 hi hk hlbk hlb
      go_upto_region 5 with fail
      refine nameV2 ?_
      intro W5 b5 hb5
      obtain ⟨pB, hpB⟩ : ∃ z, z = wo.heap.size := ⟨_, rfl⟩
      rw [← hpB] at b5 ⊢
      have HL5 := Lib.hid (HLO.out.to hb5); have HP5 := Lib.hid b5
      have HIN := Lib.hid hin
      clear b5 hb5 hpB l0' l1' hlo
      go_wp2_with fail
      go_loopw [6, 23] (fun v6 v23 wi => ∃ s nn' : Nat, s ≤ 2 ∧ nn' ≤ 2 * q + s ∧ v23 = .int .i64 s ∧ PrL w W3 wi mB g v6 nn' (nubP (metTo ss ts L q s)) (inP (nubP (metTo ss ts L q s))) ∧ BK wi pB #[.int .i64 (i : Int), .int .i64 (k : Int)] 100) (fun _ v23 _ => 2 - (intOf v23).toNat)
      case atStart => exact ⟨0, nn, Nat.zero_le _, by omega, rfl, HL5.out, HP5.out⟩
      case round =>
        rename World => wi
        obtain ⟨s, nn', hs, hnn', rfl, hL, hpb⟩ := hrel
        have HL := Lib.hid hL; have HPB := Lib.hid hpb
        clear hL hpb
        by_cases hls : s < 2
        · have s1 : (s : Int) < 2 := by omega
          have hbi := HL.out.be
          obtain ⟨sb, so, es, hsb, p0, p1, p2, p3⟩ := (HA1.out.below hbi) i (by rw [← HN1.out]; exact HIN.out.1)
          obtain ⟨tb, tq, et, htb, q0, q1, q2, q3⟩ := (HA2.out.below hbi) k (by rw [← HN2.out]; exact HIN.out.2)
          subst es; subst et
          have e0 : wi.cell? ⟨pB, 0, none⟩ = some (.int .i64 (i : Int)) := HPB.out.cell rfl
          have e1 : wi.cell? ⟨pB, 1, none⟩ = some (.int .i64 (k : Int)) := HPB.out.cell rfl
          obtain ⟨sd, hsd, hsx⟩ : ∃ sd : Int, sd = ((2 * s : Nat) : Int) ∧ ∀ w_, (Instr.index 100 (Value.agg #[.int .i64 0, .int .i64 2]) (.int .i64 (s : Int))).run Try.prog w_ = .ok (.int .i64 sd) w_ := by
            match s, hls with
            | 0, _ => exact ⟨0, rfl, ix2_0 0 2⟩
            | 1, _ => exact ⟨2, rfl, ix2_1 0 2⟩
          obtain ⟨x1, hx1⟩ : ∃ x, x = (tk ss i).get (2 * s) := ⟨_, rfl⟩
          obtain ⟨x2, hx2⟩ : ∃ x, x = (tk ts k).get (2 * s) := ⟨_, rfl⟩
          have HPF := Lib.hid (show impl_pairOf.f ((tk ss i).get 0) ((tk ss i).get 1) ((tk ss i).get 2) ((tk ss i).get 3) ((tk ts k).get 0) ((tk ts k).get 1) ((tk ts k).get 2) ((tk ts k).get 3) sd = some (x1, x2) by
            rw [hsd, hx1, hx2]; exact pairOf_f _ _ (2 * s) (by omega))
          have ms : tk ss i ∈ ss := by rw [← tk_get (by rw [← HN1.out]; exact HIN.out.1)]; exact List.getElem_mem _
          have mt : tk ts k ∈ ts := by rw [← tk_get (by rw [← HN2.out]; exact HIN.out.2)]; exact List.getElem_mem _
          have HWX := Lib.hid (show wfP (x1, x2) from ⟨by rw [hx1]; exact HWF.out _ (.inl ms) _ (by omega), by rw [hx2]; exact HWF.out _ (.inr mt) _ (by omega)⟩)
          have HSTEP := Lib.hid (show metTo ss ts L q (s + 1) = metTo ss ts L q s ++ [(x1, x2)] by
            rw [metTo_side HQ.out hls, HI.out, HK.out, Int.toNat_natCast, Int.toNat_natCast, ← hx1, ← hx2])
          have in1 : (i : Int) < n1 := by have := HIN.out.1; omega
          have kn1 : (k : Int) < n2 := by have := HIN.out.2; omega
          clear hsd hx1 hx2 ms mt hbi
          go_upto_region 8 with fail
          have hD := (Below.refl wi.heap.size wi).drew
          have e0d := cell_to hD e0
          have e1d := cell_to hD e1
          have p0d := cell_to hD p0
          have p1d := cell_to hD p1
          have p2d := cell_to hD p2
          have p3d := cell_to hD p3
          have q0d := cell_to hD q0
          have q1d := cell_to hD q1
          have q2d := cell_to hD q2
          have q3d := cell_to hD q3
          refine start_ (n := 14) (S := fun w' => w'.cell? ⟨pB, 0, none⟩ = some (.int .i64 (i : Int)) ∧ w'.cell? ⟨pB, 1, none⟩ = some (.int .i64 (k : Int)) ∧ w'.cell? ⟨sb, so + i * 4, none⟩ = some (.int .i64 ((tk ss i).get 0)) ∧ w'.cell? ⟨sb, so + i * 4 + 1, none⟩ = some (.int .i64 ((tk ss i).get 1)) ∧ w'.cell? ⟨sb, so + i * 4 + 2, none⟩ = some (.int .i64 ((tk ss i).get 2)) ∧ w'.cell? ⟨sb, so + i * 4 + 3, none⟩ = some (.int .i64 ((tk ss i).get 3)) ∧ w'.cell? ⟨tb, tq + k * 4, none⟩ = some (.int .i64 ((tk ts k).get 0)) ∧ w'.cell? ⟨tb, tq + k * 4 + 1, none⟩ = some (.int .i64 ((tk ts k).get 1)) ∧ w'.cell? ⟨tb, tq + k * 4 + 2, none⟩ = some (.int .i64 ((tk ts k).get 2)) ∧ w'.cell? ⟨tb, tq + k * 4 + 3, none⟩ = some (.int .i64 ((tk ts k).get 3))) (ds := [13]) #[false, false, false, false, false, false, false, false, false, false, false, false, false, false] (by kernel_rfl) rfl rfl ⟨e0d, e1d, p0d, p1d, p2d, p3d, q0d, q1d, q2d, q3d⟩ (fun hHeld => ?_)
          refine with_tabW pri_tab8 pri_bits8 (fun HT_ HW_ => ?_)
          have hL8' := HL.out.to hD; have hp8' := HPB.out.below hD HPB.out.lt
          generalize wi.drew = wd at hL8' hp8' e0d e1d p0d p1d p2d p3d q0d q1d q2d q3d hHeld ⊢
          have HL8 := Lib.hid hL8'; have HP8 := Lib.hid hp8'
          clear hD hL8' hp8' e0d e1d p0d p1d p2d p3d q0d q1d q2d q3d e0 e1 p0 p1 p2 p3 q0 q1 q2 q3
          refine pure_ (i := 0) (N := some 26) (v := ?_) (a' := ?_) #[true, false, false, false, false, false, false, false, false, false, false, false, false, false] rfl rfl (any_of HT_.out (by kernel_rfl)) (fun _ _ _ h => h) (Or.inl ⟨by rfl, ?_⟩) ?_ ?_
          rotate_left
          · intro w'
            go_simp
            with_reducible rfl
          rotate_left
          · simp only [Act.put, List.setIfInBounds_toArray, List.set_cons_zero, List.set_cons_succ, i64_w, i32_w]
            rfl
          refine pure_ (i := 1) (N := some 27) (v := ?_) (a' := ?_) #[true, true, false, false, false, false, false, false, false, false, false, false, false, false] rfl rfl (any_of HT_.out (by kernel_rfl)) (fun _ _ _ h => h) (Or.inl ⟨by rfl, ?_⟩) ?_ ?_
          rotate_left
          · intro w'
            go_simp
            with_reducible rfl
          rotate_left
          · simp only [Act.put, List.setIfInBounds_toArray, List.set_cons_zero, List.set_cons_succ, i64_w, i32_w]
            rfl
          refine pure_ (i := 5) (N := some 31) (v := ?_) (a' := ?_) #[true, true, false, false, false, true, false, false, false, false, false, false, false, false] rfl rfl (any_of HT_.out (by kernel_rfl)) (fun _ _ _ h => h) (Or.inl ⟨by rfl, ?_⟩) ?_ ?_
          rotate_left
          · intro w'
            go_simp
            with_reducible rfl
          rotate_left
          · simp only [Act.put, List.setIfInBounds_toArray, List.set_cons_zero, List.set_cons_succ, i64_w, i32_w]
            rfl
          refine pure_ (i := 6) (N := some 32) (v := ?_) (a' := ?_) #[true, true, false, false, false, true, true, false, false, false, false, false, false, false] rfl rfl (any_of HT_.out (by kernel_rfl)) (fun _ _ _ h => h) (Or.inl ⟨by rfl, ?_⟩) ?_ ?_
          rotate_left
          · intro w'
            go_simp
            with_reducible rfl
          rotate_left
          · simp only [Act.put, List.setIfInBounds_toArray, List.set_cons_zero, List.set_cons_succ, i64_w, i32_w]
            rfl
          refine pure_ (i := 10) (N := some 36) (v := ?_) (a' := ?_) #[true, true, false, false, false, true, true, false, false, false, true, false, false, false] rfl rfl (any_of HT_.out (by kernel_rfl)) (fun _ _ _ h => h) (Or.inl ⟨by rfl, ?_⟩) ?_ ?_
          rotate_left
          · intro w'
            go_simp
            with_reducible rfl
          rotate_left
          · simp only [Act.put, List.setIfInBounds_toArray, List.set_cons_zero, List.set_cons_succ, i64_w, i32_w]
            rfl
          refine take_ (i := 2) (N := some 28) (v := ?_) (a' := ?_) #[true, true, true, false, false, true, true, false, false, false, true, false, false, false] rfl rfl (take_ofW HT_.out HW_.out (by kernel_rfl)) (fun _ _ _ h => h) (Or.inl ⟨by rfl, ?_⟩) hHeld ?_ ?_
          rotate_left
          · rintro w' ⟨s0_, s1_, s2_, s3_, s4_, s5_, s6_, s7_, s8_, s9_⟩
            go_simp
            with_reducible rfl
          rotate_left
          · simp only [Act.put, List.setIfInBounds_toArray, List.set_cons_zero, List.set_cons_succ, i64_w, i32_w]
            rfl
          refine take_ (i := 7) (N := some 33) (v := ?_) (a' := ?_) #[true, true, true, false, false, true, true, true, false, false, true, false, false, false] rfl rfl (take_ofW HT_.out HW_.out (by kernel_rfl)) (fun _ _ _ h => h) (Or.inl ⟨by rfl, ?_⟩) hHeld ?_ ?_
          rotate_left
          · rintro w' ⟨s0_, s1_, s2_, s3_, s4_, s5_, s6_, s7_, s8_, s9_⟩
            go_simp
            with_reducible rfl
          rotate_left
          · simp only [Act.put, List.setIfInBounds_toArray, List.set_cons_zero, List.set_cons_succ, i64_w, i32_w]
            rfl
          refine pure_ (i := 3) (N := some 29) (v := ?_) (a' := ?_) #[true, true, true, true, false, true, true, true, false, false, true, false, false, false] rfl rfl (any_of HT_.out (by kernel_rfl)) (fun _ _ _ h => h) (Or.inl ⟨by rfl, ?_⟩) ?_ ?_
          rotate_left
          · intro w'
            go_simp
            with_reducible rfl
          rotate_left
          · simp only [Act.put, List.setIfInBounds_toArray, List.set_cons_zero, List.set_cons_succ, i64_w, i32_w]
            rfl
          refine pure_ (i := 8) (N := some 34) (v := ?_) (a' := ?_) #[true, true, true, true, false, true, true, true, true, false, true, false, false, false] rfl rfl (any_of HT_.out (by kernel_rfl)) (fun _ _ _ h => h) (Or.inl ⟨by rfl, ?_⟩) ?_ ?_
          rotate_left
          · intro w'
            go_simp
            with_reducible rfl
          rotate_left
          · simp only [Act.put, List.setIfInBounds_toArray, List.set_cons_zero, List.set_cons_succ, i64_w, i32_w]
            rfl
          refine take_ (i := 4) (N := some 30) (v := ?_) (a' := ?_) #[true, true, true, true, true, true, true, true, true, false, true, false, false, false] rfl rfl (take_ofW HT_.out HW_.out (by kernel_rfl)) (fun _ _ _ h => h) (Or.inl ⟨by rfl, ?_⟩) hHeld ?_ ?_
          rotate_left
          · rintro w' ⟨s0_, s1_, s2_, s3_, s4_, s5_, s6_, s7_, s8_, s9_⟩
            go_simp
            with_reducible rfl
          rotate_left
          · simp only [Act.put, List.setIfInBounds_toArray, List.set_cons_zero, List.set_cons_succ, i64_w, i32_w]
            rfl
          refine take_ (i := 9) (N := some 35) (v := ?_) (a' := ?_) #[true, true, true, true, true, true, true, true, true, true, true, false, false, false] rfl rfl (take_ofW HT_.out HW_.out (by kernel_rfl)) (fun _ _ _ h => h) (Or.inl ⟨by rfl, ?_⟩) hHeld ?_ ?_
          rotate_left
          · rintro w' ⟨s0_, s1_, s2_, s3_, s4_, s5_, s6_, s7_, s8_, s9_⟩
            go_simp
            with_reducible rfl
          rotate_left
          · simp only [Act.put, List.setIfInBounds_toArray, List.set_cons_zero, List.set_cons_succ, i64_w, i32_w]
            rfl
          refine join_ (σ := Nat) 1 #[true, true, true, true, true, true, true, true, true, true, true, true, true, false] (fun s_ => [(37, .agg #[.int .i64 x1, .int .i64 x2]), (11, .pointer (some ⟨s_, 0, none⟩))]) (fun s_ w' => w'.cell? ⟨pB, 0, none⟩ = some (.int .i64 (i : Int)) ∧ w'.cell? ⟨pB, 1, none⟩ = some (.int .i64 (k : Int)) ∧ w'.cell? ⟨sb, so + i * 4, none⟩ = some (.int .i64 ((tk ss i).get 0)) ∧ w'.cell? ⟨sb, so + i * 4 + 1, none⟩ = some (.int .i64 ((tk ss i).get 1)) ∧ w'.cell? ⟨sb, so + i * 4 + 2, none⟩ = some (.int .i64 ((tk ss i).get 2)) ∧ w'.cell? ⟨sb, so + i * 4 + 3, none⟩ = some (.int .i64 ((tk ss i).get 3)) ∧ w'.cell? ⟨tb, tq + k * 4, none⟩ = some (.int .i64 ((tk ts k).get 0)) ∧ w'.cell? ⟨tb, tq + k * 4 + 1, none⟩ = some (.int .i64 ((tk ts k).get 1)) ∧ w'.cell? ⟨tb, tq + k * 4 + 2, none⟩ = some (.int .i64 ((tk ts k).get 2)) ∧ w'.cell? ⟨tb, tq + k * 4 + 3, none⟩ = some (.int .i64 ((tk ts k).get 3)) ∧ PJ wd w' s_) ?_ ?_
          rotate_left
          · intro hCont
            refine two_ (i := 11) (j := 12) (Ni := some 37) (Nj := some 11) #[true, true, true, true, true, true, true, true, true, true, true, true, false, false] #[true, true, true, true, true, true, true, true, true, true, true, false, true, false] rfl rfl rfl rfl (two_of HT_.out (by kernel_rfl)) (by decide) (by decide) (fun K hK => ?_) (fun K hK => ?_)
            · skip
              refine goes_ Try.func103 (by kernel_rfl) rfl #[.agg #[.int .i64 ((tk ss i).get 0), .int .i64 ((tk ss i).get 1), .int .i64 ((tk ss i).get 2), .int .i64 ((tk ss i).get 3)], .agg #[.int .i64 ((tk ts k).get 0), .int .i64 ((tk ts k).get 1), .int .i64 ((tk ts k).get 2), .int .i64 ((tk ts k).get 3)], .int .i64 sd] (by rfl) rfl rfl (by (try simp only [List.map_toArray, List.map_cons, List.map_nil]); first | done | rfl) ?_
              refine (impl_pairOf.calls _ _ _ _ _ _ _ _ sd x1 x2 wd HPF.out).mono ?_
              rintro e w3 ⟨rfl, hB3⟩
              refine ⟨_, rfl, ?_⟩
              refine hK.out _ _ ⟨cell_to hB3 hHeld.1, cell_to hB3 hHeld.2.1, cell_to hB3 hHeld.2.2.1, cell_to hB3 hHeld.2.2.2.1, cell_to hB3 hHeld.2.2.2.2.1, cell_to hB3 hHeld.2.2.2.2.2.1, cell_to hB3 hHeld.2.2.2.2.2.2.1, cell_to hB3 hHeld.2.2.2.2.2.2.2.1, cell_to hB3 hHeld.2.2.2.2.2.2.2.2.1, cell_to hB3 hHeld.2.2.2.2.2.2.2.2.2⟩ (fun hHeld => ?_)
              clear hK K
              refine norm_ (a' := ?_) ?_ ?_
              rotate_left
              · show Act.put _ (some 37) _ = _
                simp only [Act.put, List.setIfInBounds_toArray, List.set_cons_zero, List.set_cons_succ, i64_w, i32_w]
                rfl
              refine one_ (i := 12) (N := some 11) #[true, true, true, true, true, true, true, true, true, true, true, true, true, false] rfl rfl (one_of HT_.out (by kernel_rfl)) (by decide) (fun K hK => ?_)
              refine value_ (w1 := ?_) (v := ?_) (by rfl) rfl ?_ ?_
              rotate_left 2
              · go_simp
                constructor
                · rfl
                · rfl
              refine hK.out _ _ ⟨cell_al2 _ hHeld.1, cell_al2 _ hHeld.2.1, cell_al2 _ hHeld.2.2.1, cell_al2 _ hHeld.2.2.2.1, cell_al2 _ hHeld.2.2.2.2.1, cell_al2 _ hHeld.2.2.2.2.2.1, cell_al2 _ hHeld.2.2.2.2.2.2.1, cell_al2 _ hHeld.2.2.2.2.2.2.2.1, cell_al2 _ hHeld.2.2.2.2.2.2.2.2.1, cell_al2 _ hHeld.2.2.2.2.2.2.2.2.2⟩ (fun hHeld => ?_)
              clear hK K
              refine norm_ (a' := ?_) ?_ ?_
              rotate_left
              · show Act.put _ (some 11) _ = _
                simp only [Act.put, List.setIfInBounds_toArray, List.set_cons_zero, List.set_cons_succ, i64_w, i32_w]
                rfl
              exact norm_ (by first | (simp only [putAll, Act.put, List.setIfInBounds_toArray, List.set_cons_zero, List.set_cons_succ]; done) | (simp only [putAll, Act.put, List.setIfInBounds_toArray, List.set_cons_zero, List.set_cons_succ]; rfl)) (hCont (w3.heap.size) _ ⟨hHeld.1, hHeld.2.1, hHeld.2.2.1, hHeld.2.2.2.1, hHeld.2.2.2.2.1, hHeld.2.2.2.2.2.1, hHeld.2.2.2.2.2.2.1, hHeld.2.2.2.2.2.2.2.1, hHeld.2.2.2.2.2.2.2.2.1, hHeld.2.2.2.2.2.2.2.2.2, PJ.callFirst hB3⟩)
            · skip
              refine value_ (w1 := ?_) (v := ?_) (by rfl) rfl ?_ ?_
              rotate_left 2
              · go_simp
                constructor
                · rfl
                · rfl
              refine hK.out _ _ ⟨cell_al2 _ hHeld.1, cell_al2 _ hHeld.2.1, cell_al2 _ hHeld.2.2.1, cell_al2 _ hHeld.2.2.2.1, cell_al2 _ hHeld.2.2.2.2.1, cell_al2 _ hHeld.2.2.2.2.2.1, cell_al2 _ hHeld.2.2.2.2.2.2.1, cell_al2 _ hHeld.2.2.2.2.2.2.2.1, cell_al2 _ hHeld.2.2.2.2.2.2.2.2.1, cell_al2 _ hHeld.2.2.2.2.2.2.2.2.2⟩ (fun hHeld => ?_)
              clear hK K
              refine norm_ (a' := ?_) ?_ ?_
              rotate_left
              · show Act.put _ (some 11) _ = _
                simp only [Act.put, List.setIfInBounds_toArray, List.set_cons_zero, List.set_cons_succ, i64_w, i32_w]
                rfl
              refine one_ (i := 11) (N := some 37) #[true, true, true, true, true, true, true, true, true, true, true, true, true, false] rfl rfl (one_of HT_.out (by kernel_rfl)) (by decide) (fun K hK => ?_)
              refine goes_ Try.func103 (by kernel_rfl) rfl #[.agg #[.int .i64 ((tk ss i).get 0), .int .i64 ((tk ss i).get 1), .int .i64 ((tk ss i).get 2), .int .i64 ((tk ss i).get 3)], .agg #[.int .i64 ((tk ts k).get 0), .int .i64 ((tk ts k).get 1), .int .i64 ((tk ts k).get 2), .int .i64 ((tk ts k).get 3)], .int .i64 sd] (by rfl) rfl rfl (by (try simp only [List.map_toArray, List.map_cons, List.map_nil]); first | done | rfl) ?_
              refine (impl_pairOf.calls _ _ _ _ _ _ _ _ sd x1 x2 (wd.alloc (.cells #[.int .i64 0, .int .i64 0] 86)) HPF.out).mono ?_
              rintro e w3 ⟨rfl, hB3⟩
              refine ⟨_, rfl, ?_⟩
              refine hK.out _ _ ⟨cell_to hB3 hHeld.1, cell_to hB3 hHeld.2.1, cell_to hB3 hHeld.2.2.1, cell_to hB3 hHeld.2.2.2.1, cell_to hB3 hHeld.2.2.2.2.1, cell_to hB3 hHeld.2.2.2.2.2.1, cell_to hB3 hHeld.2.2.2.2.2.2.1, cell_to hB3 hHeld.2.2.2.2.2.2.2.1, cell_to hB3 hHeld.2.2.2.2.2.2.2.2.1, cell_to hB3 hHeld.2.2.2.2.2.2.2.2.2⟩ (fun hHeld => ?_)
              clear hK K
              refine norm_ (a' := ?_) ?_ ?_
              rotate_left
              · show Act.put _ (some 37) _ = _
                simp only [Act.put, List.setIfInBounds_toArray, List.set_cons_zero, List.set_cons_succ, i64_w, i32_w]
                rfl
              exact norm_ (by first | (simp only [putAll, Act.put, List.setIfInBounds_toArray, List.set_cons_zero, List.set_cons_succ]; done) | (simp only [putAll, Act.put, List.setIfInBounds_toArray, List.set_cons_zero, List.set_cons_succ]; rfl)) (hCont (wd.heap.size) _ ⟨hHeld.1, hHeld.2.1, hHeld.2.2.1, hHeld.2.2.2.1, hHeld.2.2.2.2.1, hHeld.2.2.2.2.2.1, hHeld.2.2.2.2.2.2.1, hHeld.2.2.2.2.2.2.2.1, hHeld.2.2.2.2.2.2.2.2.1, hHeld.2.2.2.2.2.2.2.2.2, PJ.allocFirst hB3⟩)
          rintro B4 w4 ⟨h0_, h1_, h2_, h3_, h4_, h5_, h6_, h7_, h8_, h9_, hPJ⟩
          have hHeld : w4.cell? ⟨pB, 0, none⟩ = some (.int .i64 (i : Int)) ∧ w4.cell? ⟨pB, 1, none⟩ = some (.int .i64 (k : Int)) ∧ w4.cell? ⟨sb, so + i * 4, none⟩ = some (.int .i64 ((tk ss i).get 0)) ∧ w4.cell? ⟨sb, so + i * 4 + 1, none⟩ = some (.int .i64 ((tk ss i).get 1)) ∧ w4.cell? ⟨sb, so + i * 4 + 2, none⟩ = some (.int .i64 ((tk ss i).get 2)) ∧ w4.cell? ⟨sb, so + i * 4 + 3, none⟩ = some (.int .i64 ((tk ss i).get 3)) ∧ w4.cell? ⟨tb, tq + k * 4, none⟩ = some (.int .i64 ((tk ts k).get 0)) ∧ w4.cell? ⟨tb, tq + k * 4 + 1, none⟩ = some (.int .i64 ((tk ts k).get 1)) ∧ w4.cell? ⟨tb, tq + k * 4 + 2, none⟩ = some (.int .i64 ((tk ts k).get 2)) ∧ w4.cell? ⟨tb, tq + k * 4 + 3, none⟩ = some (.int .i64 ((tk ts k).get 3)) := ⟨h0_, h1_, h2_, h3_, h4_, h5_, h6_, h7_, h8_, h9_⟩
          refine norm_ (a' := ?_) ?_ ?_
          rotate_left
          · simp only [putAll, Act.put, List.setIfInBounds_toArray, List.set_cons_zero, List.set_cons_succ]
            rfl
          refine last_ (i := 13) (N := none) #[true, true, true, true, true, true, true, true, true, true, true, true, true, true] rfl rfl (one_of HT_.out (by kernel_rfl)) (by decide) (fun K hK => ?_)
          have bS := hPJ.bk
          have y0 : w4.cell? ⟨B4, 0, none⟩ = some (.int .i64 0) := bS.cell rfl
          have y1 : w4.cell? ⟨B4, 1, none⟩ = some (.int .i64 0) := bS.cell rfl
          have f0 := bS.frozen 0; have f1 := bS.frozen 1
          refine skip_ (w1 := ?_) (by rfl) rfl ?_ ?_
          rotate_left
          · go_simp
            rfl
          have b9' : BK ((w4.setCell ⟨B4, 0, none⟩ (.int .i64 x1)).setCell ⟨B4, 1, none⟩ (.int .i64 x2)) B4 #[.int .i64 x1, .int .i64 x2] 86 := (bS.set 0 _).set 1 _
          have hB9 : Below wd.heap.size wd ((w4.setCell ⟨B4, 0, none⟩ (.int .i64 x1)).setCell ⟨B4, 1, none⟩ (.int .i64 x2)) := (hPJ.be.setCell hPJ.lo _).setCell hPJ.lo _
          refine hK.out _ _ ?_
          clear hK K
          refine done_ (done_of HT_.out (by kernel_rfl)) ?_
          have hlo4 : wd.heap.size ≤ B4 := hPJ.lo
          generalize (w4.setCell ⟨B4, 0, none⟩ (.int .i64 x1)).setCell ⟨B4, 1, none⟩ (.int .i64 x2) = w9 at b9' hB9 ⊢
          have hL9 := HL8.out.to hB9; have hp9 := HP8.out.below hB9 HP8.out.lt
          clear hHeld hPJ bS y0 y1 f0 f1 HT_ HW_ h0_ h1_ h2_ h3_ h4_ h5_ h6_ h7_ h8_ h9_
          have HL9 := Lib.hid hL9; have HP9 := Lib.hid hp9; have HB9 := Lib.hid b9'
          have g0 : w9.cell? ⟨B4, 0, none⟩ = some (.int .i64 x1) := b9'.cell rfl
          have g1 : w9.cell? ⟨B4, 1, none⟩ = some (.int .i64 x2) := b9'.cell rfl
          have g2 := b9'.lt
          have hlook := hL9.mp.look (x1, x2) HWX.out
          clear hL9 hp9 b9' hB9 hlo4
          by_cases hmem : (x1, x2) ∈ nubP (metTo ss ts L q s)
          · have e9 : inP (nubP (metTo ss ts L q s)) (x1, x2) = true := by simp [inP, hmem]
            rw [e9] at hlook
            have HE := Lib.hid (show nubP (metTo ss ts L q (s + 1)) = nubP (metTo ss ts L q s) by rw [HSTEP.out, nubP_snoc, if_pos hmem])
            have hlook' : (Instr.lookup 97 (.map (some mB)) (.agg #[.int .i64 x1, .int .i64 x2]) false).run Try.prog w9 = .ok (.bool true) w9 := hlook
            clear hmem e9 hlook
            go_wp2_with fail
            go_roundw
            case rel => exact ⟨s + 1, nn', hls, by omega, by go_num, by rw [HE.out]; exact HL9.out, HP9.out⟩
            case measure => simp [intOf]; omega
          · have e9 : inP (nubP (metTo ss ts L q s)) (x1, x2) = false := by simp [inP, hmem]
            rw [e9] at hlook
            have HE := Lib.hid (show nubP (metTo ss ts L q (s + 1)) = nubP (metTo ss ts L q s) ++ [(x1, x2)] by rw [HSTEP.out, nubP_snoc, if_neg hmem])
            have hlook' : (Instr.lookup 97 (.map (some mB)) (.agg #[.int .i64 x1, .int .i64 x2]) false).run Try.prog w9 = .ok (.bool false) w9 := hlook
            have HNL := Lib.hid (show (nubP (metTo ss ts L q s)).length ≤ 600 by
              have h1 := nubP_len (metTo ss ts L q s)
              have h2 := metTo_len ss ts L q s hs
              omega)
            clear hmem e9 hlook
            go_upto_region 11 with (first
              | (at_mapUpdate; refine wp_putP rfl _ _ _ rfl (x1, x2) rfl rfl rfl HL9.out.mp (by omega) HWX.out ?_; intro wu hmu hgu; have HLU := Lib.hid (HL9.out.put hmu hgu HGW.out.1); have bu := HB9.out.grown hgu (fun e_ => HL9.out.mp.not_cells _ _ (by have e2_ := Option.some.inj e_; rw [← e2_]; exact HB9.out)); have pu := HP9.out.grown hgu (fun e_ => HL9.out.mp.not_cells _ _ (by have e2_ := Option.some.inj e_; rw [← e2_]; exact HP9.out)); have HPU := Lib.hid pu; have u0 : wu.cell? ⟨B4, 0, none⟩ = some (.int .i64 x1) := bu.cell rfl; have u1 : wu.cell? ⟨B4, 1, none⟩ = some (.int .i64 x2) := bu.cell rfl; have u2 := bu.lt; clear hmu hgu bu pu hlook' g0 g1 g2)
              | fail)
            go_wp2_with (at_builtin; refine app_pair w.heap.size rfl (.tmp 44) (.tmp 46) 84 rfl Try.underlying84 infoP _ (nubP (metTo ss ts L q s)) (x1, x2) rfl (by simp) rfl HLU.out.op HLU.out.be.size (by have := HNL.out; omega) ?_; intro v10 w10 hO10 hG10 hat10; have HLX := Lib.hid (HLU.out.app hO10 (by simp) hG10 hat10); have HPX := Lib.hid (HPU.out.grown hG10 (fun e_ => by
                  obtain ⟨C_, hC_⟩ := HLU.out.op.typed e_.symm
                  exact absurd (bk_type HPU.out hC_) (by decide))); clear hO10 hG10 hat10)
            go_roundw
            case rel => exact ⟨s + 1, nn' + 1, hls, by omega, by go_num, by
              rw [HE.out]
              exact HLX.out.mask fun x => by simp [inP, Bool.or_comm, or_comm], HPX.out⟩
            case measure => simp [intOf]; omega
        · have hs2 : s = 2 := by omega
          have s1 : ¬ (s : Int) < 2 := by omega
          have HN := Lib.hid (show nubP (metTo ss ts L q s) = nubP (metTo ss ts L (q + 1) 0) by rw [hs2, metTo_next HQ.out])
          go_wp2_with fail
          go_roundw
          case rel => exact ⟨q + 1, nn', hlt, by omega, by go_num, by rw [← HN.out]; exact HL.out⟩
          case measure => simp [intOf]; omega
    · have hqm : q = m := by omega
      have i1 : ¬ (q : Int) < m := by omega
      have hP := HLO.out
      have e : metTo ss ts L q 0 = metPairs ss ts := by rw [hqm, HM.out, metTo_all, HMET.out]
      rw [e] at hP
      have hlen : (nubP (metPairs ss ts)).length ≤ 600 := by
        have h1 := nubP_len (metTo ss ts L q 0)
        have h2 := metTo_len ss ts L q 0 (by omega)
        rw [e] at h1 h2
        omega
      obtain ⟨xs, hxs⟩ : ∃ z, z = nubP (metPairs ss ts) := ⟨_, rfl⟩
      rw [← hxs] at hP hlen
      have hop := hP.op
      have hbe := hP.be
      obtain ⟨g9, c9, e9⟩ : ∃ g9 c9, u6 = .slice (some ⟨g9, 0, none⟩) xs.length c9 := by
        rcases hop.2 with ⟨hv, -⟩ | ⟨g9, cap, cur, hv, -⟩
        · exact absurd (by rw [hv]; rfl) hP.some0
        · exact ⟨g9, cap, hv⟩
      subst e9
      obtain ⟨nx, hnx⟩ : ∃ z, z = xs.length := ⟨_, rfl⟩
      rw [← hnx] at hop hlen
      rw [← hnx]
      have HOP := Lib.hid hop; have HBE := Lib.hid hbe; have HNX := Lib.hid hnx; have HXS := Lib.hid hxs
      clear HLO hP hop hbe hnx hxs e
      go_wp2_with fail
      refine (SortFuncP_any g9 nx c9 w.heap.size xs wo HOP.out HNX.out (by omega)).mono ?_
      rintro e w8 ⟨rfl, hO8, hK8⟩
      have HO8 := Lib.hid hO8
      have HB8 := Lib.hid (below_only HBE.out hK8 (HOP.out.lt g9 rfl).1)
      clear hO8 hK8
      go_wp2_with fail
      go_ret
      rw [← HXS.out]
      exact ⟨_, rfl, HO8.out, HB8.out⟩
end Go.Proofs.Ytnjmgmdpkogocaa

/-
  Contract: impl.PairsOfStack: rows that are arrays of the loop's own.
-/
namespace Go.Proofs.Ytnjmgmdpkogocaa
open Go Go.RowKit Go.Proofs Go.Proofs.YtnjmgmdpkogocaaW.PrintWords Go.Proofs.YtnjmgmdpkogocaaW.PrintLast Go.Proofs.YtnjmgmdpkogocaaW.PrintMore Go.Proofs.Ytnjmgmdpkogocaa.Q
set_option linter.unusedVariables false
set_option linter.unusedSimpArgs false

def rowsP (ps : List (Int × Int)) : List (List Int) := ps.map fun p => [p.1, p.2]
def hdP (b : Nat → Nat) (i : Nat) : Value := .slice (some ⟨b i, 0, none⟩) 2 2
def hdsP (b : Nat → Nat) (n : Nat) : List Value := (List.range n).map (hdP b)
theorem hdsP_congr {b b' : Nat → Nat} {n : Nat} (h : ∀ i, i < n → b i = b' i) : hdsP b n = hdsP b' n := by
  refine List.map_congr_left fun i hi => ?_
  rw [List.mem_range] at hi
  rw [hdP, hdP, h i hi]
theorem hdsP_succ (b : Nat → Nat) (n : Nat) : hdsP b (n + 1) = hdsP b n ++ [hdP b n] := by simp [hdsP, List.range_succ]
theorem infoS : (Try.prog.info? 48).map (fun i => (i.zero, i.size, i.bytes)) = some (some (.slice none 0 0), 1, 24) := by kernel_rfl
/-- what stands while the rows are told -/
structure AW (w WF wr : World) (g0 : Nat) (ps : List (Int × Int)) (v : Value) (b : Nat → Nat) : Prop where
  sz : WF.heap.size ≤ wr.heap.size
  bl : ∀ k, k < WF.heap.size → k ≠ g0 → wr.heap[k]? = WF.heap[k]?
  own0 : ∀ k, v.ownBlock = some k → k = g0 ∨ WF.heap.size ≤ k
  be : Below w.heap.size w wr
  own : wr.ownsRow w.heap.size 48 1 v ps.length (hdsP b ps.length)
  row : ∀ i, i < ps.length → WF.heap.size ≤ b i ∧ BK wr (b i) #[.int .i64 (pk ps i).1, .int .i64 (pk ps i).2] 86
  inc : ∀ i j, i < j → j < ps.length → b i < b j
theorem own_typed {W : World} {base n size : Nat} {E : TypeId} {v : Value} {cs : List Value} (h : W.ownsRow base E size v n cs) {b : Nat} (hb : v.ownBlock = some b) : ∃ C, BK W b C E := by
  rcases h.2 with ⟨hv, -⟩ | ⟨g, cap, cur, hv, hg, hh, -⟩
  · rw [hv] at hb; simp [Value.ownBlock] at hb
  · rw [hv] at hb
    have : g = b := by simpa [Value.ownBlock] using hb
    subst this
    exact ⟨cur, hh⟩
theorem AW.app {w WF wr W w1 : World} {g0 : Nat} {ps : List (Int × Int)} {v v1 : Value} {b : Nat → Nat} {p : Int × Int} (h : AW w WF wr g0 ps v b) (b8 : BK W wr.heap.size #[.int .i64 p.1, .int .i64 p.2] 86) (hb : Below wr.heap.size wr W)
    (hO : w1.ownsRow w.heap.size 48 1 v1 (ps.length + 1) (hdsP b ps.length ++ [.slice (some ⟨wr.heap.size, 0, none⟩) 2 2])) (hG : W.grownBy w1 v.ownBlock) (hat : v1.ownBlock = v.ownBlock ∨ ∃ k, v1.ownBlock = some k ∧ W.heap.size ≤ k) :
    AW w WF w1 g0 (ps ++ [p]) v1 (fun i => if i < ps.length then b i else wr.heap.size) := by
  have hvt : ∀ k, v.ownBlock = some k → ∃ C, BK W k C 48 := fun k hk => by
    obtain ⟨C, hC⟩ := own_typed h.own hk
    exact ⟨C, hC.below hb hC.lt⟩
  have hl : (ps ++ [p]).length = ps.length + 1 := by simp
  have keep : ∀ k C, BK W k C 86 → BK w1 k C 86 := fun k C hC => hC.grown hG (fun e => by
    obtain ⟨C', hC'⟩ := hvt k e.symm
    exact absurd (bk_type hC hC') (by decide))
  refine ⟨Nat.le_trans h.sz (Nat.le_trans hb.size hG.size), fun k h1 h2 => ?_, fun k hk => ?_, grown_below (below_to h.be hb) hG (fun k hk => (h.own.lt k hk).1), ?_, fun i hi => ?_, fun i j hij hj => ?_⟩
  · have h3 : k < wr.heap.size := Nat.lt_of_lt_of_le h1 h.sz
    refine (hG.block k (Nat.lt_of_lt_of_le h3 hb.size) (fun e => ?_)).trans ((hb.block k h3).trans (h.bl k h1 h2))
    rcases h.own0 k e.symm with e2 | e2
    · exact h2 e2
    · omega
  · rcases hat with e | ⟨z, e, hz⟩
    · exact h.own0 k (by rw [← e]; exact hk)
    · rw [e] at hk
      injection hk with hk
      right
      have := h.sz; have := hb.size
      omega
  · have e : hdsP (fun i => if i < ps.length then b i else wr.heap.size) (ps.length + 1) = hdsP b ps.length ++ [.slice (some ⟨wr.heap.size, 0, none⟩) 2 2] := by
      rw [hdsP_succ]
      congr 1
      · exact hdsP_congr fun i hi => if_pos hi
      · simp [hdP]
    rw [hl, e]; exact hO
  · rw [hl] at hi
    by_cases hlt : i < ps.length
    · simp only [if_pos hlt]
      have e : pk (ps ++ [p]) i = pk ps i := by simp [pk, List.getD_eq_getElem?_getD, List.getElem?_append_left hlt]
      rw [e]
      obtain ⟨h1, h2⟩ := h.row i hlt
      exact ⟨h1, keep _ _ (h2.below hb h2.lt)⟩
    · simp only [if_neg hlt]
      have e : pk (ps ++ [p]) i = p := by
        have : i = ps.length := by omega
        subst this
        simp [pk, List.getD_eq_getElem?_getD]
      rw [e]
      exact ⟨h.sz, keep _ _ b8⟩
  · rw [hl] at hj
    have hi : i < ps.length := by omega
    simp only [if_pos hi]
    by_cases hlt : j < ps.length
    · simp only [if_pos hlt]; exact h.inc i j hij hlt
    · simp only [if_neg hlt]; exact (h.row i hi).2.lt
theorem AW.owe {w WF wr : World} {g0 : Nat} {ps : List (Int × Int)} {v : Value} {b : Nat → Nat} (h : AW w WF wr g0 ps v b) (hle : w.heap.size ≤ WF.heap.size) : OWE 86 wr w.heap.size wr.heap.size v (rowsP ps) (fun i => icells (rowAt (rowsP ps) i)) := by
  have hl : (rowsP ps).length = ps.length := by simp [rowsP]
  have hr : ∀ i, i < ps.length → rowAt (rowsP ps) i = [(pk ps i).1, (pk ps i).2] := fun i hi => by
    rw [rowAt_at (by rw [hl]; exact hi)]
    simp only [rowsP, List.getElem_map]
    rw [pk_get hi]
  rcases h.own.2 with ⟨hv, hn⟩ | ⟨g, cap, cur, hv, hg, hb, hnc, hm, hs, ht⟩
  · refine ⟨⟨none, 0, 0, fun _ => default, by rw [hl, hv, hn], by omega, fun h0 => by omega, ⟨fun i hi => by omega, fun i hi => by omega, fun i j hi => by omega, fun i hi => by omega⟩⟩, Nat.le_refl _⟩
  · have hgv : v.ownBlock = some g := by rw [hv]; rfl
    refine ⟨⟨_, cap, g, hdP b, by rw [hl]; exact hv, by rw [hl]; exact ⟨hnc, by simpa [maxLen] using hm⟩, fun _ => ⟨rfl, hg, (h.own.lt g hgv).2⟩, ⟨fun i hi => ?_, fun i hi => ?_, fun i j hi hj hne k h1 h2 => ?_, fun i hi e => ?_⟩⟩, Nat.le_refl _⟩
    · rw [hl] at hi
      have h2 := h.own
      rw [hv] at h2
      exact own_cell h2 (by simp [hdsP, hi])
    · rw [hl] at hi
      obtain ⟨h1, h2⟩ := h.row i hi
      have e2 : rowLen (rowsP ps) i = 2 := by rw [rowLen, hr i hi]; rfl
      rw [e2, hr i hi]
      refine ⟨⟨rfl, .inr ⟨b i, 2, _, rfl, Nat.le_trans hle h1, h2, Nat.le_refl _, by decide, rfl, rfl⟩⟩, fun k hk => ?_, Nat.le_refl _⟩
      have : b i = k := by simpa [hdP, Value.ownBlock] using hk
      rw [← this]; exact h2.lt
    · rw [hl] at hi hj
      have e1 : b i = k := by simpa [hdP, Value.ownBlock] using h1
      have e2 : b j = k := by simpa [hdP, Value.ownBlock] using h2
      rcases Nat.lt_or_ge i j with h3 | h3
      · have := h.inc i j h3 hj; omega
      · have := h.inc j i (by omega) hi; omega
    · rw [hl] at hi
      have e1 : b i = g := by simpa [hdP, Value.ownBlock] using e
      have h2 := (h.row i hi).2
      rw [e1] at h2
      obtain ⟨C, hC⟩ := own_typed h.own hgv
      exact absurd (bk_type h2 hC) (by decide)
/-- what PairsOfStack returns -/
def stackR (C : Int) (ss : List T4) (D : Int) (ts : List T4) : List (List Int) × Int := if (isS C ss && isS D ts) = true then (rowsP (msortP (nubP (metPairs ss ts))), 0) else ([], 1)
theorem wf_small {x : Int} (h0 : 0 ≤ x) (h1 : x < 16) : (Lit.int .i64 x).wf = true := by
  have m1 : IntKind.i64.min = -9223372036854775808 := by decide
  have m2 : IntKind.i64.max = 9223372036854775807 := by decide
  unfold Lit.wf
  simp only [m1, m2, Bool.and_eq_true, decide_eq_true_eq]
  omega
theorem col_small {C : Int} {ts : List T4} (h : isS C ts = true) : ∀ t ∈ ts, ∀ j, j < 4 → 0 ≤ t.get j ∧ t.get j < 16 := by
  obtain ⟨h1, -, h3⟩ := isS_iff.1 h
  intro t ht j hj
  obtain ⟨i, hi, rfl⟩ := List.mem_iff_getElem.1 ht
  have := (h3 i hi).1
  rw [← tk_get hi] at this
  simp only [tileB, Bool.and_eq_true, inB_iff] at this
  match j, hj with
  | 0, _ => omega
  | 1, _ => omega
  | 2, _ => omega
  | 3, _ => omega
set_option maxHeartbeats 4000000 in
set_option maxRecDepth 100000 in
theorem implStack_any (C : Int) (A : Option Addr) (ts : List T4) (n c : Nat) (D : Int) (A' : Option Addr) (us : List T4) (m c' : Nat) (w : World) (hn : n = ts.length) (hA : RT w A ts) (hnc : n ≤ c) (hl : n ≤ 35184372088832) (hm : m = us.length) (hA' : RT w A' us) (hmc : m ≤ c') (hl' : m ≤ 35184372088832) :
    Calls Try.prog 45 #[.agg #[.int .i64 C, .slice A n c], .agg #[.int .i64 D, .slice A' m c']] w fun e w' => ∃ v xs code, stackR C ts D us = (xs, code) ∧ e = .returned (.tuple #[v, .int .i64 code]) ∧ OWE 86 w' w.heap.size w'.heap.size v xs (fun i => icells (rowAt xs i)) ∧ Below w.heap.size w w' := by
  have HA := Lib.hid hA; have HN := Lib.hid hn; have HA' := Lib.hid hA'; have HM := Lib.hid hm; clear hA hn hA' hm
  cases h12 : (isS C ts && isS D us)
  · have H12 := Lib.hid h12; clear h12
    go_enter Try.func45, Try.ntmps45
    go_wp2_with fail
    refine namec3 ?_
    intro W1 b1 b2 b3 hz hb0
    refine (areSets_any _ C D A A' ts us n m c c' _ W1 HN.out HM.out b3 (HA.out.below hb0) (HA'.out.below hb0) hl hl').mono ?_
    rintro e w1 ⟨rfl, hB1⟩
    rw [H12.out]
    have HB := Lib.hid (below_to hb0 hB1); clear hb0 hB1 hz b1 b2 b3
    go_wp2_with fail
    go_ret2
    refine ⟨_, _, _, show stackR C ts D us = ([], 1) by unfold stackR; rw [H12.out]; rfl, rfl, ⟨⟨none, 0, 0, fun _ => default, rfl, by simp, fun h0 => absurd h0 (by simp), ⟨fun i hi => absurd hi (by simp), fun i hi => absurd hi (by simp), fun i j hi => absurd hi (by simp), fun i hi => absurd hi (by simp)⟩⟩, Nat.le_refl _⟩, HB.out⟩
  · have H12 := Lib.hid h12
    have H1 : Hid (isS C ts = true) := Lib.hid (by simp at h12; exact h12.1)
    have H2 : Hid (isS D us = true) := Lib.hid (by simp at h12; exact h12.2)
    clear h12
    have h16 := (isS_iff.1 H1.out).2.1
    have h16' := (isS_iff.1 H2.out).2.1
    have HSM := Lib.hid (show ∀ t, t ∈ ts ∨ t ∈ us → ∀ j, j < 4 → (Lit.int .i64 (t.get j)).wf = true from fun t ht j hj => by
      rcases ht with ht | ht
      · obtain ⟨h1, h2⟩ := col_small H1.out t ht j hj; exact wf_small h1 h2
      · obtain ⟨h1, h2⟩ := col_small H2.out t ht j hj; exact wf_small h1 h2)
    have HS := Lib.hid (show stackR C ts D us = (rowsP (msortP (nubP (metPairs ts us))), 0) by unfold stackR; rw [H12.out]; rfl)
    have n16 : n ≤ 16 := by rw [HN.out]; exact h16
    have m16 : m ≤ 16 := by rw [HM.out]; exact h16'
    clear h16 h16'
    go_enter Try.func45, Try.ntmps45
    go_wp2_with fail
    refine namec3 ?_
    intro W1 b1 b2 b3 hz hb0
    refine (areSets_any _ C D A A' ts us n m c c' _ W1 HN.out HM.out b3 (HA.out.below hb0) (HA'.out.below hb0) hl hl').mono ?_
    rintro e w1 ⟨rfl, hB1⟩
    rw [H12.out]
    have b1w := b1.below hB1 b1.lt
    have b2w := b2.below hB1 b2.lt
    have HB2 := Lib.hid (below_to hb0 hB1); clear hb0 hB1 hz b1 b2 b3
    go_upto_region 4 with fail
    refine nameV2 ?_
    intro W3 b3 hB3
    obtain ⟨g0, hg0⟩ : ∃ q, q = w1.heap.size := ⟨_, rfl⟩
    rw [← hg0] at b3 ⊢
    have b1x := b1w.below hB3 b1w.lt
    have b2x := b2w.below hB3 b2w.lt
    have HB3 := Lib.hid (below_to HB2.out hB3); have HBE := Lib.hid b3
    have HG0 := Lib.hid (show w.heap.size ≤ g0 by rw [hg0]; exact HB2.out.size)
    have a1 : W3.cell? ⟨w.heap.size, 1, none⟩ = some (.slice A n c) := b1x.cell rfl
    have a2 : W3.cell? ⟨w.heap.size + 1, 1, none⟩ = some (.slice A' m c') := b2x.cell rfl
    have l1 := b1x.lt; have l2 := b2x.lt
    clear b1w b2w b1x b2x hB3 b3 hg0
    go_wp2_with fail
    refine (pairs_any A ts n c A' us m c' W3 HN.out (HA.out.below HB3.out) hnc HM.out (HA'.out.below HB3.out) hmc ⟨n16, m16⟩ HSM.out).mono ?_
    rintro e W4 ⟨vP, rfl, hP, hb4⟩
    have hlen : (msortP (nubP (metPairs ts us))).length ≤ 1000000 := by
      rw [msortP_len]
      have h1 := nubP_len (metPairs ts us)
      have h2 : (metPairs ts us).length ≤ 600 := by
        have h3 := posL_met (ts.map toS) (us.map toS)
        rw [map_toTS, map_toTS] at h3
        have h4 := metTo_len ts us (posL (ts.map toS) (us.map toS)) (posL (ts.map toS) (us.map toS)).length 0 (by omega)
        rw [metTo_all, h3] at h4
        have h5 := posI_len (ts.map toS) (us.map toS) (ts.map toS).length 0
        rw [List.length_map, List.length_map, ← HN.out, ← HM.out] at h5
        have h6 : n * m ≤ 16 * 16 := Nat.mul_le_mul n16 m16
        unfold posL at h4
        rw [List.length_map, ← HN.out] at h4
        omega
      omega
    generalize msortP (nubP (metPairs ts us)) = ps at hP hlen HS ⊢
    obtain ⟨np, hnp⟩ : ∃ q, q = ps.length := ⟨_, rfl⟩
    have HNP := Lib.hid hnp
    have hform : ∃ AP cP, vP = .slice AP np cP ∧ ∀ k, k < np → ∃ q, AP = some ⟨q, 0, none⟩ ∧ W3.heap.size ≤ q ∧ q < W4.heap.size ∧ W4.cell? ⟨q, k * 2, none⟩ = some (.int .i64 (pk ps k).1) ∧ W4.cell? ⟨q, k * 2 + 1, none⟩ = some (.int .i64 (pk ps k).2) := by
      rcases hP.2 with ⟨hv, hn⟩ | ⟨q, cap, cur, hv, hq, hb, r⟩
      · exact ⟨none, 0, by rw [hv, hnp, hn], fun k hk => by omega⟩
      · refine ⟨some ⟨q, 0, none⟩, cap, by rw [hv, hnp], fun k hk => ⟨q, rfl, hq, ?_, ?_, ?_⟩⟩
        · exact (hP.lt q (by rw [hv]; rfl)).2
        · have h2 := hP
          rw [hv] at h2
          exact own_cell h2 (pcells_at (by omega)).1
        · have h2 := hP
          rw [hv] at h2
          exact own_cell h2 (pcells_at (by omega)).2
    obtain ⟨AP, cP, rfl, hcell⟩ := hform
    have HC := Lib.hid hcell
    have HB4 := Lib.hid (below_to HB3.out hb4)
    have HAW := Lib.hid (show AW w W4 W4 g0 [] (.slice (some ⟨g0, 0, none⟩) 0 0) (fun _ => 0) from
      ⟨Nat.le_refl _, fun _ _ _ => rfl, fun k hk => .inl (Option.some.inj hk).symm, HB4.out, ⟨rfl, .inr ⟨g0, 0, #[], rfl, HG0.out, HBE.out.below hb4 HBE.out.lt, Nat.le_refl _, by decide, rfl, rfl⟩⟩, fun i hi => absurd hi (by simp), fun i j _ hj => absurd hj (by simp)⟩)
    have HGL := Lib.hid (show g0 < W3.heap.size from HBE.out.lt)
    rw [← hnp] at hlen
    clear hP hcell hb4 hnp a1 a2 l1 l2
    go_wp2_with fail
    go_loopw [6, 21] (fun v6 v21 wr => ∃ (k : Nat) (b : Nat → Nat), k ≤ np ∧ v21 = .int .i64 k ∧ AW w W4 wr g0 (ps.take k) v6 b) (fun _ v21 _ => np - (intOf v21).toNat)
    case atStart => exact ⟨0, _, Nat.zero_le _, rfl, HAW.out⟩
    case round =>
      obtain ⟨k, b, hk, rfl, hW⟩ := hrel
      have HW := Lib.hid hW; clear hW
      by_cases hlt : k < np
      · have k1 : (k : Int) < np := by omega
        have HK := Lib.hid (show k < ps.length by rw [← HNP.out]; exact hlt)
        obtain ⟨q, hq, q1, q2, c0, c1⟩ := HC.out k hlt
        subst hq
        have hbk : wr.heap[q]? = W4.heap[q]? := HW.out.bl q q2 (by have := HGL.out; omega)
        have d0 : wr.cell? ⟨q, k * 2, none⟩ = some (.int .i64 (pk ps k).1) := (World.cell?_of_block (w := W4) (a := ⟨q, k * 2, none⟩) hbk).trans c0
        have d1 : wr.cell? ⟨q, k * 2 + 1, none⟩ = some (.int .i64 (pk ps k).2) := (World.cell?_of_block (w := W4) (a := ⟨q, k * 2 + 1, none⟩) hbk).trans c1
        have d2 : q < wr.heap.size := Nat.lt_of_lt_of_le q2 HW.out.sz
        have htk : (ps.take k).length = k := by rw [List.length_take, Nat.min_eq_left (by have := HK.out; omega)]
        have HTK := Lib.hid htk
        clear hbk c0 c1 q1 q2 htk
        go_upto_region 7 with fail
        refine nameV2 ?_
        intro W5 b5 hb5
        have HB5 := Lib.hid b5; have HBL := Lib.hid hb5
        have hown5 : W5.ownsRow w.heap.size 48 1 u6 (ps.take k).length (hdsP b (ps.take k).length) := own_to HW.out.own hb5
        have HO5 := Lib.hid hown5
        have s5 : wr.heap.size < W5.heap.size := b5.lt
        have hle5 : w.heap.size ≤ W5.heap.size := Nat.le_trans HW.out.be.size hb5.size
        clear b5 hb5 hown5 d0 d1 d2
        go_wp2_with (at_builtin; (refine app_cells w.heap.size rfl (.tmp 25) (.tmp 27) 54 48 (.slice none 0 0) 1 24 rfl Try.underlying54 infoS rfl (by decide) (by decide) _ (ps.take k).length (hdsP b (ps.take k).length) #[.slice (some ⟨wr.heap.size, 0, none⟩) 2 2] rfl rfl rfl (by simp [Value.oneCell']) HO5.out hle5 (by have := HTK.out; omega) ?_); intro v6 w6 hO6 hG6 hat6; have HW6 := Lib.hid (AW.app (p := pk ps k) HW.out HB5.out HBL.out hO6 hG6 hat6); clear hO6 hG6 hat6)
        go_roundw
        case rel => exact ⟨k + 1, _, hlt, by go_num, by rw [List.take_succ_eq_append_getElem HK.out, pk_get HK.out]; exact HW6.out⟩
        case measure => simp [intOf]; omega
      · have hkn : k = np := by omega
        have k1 : ¬ (k : Int) < np := by omega
        have h9 := HW.out.owe HB4.out.size
        have hb9 := HW.out.be
        rw [List.take_of_length_le (by rw [← HNP.out]; omega)] at h9
        have H9 := Lib.hid h9; have HB9 := Lib.hid hb9
        clear h9 hb9
        go_wp2_with fail
        go_ret2
        exact ⟨_, _, _, HS.out, rfl, H9.out, HB9.out⟩
end Go.Proofs.Ytnjmgmdpkogocaa

/-
  The walk of the law FnExactPairsOfStack.
-/
namespace Go.Proofs.Ytnjmgmdpkogocaa
open Go Go.RowKit Go.Proofs Go.Proofs.YtnjmgmdpkogocaaW.PrintWords Go.Proofs.YtnjmgmdpkogocaaW.PrintMore Go.Proofs.Ytnjmgmdpkogocaa.Q
set_option linter.unusedVariables false
set_option linter.unusedSimpArgs false

theorem rd_at9 (cs : List Int) (i : Nat) (h : i < cs.length) : rd cs (i : Int) = cs[i] := by
  simp [rd, List.getD_eq_getElem?_getD, List.getElem?_eq_getElem h]
def rowC (c : Int) : List Int := [c / 16, c % 16]
theorem spec_l0_ev (cs : List Int) (hc : ∀ c ∈ cs, 0 ≤ c ∧ c < 256) (hl : cs.length ≤ 1000000) : ∀ d i (out : List (List Int)), i + d = cs.length → out.length = i →
    Ev (fun k => spec_PairsOfStack.l0 k cs out (i : Int)) (out ++ (cs.drop i).map rowC, 0) := by
  intro d
  induction d with
  | zero =>
    intro i out hi ho
    have b1 : ¬ (i : Int) < (cs.length : Int) := by omega
    rw [List.drop_of_length_le (by omega)]
    refine Ev.step (f := fun _ => some (out, 0)) (fun k => ?_) (by simpa using Ev.now (out, (0 : Int)))
    rw [spec_PairsOfStack.l0, if_neg b1]
  | succ d ih =>
    intro i out hi ho
    have b1 : (i : Int) < (cs.length : Int) := by omega
    have b2 : (0 : Int) ≤ (i : Int) := Int.natCast_nonneg i
    have b3 : out.length < 5864062014805 := by omega
    have hlt : i < cs.length := by omega
    have hm := hc _ (List.getElem_mem hlt)
    have e1 : wrap64 (Int.tdiv cs[i] 16) = cs[i] / 16 := by
      rw [Int.tdiv_eq_ediv_of_nonneg hm.1, IntWalk.wrap64_in _ (by omega)]
    have e2 : Int.tmod cs[i] 16 = cs[i] % 16 := Int.tmod_eq_emod_of_nonneg hm.1
    have hd : cs.drop i = cs[i] :: cs.drop (i + 1) := List.drop_eq_getElem_cons hlt
    have hi9 : i < 1000000000 := by omega
    rw [hd, List.map_cons, ← List.singleton_append, ← List.append_assoc]
    refine Ev.step (fun k => ?_) (ih (i + 1) (out ++ [rowC cs[i]]) (by omega) (by simp; omega))
    rw [spec_PairsOfStack.l0, if_pos b1, if_pos b2, if_pos b3, rd_at9 cs i hlt, e1, e2, one_wrap i hi9]
    rfl
theorem met_small {C D : Int} {ss ts : List T4} (h1 : isS C ss = true) (h2 : isS D ts = true) : ∀ p ∈ metPairs ss ts, small p := by
  intro p hp
  simp only [metPairs, List.mem_flatMap] at hp
  obtain ⟨s, hs, t, ht, hp⟩ := hp
  split at hp
  · simp only [List.mem_cons, List.not_mem_nil, or_false] at hp
    rcases hp with rfl | rfl
    · exact ⟨col_small h1 s hs 0 (by omega), col_small h2 t ht 0 (by omega)⟩
    · exact ⟨col_small h1 s hs 2 (by omega), col_small h2 t ht 2 (by omega)⟩
  · simp at hp
theorem enc_small {p : Int × Int} (h : small p) : 0 ≤ enc p ∧ enc p < 256 := by
  obtain ⟨⟨a, b⟩, c, d⟩ := h
  unfold enc; omega
theorem met_len {C D : Int} {ss ts : List T4} (h1 : isS C ss = true) (h2 : isS D ts = true) : (metPairs ss ts).length ≤ 600 := by
  have n16 := (isS_iff.1 h1).2.1; have m16 := (isS_iff.1 h2).2.1
  have h3 := posL_met (ss.map toS) (ts.map toS)
  rw [map_toTS, map_toTS] at h3
  have h4 := metTo_len ss ts (posL (ss.map toS) (ts.map toS)) (posL (ss.map toS) (ts.map toS)).length 0 (by omega)
  rw [metTo_all, h3] at h4
  have h5 := posI_len (ss.map toS) (ts.map toS) (ss.map toS).length 0
  rw [List.length_map, List.length_map] at h5
  have h6 : ss.length * ts.length ≤ 16 * 16 := Nat.mul_le_mul n16 m16
  unfold posL at h4
  rw [List.length_map] at h4
  omega
theorem low_of {C : Int} {l : List STile} (h : isS C (l.map toT) = true) : l.all low16 = true := by
  rw [List.all_eq_true]
  intro t ht
  have hm := col_small h (toT t) (List.mem_map_of_mem ht)
  have a0 := hm 0 (by omega); have a1 := hm 1 (by omega); have a2 := hm 2 (by omega); have a3 := hm 3 (by omega)
  simp only [low16, Bool.and_eq_true, decide_eq_true_eq]
  exact ⟨⟨⟨a0, a1⟩, a2⟩, a3⟩
theorem specStack_ev (C : Int) (l : List STile) (D : Int) (u : List STile) (hl : l.length ≤ 35184372088832) (hu : u.length ≤ 35184372088832) : Ev (fun k => spec_PairsOfStack.f k C l D u) (stackR C (l.map toT) D (u.map toT)) := by
  have i1 : inLim l.length = true := by simpa [inLim] using hl
  have i2 : inLim u.length = true := by simpa [inLim] using hu
  have hbad : Ev (fun k => spec_PairsOfStack.j0 k true C l D u) (([] : List (List Int)), (1 : Int)) := Ev.step (f := fun _ => some (([] : List (List Int)), (1 : Int))) (fun k => by rw [spec_PairsOfStack.j0, if_pos rfl]) (Ev.now _)
  cases h1 : isS C (l.map toT)
  · have e : stackR C (l.map toT) D (u.map toT) = ([], 1) := by unfold stackR; rw [h1]; rfl
    rw [e]
    exact Ev.congr (fun k => by rw [spec_PairsOfStack.f, spec_l01Is.f, if_pos i1, h1]; rfl) hbad
  · cases h2 : isS D (u.map toT)
    · have e : stackR C (l.map toT) D (u.map toT) = ([], 1) := by unfold stackR; rw [h1, h2]; rfl
      rw [e]
      exact Ev.congr (fun k => by rw [spec_PairsOfStack.f, spec_l01Is.f, if_pos i1, h1, spec_l01Is.f, if_pos i2, h2]; rfl) hbad
    · have e : stackR C (l.map toT) D (u.map toT) = ([] ++ (((sortI ((metPairs (l.map toT) (u.map toT)).map enc)).drop 0).map rowC), 0) := by
        unfold stackR
        rw [h1, h2, if_pos (show (true && true) = true from rfl), List.nil_append, List.drop_zero]
        congr 1
        exact (pairs_rows (L := msortP (nubP (metPairs (l.map toT) (u.map toT)))) (msortP_asc (nubP_nodup _)) (fun p => ((msortP_perm _).mem_iff).trans (nubP_mem _ p)) (met_small h1 h2)).symm
      have hok : spec_l04Pairs.ok l u = true := by
        have n1 := (isS_iff.1 h1).2.1; have n2 := (isS_iff.1 h2).2.1
        rw [List.length_map] at n1 n2
        simp only [spec_l04Pairs.ok, Bool.and_eq_true, decide_eq_true_eq]
        exact ⟨⟨⟨n1, n2⟩, low_of h1⟩, low_of h2⟩
      have hlen : (sortI ((metPairs (l.map toT) (u.map toT)).map enc)).length ≤ 1000000 := by
        have a1 := sortI_len ((metPairs (l.map toT) (u.map toT)).map enc)
        rw [List.length_map] at a1
        have a2 := met_len h1 h2
        omega
      have hsm : ∀ c ∈ sortI ((metPairs (l.map toT) (u.map toT)).map enc), 0 ≤ c ∧ c < 256 := by
        intro c hc
        rw [sortI_mem, List.mem_map] at hc
        obtain ⟨p, hp, rfl⟩ := hc
        exact enc_small (met_small h1 h2 p hp)
      rw [e]
      have hgo := spec_l0_ev _ hsm hlen (sortI ((metPairs (l.map toT) (u.map toT)).map enc)).length 0 [] (by omega) rfl
      refine Ev.congr (f := fun k => spec_PairsOfStack.j0 k false C l D u) (fun k => by rw [spec_PairsOfStack.f, spec_l01Is.f, if_pos i1, h1, spec_l01Is.f, if_pos i2, h2]; rfl) (Ev.step (fun k => ?_) hgo)
      rw [spec_PairsOfStack.j0, if_neg (by decide), spec_l04Pairs.f, if_pos hok]
      rfl
theorem specPairsOfStack_any (C : Int) (A : Option Addr) (ts : List T4) (n c : Nat) (D : Int) (A' : Option Addr) (us : List T4) (n' c' : Nat) (w : World) (hn : n = ts.length) (hA : RT w A ts) (hnc : n ≤ c) (hl : n ≤ 35184372088832) (hn' : n' = us.length) (hA' : RT w A' us) (hnc' : n' ≤ c') (hl' : n' ≤ 35184372088832) :
    Calls Try.prog 44 #[.agg #[.int .i64 C, .slice A n c], .agg #[.int .i64 D, .slice A' n' c']] w fun e w' => ∃ v xs code, stackR C ts D us = (xs, code) ∧ e = .returned (.tuple #[v, .int .i64 code]) ∧ OWS w' w.heap.size w'.heap.size v xs (fun i => icells (rowAt xs i)) ∧ Below w.heap.size w w' := by
  subst hn hn'
  obtain ⟨k, hk⟩ := (specStack_ev C (ts.map toS) D (us.map toS) (by simpa using hl) (by simpa using hl')).rounds
  rw [map_toTS, map_toTS] at hk
  have h := spec_PairsOfStack.calls k C A c (ts.map toS) D A' c' (us.map toS) _ _ w (C_of_rt hA (by omega)) (by simpa using hnc) (C_of_rt hA' (by omega)) (by simpa using hnc') hk
  rw [List.length_map, List.length_map] at h
  exact h.mono fun e w' ⟨v, he, hR, hB⟩ => ⟨v, _, _, rfl, he, ows_of_S hR, hB⟩
theorem rowLen_rowsP (ps : List (Int × Int)) (i : Nat) (h : i < ps.length) : rowLen (rowsP ps) i = 2 := by
  rw [rowLen, rowAt_at (by simpa [rowsP] using h)]; simp [rowsP]
theorem tot_rowsP (ps : List (Int × Int)) : ∀ j, j ≤ ps.length → tot (rowLen (rowsP ps)) j = 2 * j := by
  intro j
  induction j with
  | zero => intro _; rfl
  | succ j ih => intro h; rw [tot, ih (by omega), rowLen_rowsP ps j (by omega)]; omega
theorem stackR_len (C : Int) (ss : List T4) (D : Int) (ts : List T4) : (stackR C ss D ts).1.length ≤ 1000000 ∧ rowsz0 (stackR C ss D ts).1 ≤ 40000000 := by
  unfold stackR
  split
  · rename_i h
    rw [Bool.and_eq_true] at h
    have h1 := met_len h.1 h.2
    have h2 := nubP_len (metPairs ss ts)
    have h3 : (msortP (nubP (metPairs ss ts))).length ≤ 600 := by rw [msortP_len]; omega
    have hl : (rowsP (msortP (nubP (metPairs ss ts)))).length = (msortP (nubP (metPairs ss ts))).length := by simp [rowsP]
    refine ⟨by rw [hl]; omega, ?_⟩
    unfold rowsz0
    rw [hl, tot_rowsP _ _ (Nat.le_refl _)]; omega
  · exact ⟨by simp, by simp [rowsz0, tot]⟩
theorem implPairsOfStack_any (C : Int) (A : Option Addr) (ts : List T4) (n c : Nat) (D : Int) (A' : Option Addr) (us : List T4) (m c' : Nat) (w : World) (hn : n = ts.length) (hA : RT w A ts) (hnc : n ≤ c) (hl : n ≤ 35184372088832) (hm : m = us.length) (hA' : RT w A' us) (hmc : m ≤ c') (hl' : m ≤ 35184372088832) :
    Calls Try.prog 45 #[.agg #[.int .i64 C, .slice A n c], .agg #[.int .i64 D, .slice A' m c']] w fun e w' => ∃ v xs code, stackR C ts D us = (xs, code) ∧ e = .returned (.tuple #[v, .int .i64 code]) ∧ OWE 86 w' w.heap.size w'.heap.size v xs (fun i => icells (rowAt xs i)) ∧ Below w.heap.size w w' := implStack_any C A ts n c D A' us m c' w hn hA hnc hl hm hA' hmc hl'

set_option maxHeartbeats 16000000 in
set_option maxRecDepth 100000 in
theorem lawPairsOfStack_any (w : World) (C0 : Int) (A0 : Option Addr) (ts0 : List T4) (n0 c0 : Nat) (hn0 : n0 = ts0.length) (hA0 : RT w A0 ts0) (hnc0 : n0 ≤ c0) (hl0 : n0 ≤ 35184372088832) (hC0 : -9223372036854775808 ≤ C0 ∧ C0 ≤ 9223372036854775807) (C1 : Int) (A1 : Option Addr) (ts1 : List T4) (n1 c1 : Nat) (hn1 : n1 = ts1.length) (hA1 : RT w A1 ts1) (hnc1 : n1 ≤ c1) (hl1 : n1 ≤ 35184372088832) (hC1 : -9223372036854775808 ≤ C1 ∧ C1 ≤ 9223372036854775807) :
    Calls Try.prog 12 #[.agg #[.int .i64 C0, .slice A0 n0 c0], .agg #[.int .i64 C1, .slice A1 n1 c1]] w fun e w' => e = .returned (.bool true) ∧ Below w.heap.size w w' := by
  subst hn0
  have HA0 := Lib.hid hA0; clear hA0
  subst hn1
  have HA1 := Lib.hid hA1; clear hA1
  by_cases hbig0 : (1048576 : Int) < ((ts0.length : Nat) : Int)
  · go_enter Try.func12, Try.ntmps12
    go_wp2_with fail
    refine namec2 ?_
    intro w1 b0 b1 hz hB
    have tw1 : w.heap.size + 2 ≤ w1.heap.size := by omega
    clear hz
    have sw1 : w.heap.size ≤ w1.heap.size := hB.size
    have hE := Lib.hid (hB)
    clear hB
    refine (szSet_any C0 A0 ts0.length c0 (1048576) w1 (by omega) (by omega) (by omega)).mono ?_
    rintro e w2 ⟨rfl, hB⟩
    rw [if_pos (show (1048576 : Int) < (ts0.length : Nat) by omega)]
    replace b0 := b0.below hB b0.lt
    replace b1 := b1.below hB b1.lt
    have sw2 : w1.heap.size ≤ w2.heap.size := hB.size
    replace hE := Lib.hid (below_to hE.out hB)
    clear hB
    go_wp2_with fail
    go_ret
    exact ⟨rfl, hE.out⟩
  · replace hbig0 : ((ts0.length : Nat) : Int) ≤ 1048576 := by omega
    by_cases hbig1 : ((1048576 - ((ts0.length : Nat) : Int)) : Int) < ((ts1.length : Nat) : Int)
    · go_enter Try.func12, Try.ntmps12
      go_wp2_with fail
      refine namec2 ?_
      intro w1 b0 b1 hz hB
      have tw1 : w.heap.size + 2 ≤ w1.heap.size := by omega
      clear hz
      have sw1 : w.heap.size ≤ w1.heap.size := hB.size
      have hE := Lib.hid (hB)
      clear hB
      refine (szSet_any C0 A0 ts0.length c0 (1048576) w1 (by omega) (by omega) (by omega)).mono ?_
      rintro e w2 ⟨rfl, hB⟩
      rw [if_neg (show ¬ (1048576 : Int) < (ts0.length : Nat) by omega)]
      replace b0 := b0.below hB b0.lt
      replace b1 := b1.below hB b1.lt
      have sw2 : w1.heap.size ≤ w2.heap.size := hB.size
      replace hE := Lib.hid (below_to hE.out hB)
      clear hB
      have l0 := b0.lt
      have c0_0 : w2.cell? ⟨w.heap.size, 0, none⟩ = some (.int .i64 C0) := b0.cell rfl
      have c0_1 : w2.cell? ⟨w.heap.size, 1, none⟩ = some (.slice A0 ts0.length c0) := b0.cell rfl
      have l1 := b1.lt
      have c1_0 : w2.cell? ⟨w.heap.size + 1, 0, none⟩ = some (.int .i64 C1) := b1.cell rfl
      have c1_1 : w2.cell? ⟨w.heap.size + 1, 1, none⟩ = some (.slice A1 ts1.length c1) := b1.cell rfl
      go_wp2_with fail
      clear l0 c0_0 c0_1 l1 c1_0 c1_1
      refine (szSet_any C1 A1 ts1.length c1 ((1048576 - ((ts0.length : Nat) : Int))) w2 (by omega) (by omega) (by omega)).mono ?_
      rintro e w3 ⟨rfl, hB⟩
      rw [if_pos (show ((1048576 - ((ts0.length : Nat) : Int)) : Int) < (ts1.length : Nat) by omega)]
      replace b0 := b0.below hB b0.lt
      replace b1 := b1.below hB b1.lt
      have sw3 : w2.heap.size ≤ w3.heap.size := hB.size
      replace hE := Lib.hid (below_to hE.out hB)
      clear hB
      go_wp2_with fail
      go_ret
      exact ⟨rfl, hE.out⟩
    · replace hbig1 : ((ts1.length : Nat) : Int) ≤ (1048576 - ((ts0.length : Nat) : Int)) := by omega
      obtain ⟨r_, hr_⟩ : ∃ r, stackR C0 ts0 C1 ts1 = r := ⟨_, rfl⟩
      obtain ⟨r1, r2⟩ := r_
      have hb1 : r1.length ≤ 1000000 ∧ rowsz0 r1 ≤ 40000000 := by have h_ := stackR_len C0 ts0 C1 ts1; rw [hr_] at h_; exact h_
      have HR := Lib.hid hr_; clear hr_
      go_enter Try.func12, Try.ntmps12
      go_wp2_with fail
      refine namec2 ?_
      intro w1 b0 b1 hz hB
      have tw1 : w.heap.size + 2 ≤ w1.heap.size := by omega
      clear hz
      have sw1 : w.heap.size ≤ w1.heap.size := hB.size
      have hE := Lib.hid (hB)
      clear hB
      refine (szSet_any C0 A0 ts0.length c0 (1048576) w1 (by omega) (by omega) (by omega)).mono ?_
      rintro e w2 ⟨rfl, hB⟩
      rw [if_neg (show ¬ (1048576 : Int) < (ts0.length : Nat) by omega)]
      replace b0 := b0.below hB b0.lt
      replace b1 := b1.below hB b1.lt
      have sw2 : w1.heap.size ≤ w2.heap.size := hB.size
      replace hE := Lib.hid (below_to hE.out hB)
      clear hB
      have l0 := b0.lt
      have c0_0 : w2.cell? ⟨w.heap.size, 0, none⟩ = some (.int .i64 C0) := b0.cell rfl
      have c0_1 : w2.cell? ⟨w.heap.size, 1, none⟩ = some (.slice A0 ts0.length c0) := b0.cell rfl
      have l1 := b1.lt
      have c1_0 : w2.cell? ⟨w.heap.size + 1, 0, none⟩ = some (.int .i64 C1) := b1.cell rfl
      have c1_1 : w2.cell? ⟨w.heap.size + 1, 1, none⟩ = some (.slice A1 ts1.length c1) := b1.cell rfl
      go_wp2_with fail
      clear l0 c0_0 c0_1 l1 c1_0 c1_1
      refine (szSet_any C1 A1 ts1.length c1 ((1048576 - ((ts0.length : Nat) : Int))) w2 (by omega) (by omega) (by omega)).mono ?_
      rintro e w3 ⟨rfl, hB⟩
      rw [if_neg (show ¬ ((1048576 - ((ts0.length : Nat) : Int)) : Int) < (ts1.length : Nat) by omega)]
      replace b0 := b0.below hB b0.lt
      replace b1 := b1.below hB b1.lt
      have sw3 : w2.heap.size ≤ w3.heap.size := hB.size
      replace hE := Lib.hid (below_to hE.out hB)
      clear hB
      have l0 := b0.lt
      have c0_0 : w3.cell? ⟨w.heap.size, 0, none⟩ = some (.int .i64 C0) := b0.cell rfl
      have c0_1 : w3.cell? ⟨w.heap.size, 1, none⟩ = some (.slice A0 ts0.length c0) := b0.cell rfl
      have l1 := b1.lt
      have c1_0 : w3.cell? ⟨w.heap.size + 1, 0, none⟩ = some (.int .i64 C1) := b1.cell rfl
      have c1_1 : w3.cell? ⟨w.heap.size + 1, 1, none⟩ = some (.slice A1 ts1.length c1) := b1.cell rfl
      go_wp2_with fail
      clear l0 c0_0 c0_1 l1 c1_0 c1_1
      have hD : Below w3.heap.size w3 w3.drew := (Below.refl _ _).drew
      replace b0 := b0.below hD b0.lt
      replace b1 := b1.below hD b1.lt
      replace hE := Lib.hid (below_to hE.out hD)
      clear hD
      have d1_w3 : w3.heap.size ≤ w3.drew.heap.size := Nat.le_refl _
      have d2_w3 : w3.drew.heap.size ≤ w3.heap.size := Nat.le_refl _
      go_region_held3 (fun w_ => w_.cell? ⟨w.heap.size, 0, none⟩ = some (.int .i64 C0) ∧ w_.cell? ⟨w.heap.size, 1, none⟩ = some (.slice A0 ts0.length c0) ∧ w_.cell? ⟨w.heap.size + 1, 0, none⟩ = some (.int .i64 C1) ∧ w_.cell? ⟨w.heap.size + 1, 1, none⟩ = some (.slice A1 ts1.length c1)) (first | exact ⟨b0.cell rfl, b0.cell rfl, b1.cell rfl, b1.cell rfl⟩)
        (first
          | (go_at_call 24; refine (toSet_any C0 A0 ts0 ts0.length c0 w3.drew rfl (HA0.out.below hE.out) (by omega)).mono ?_; rintro e w4 ⟨v_, rfl, hO, hB⟩; obtain ⟨A1_, c1_, rfl, -, -⟩ := hO.reads; have O1 := Lib.hid (OW.of hO); clear hO; replace b0 := b0.below hB b0.lt; replace b1 := b1.below hB b1.lt; have sw4 : w3.drew.heap.size ≤ w4.heap.size := hB.size; replace hE := Lib.hid (below_to hE.out hB); clear hB)
          | (go_at_call 24; refine (toSet_any C1 A1 ts1 ts1.length c1 w4 rfl (HA1.out.below hE.out) (by omega)).mono ?_; rintro e w5 ⟨v_, rfl, hO, hB⟩; obtain ⟨A2_, c2_, rfl, -, -⟩ := hO.reads; have O2 := Lib.hid (OW.of hO); clear hO; replace b0 := b0.below hB b0.lt; replace b1 := b1.below hB b1.lt; replace O1 := Lib.hid (O1.out.to hB); have sw5 : w4.heap.size ≤ w5.heap.size := hB.size; replace hE := Lib.hid (below_to hE.out hB); clear hB)
          | (go_at_call 44; refine (specPairsOfStack_any C0 A1_ ts0 ts0.length c1_ C1 A2_ ts1 ts1.length c2_ w5 rfl (rt_of O1.out rfl) (le_of O1.out) (by omega) rfl (rt_of O2.out rfl) (le_of O2.out) (by omega)).mono ?_; rintro e w6 ⟨v0_, x0_, x1_, hR_, rfl, hO0, hB⟩; obtain ⟨rfl, rfl⟩ : r1 = x0_ ∧ r2 = x1_ := (by have h_ := HR.out.symm.trans hR_; simpa using h_); clear hR_; obtain ⟨A3_, c3_, rfl⟩ := hO0.form0; have O3 := Lib.hid hO0; clear hO0; replace b0 := b0.below hB b0.lt; replace b1 := b1.below hB b1.lt; replace O1 := Lib.hid (O1.out.to hB); replace O2 := Lib.hid (O2.out.to hB); have sw6 : w5.heap.size ≤ w6.heap.size := hB.size; replace hE := Lib.hid (below_to hE.out hB); clear hB))
      have l0 := b0.lt
      have c0_0 : w6.cell? ⟨w.heap.size, 0, none⟩ = some (.int .i64 C0) := b0.cell rfl
      have c0_1 : w6.cell? ⟨w.heap.size, 1, none⟩ = some (.slice A0 ts0.length c0) := b0.cell rfl
      have l1 := b1.lt
      have c1_0 : w6.cell? ⟨w.heap.size + 1, 0, none⟩ = some (.int .i64 C1) := b1.cell rfl
      have c1_1 : w6.cell? ⟨w.heap.size + 1, 1, none⟩ = some (.slice A1 ts1.length c1) := b1.cell rfl
      go_wp2_with fail
      clear l0 c0_0 c0_1 l1 c1_0 c1_1
      refine (toSet_any C0 A0 ts0 ts0.length c0 w6 rfl (HA0.out.below hE.out) (by omega)).mono ?_
      rintro e w7 ⟨v_, rfl, hO, hB⟩
      obtain ⟨A4_, c4_, rfl, -, -⟩ := hO.reads
      have O4 := Lib.hid (OW.of hO)
      clear hO
      replace b0 := b0.below hB b0.lt
      replace b1 := b1.below hB b1.lt
      replace O1 := Lib.hid (O1.out.to hB)
      replace O2 := Lib.hid (O2.out.to hB)
      replace O3 := Lib.hid (O3.out.to hB)
      have sw7 : w6.heap.size ≤ w7.heap.size := hB.size
      replace hE := Lib.hid (below_to hE.out hB)
      clear hB
      have l0 := b0.lt
      have c0_0 : w7.cell? ⟨w.heap.size, 0, none⟩ = some (.int .i64 C0) := b0.cell rfl
      have c0_1 : w7.cell? ⟨w.heap.size, 1, none⟩ = some (.slice A0 ts0.length c0) := b0.cell rfl
      have l1 := b1.lt
      have c1_0 : w7.cell? ⟨w.heap.size + 1, 0, none⟩ = some (.int .i64 C1) := b1.cell rfl
      have c1_1 : w7.cell? ⟨w.heap.size + 1, 1, none⟩ = some (.slice A1 ts1.length c1) := b1.cell rfl
      go_wp2_with fail
      clear l0 c0_0 c0_1 l1 c1_0 c1_1
      refine namec1 ?_
      intro w8 b2 hz hB
      have tw8 : w7.heap.size + 1 ≤ w8.heap.size := by omega
      clear hz
      replace b0 := b0.below hB b0.lt
      replace b1 := b1.below hB b1.lt
      replace O1 := Lib.hid (O1.out.to hB)
      replace O2 := Lib.hid (O2.out.to hB)
      replace O3 := Lib.hid (O3.out.to hB)
      replace O4 := Lib.hid (O4.out.to hB)
      have sw8 : w7.heap.size ≤ w8.heap.size := hB.size
      replace hE := Lib.hid (below_to hE.out hB)
      clear hB
      refine (toSet_any C1 A1 ts1 ts1.length c1 w8 rfl (HA1.out.below hE.out) (by omega)).mono ?_
      rintro e w9 ⟨v_, rfl, hO, hB⟩
      obtain ⟨A5_, c5_, rfl, -, -⟩ := hO.reads
      have O5 := Lib.hid (OW.of hO)
      clear hO
      replace b0 := b0.below hB b0.lt
      replace b1 := b1.below hB b1.lt
      replace b2 := b2.below hB b2.lt
      replace O1 := Lib.hid (O1.out.to hB)
      replace O2 := Lib.hid (O2.out.to hB)
      replace O3 := Lib.hid (O3.out.to hB)
      replace O4 := Lib.hid (O4.out.to hB)
      have sw9 : w8.heap.size ≤ w9.heap.size := hB.size
      replace hE := Lib.hid (below_to hE.out hB)
      clear hB
      have l0 := b0.lt
      have c0_0 : w9.cell? ⟨w.heap.size, 0, none⟩ = some (.int .i64 C0) := b0.cell rfl
      have c0_1 : w9.cell? ⟨w.heap.size, 1, none⟩ = some (.slice A0 ts0.length c0) := b0.cell rfl
      have l1 := b1.lt
      have c1_0 : w9.cell? ⟨w.heap.size + 1, 0, none⟩ = some (.int .i64 C1) := b1.cell rfl
      have c1_1 : w9.cell? ⟨w.heap.size + 1, 1, none⟩ = some (.slice A1 ts1.length c1) := b1.cell rfl
      have l2 := b2.lt
      have c2_0 : w9.cell? ⟨w7.heap.size, 0, none⟩ = some (.int .i64 C0) := b2.cell rfl
      have c2_1 : w9.cell? ⟨w7.heap.size, 1, none⟩ = some (.slice A4_ ts0.length c4_) := b2.cell rfl
      go_wp2_with fail
      clear l0 c0_0 c0_1 l1 c1_0 c1_1 l2 c2_0 c2_1
      refine namec1 ?_
      intro w10 b3 hz hB
      have tw10 : w9.heap.size + 1 ≤ w10.heap.size := by omega
      clear hz
      replace b0 := b0.below hB b0.lt
      replace b1 := b1.below hB b1.lt
      replace b2 := b2.below hB b2.lt
      replace O1 := Lib.hid (O1.out.to hB)
      replace O2 := Lib.hid (O2.out.to hB)
      replace O3 := Lib.hid (O3.out.to hB)
      replace O4 := Lib.hid (O4.out.to hB)
      replace O5 := Lib.hid (O5.out.to hB)
      have sw10 : w9.heap.size ≤ w10.heap.size := hB.size
      replace hE := Lib.hid (below_to hE.out hB)
      clear hB
      refine (implPairsOfStack_any C0 A4_ ts0 ts0.length c4_ C1 A5_ ts1 ts1.length c5_ w10 rfl (rt_of O4.out rfl) (le_of O4.out) (by omega) rfl (rt_of O5.out rfl) (le_of O5.out) (by omega)).mono ?_
      rintro e w11 ⟨v0_, x0_, x1_, hR_, rfl, hO0, hB⟩
      obtain ⟨rfl, rfl⟩ : r1 = x0_ ∧ r2 = x1_ := (by have h_ := HR.out.symm.trans hR_; simpa using h_)
      clear hR_
      obtain ⟨A6_, c6_, rfl⟩ := hO0.form0
      have O6 := Lib.hid hO0
      clear hO0
      replace b0 := b0.below hB b0.lt
      replace b1 := b1.below hB b1.lt
      replace b2 := b2.below hB b2.lt
      replace b3 := b3.below hB b3.lt
      replace O1 := Lib.hid (O1.out.to hB)
      replace O2 := Lib.hid (O2.out.to hB)
      replace O3 := Lib.hid (O3.out.to hB)
      replace O4 := Lib.hid (O4.out.to hB)
      replace O5 := Lib.hid (O5.out.to hB)
      have sw11 : w10.heap.size ≤ w11.heap.size := hB.size
      replace hE := Lib.hid (below_to hE.out hB)
      clear hB
      have l0 := b0.lt
      have c0_0 : w11.cell? ⟨w.heap.size, 0, none⟩ = some (.int .i64 C0) := b0.cell rfl
      have c0_1 : w11.cell? ⟨w.heap.size, 1, none⟩ = some (.slice A0 ts0.length c0) := b0.cell rfl
      have l1 := b1.lt
      have c1_0 : w11.cell? ⟨w.heap.size + 1, 0, none⟩ = some (.int .i64 C1) := b1.cell rfl
      have c1_1 : w11.cell? ⟨w.heap.size + 1, 1, none⟩ = some (.slice A1 ts1.length c1) := b1.cell rfl
      have l2 := b2.lt
      have c2_0 : w11.cell? ⟨w7.heap.size, 0, none⟩ = some (.int .i64 C0) := b2.cell rfl
      have c2_1 : w11.cell? ⟨w7.heap.size, 1, none⟩ = some (.slice A4_ ts0.length c4_) := b2.cell rfl
      have l3 := b3.lt
      have c3_0 : w11.cell? ⟨w9.heap.size, 0, none⟩ = some (.int .i64 C1) := b3.cell rfl
      have c3_1 : w11.cell? ⟨w9.heap.size, 1, none⟩ = some (.slice A5_ ts1.length c5_) := b3.cell rfl
      go_wp2_with fail
      clear l0 c0_0 c0_1 l1 c1_0 c1_1 l2 c2_0 c2_1 l3 c3_0 c3_1
      refine (eqInt64SS_any A6_ A3_ r1 r1 r1.length r1.length c6_ c3_ w11 rfl rfl (rr_of O6.out rfl) (rr_of O3.out rfl) (by omega) (by omega)).mono ?_
      rintro e w12 ⟨rfl, hB⟩
      simp only [decide_true, Bool.and_self]
      replace b0 := b0.below hB b0.lt
      replace b1 := b1.below hB b1.lt
      replace b2 := b2.below hB b2.lt
      replace b3 := b3.below hB b3.lt
      replace O1 := Lib.hid (O1.out.to hB)
      replace O2 := Lib.hid (O2.out.to hB)
      replace O3 := Lib.hid (O3.out.to hB)
      replace O4 := Lib.hid (O4.out.to hB)
      replace O5 := Lib.hid (O5.out.to hB)
      replace O6 := Lib.hid (O6.out.to hB)
      have sw12 : w11.heap.size ≤ w12.heap.size := hB.size
      replace hE := Lib.hid (below_to hE.out hB)
      clear hB
      have l0 := b0.lt
      have c0_0 : w12.cell? ⟨w.heap.size, 0, none⟩ = some (.int .i64 C0) := b0.cell rfl
      have c0_1 : w12.cell? ⟨w.heap.size, 1, none⟩ = some (.slice A0 ts0.length c0) := b0.cell rfl
      have l1 := b1.lt
      have c1_0 : w12.cell? ⟨w.heap.size + 1, 0, none⟩ = some (.int .i64 C1) := b1.cell rfl
      have c1_1 : w12.cell? ⟨w.heap.size + 1, 1, none⟩ = some (.slice A1 ts1.length c1) := b1.cell rfl
      have l2 := b2.lt
      have c2_0 : w12.cell? ⟨w7.heap.size, 0, none⟩ = some (.int .i64 C0) := b2.cell rfl
      have c2_1 : w12.cell? ⟨w7.heap.size, 1, none⟩ = some (.slice A4_ ts0.length c4_) := b2.cell rfl
      have l3 := b3.lt
      have c3_0 : w12.cell? ⟨w9.heap.size, 0, none⟩ = some (.int .i64 C1) := b3.cell rfl
      have c3_1 : w12.cell? ⟨w9.heap.size, 1, none⟩ = some (.slice A5_ ts1.length c5_) := b3.cell rfl
      go_wp2_with fail
      clear l0 c0_0 c0_1 l1 c1_0 c1_1 l2 c2_0 c2_1 l3 c3_0 c3_1
      have hD : Below w12.heap.size w12 w12.drew := (Below.refl _ _).drew
      replace b0 := b0.below hD b0.lt
      replace b1 := b1.below hD b1.lt
      replace b2 := b2.below hD b2.lt
      replace b3 := b3.below hD b3.lt
      replace O1 := Lib.hid (O1.out.to hD)
      replace O2 := Lib.hid (O2.out.to hD)
      replace O3 := Lib.hid (O3.out.to hD)
      replace O4 := Lib.hid (O4.out.to hD)
      replace O5 := Lib.hid (O5.out.to hD)
      replace O6 := Lib.hid (O6.out.to hD)
      replace hE := Lib.hid (below_to hE.out hD)
      clear hD
      have d1_w12 : w12.heap.size ≤ w12.drew.heap.size := Nat.le_refl _
      have d2_w12 : w12.drew.heap.size ≤ w12.heap.size := Nat.le_refl _
      go_region_held3 (fun w_ => w_.cell? ⟨w.heap.size, 0, none⟩ = some (.int .i64 C0) ∧ w_.cell? ⟨w.heap.size, 1, none⟩ = some (.slice A0 ts0.length c0) ∧ w_.cell? ⟨w.heap.size + 1, 0, none⟩ = some (.int .i64 C1) ∧ w_.cell? ⟨w.heap.size + 1, 1, none⟩ = some (.slice A1 ts1.length c1) ∧ w_.cell? ⟨w7.heap.size, 0, none⟩ = some (.int .i64 C0) ∧ w_.cell? ⟨w7.heap.size, 1, none⟩ = some (.slice A4_ ts0.length c4_) ∧ w_.cell? ⟨w9.heap.size, 0, none⟩ = some (.int .i64 C1) ∧ w_.cell? ⟨w9.heap.size, 1, none⟩ = some (.slice A5_ ts1.length c5_)) (first | exact ⟨b0.cell rfl, b0.cell rfl, b1.cell rfl, b1.cell rfl, b2.cell rfl, b2.cell rfl, b3.cell rfl, b3.cell rfl⟩)
        (first
          | (go_at_call 24; refine (toSet_any C0 A0 ts0 ts0.length c0 w12.drew rfl (HA0.out.below hE.out) (by omega)).mono ?_; rintro e w13 ⟨v_, rfl, hO, hB⟩; obtain ⟨A7_, c7_, rfl, -, -⟩ := hO.reads; have O7 := Lib.hid (OW.of hO); clear hO; replace b0 := b0.below hB b0.lt; replace b1 := b1.below hB b1.lt; replace b2 := b2.below hB b2.lt; replace b3 := b3.below hB b3.lt; replace O1 := Lib.hid (O1.out.to hB); replace O2 := Lib.hid (O2.out.to hB); replace O3 := Lib.hid (O3.out.to hB); replace O4 := Lib.hid (O4.out.to hB); replace O5 := Lib.hid (O5.out.to hB); replace O6 := Lib.hid (O6.out.to hB); have sw13 : w12.drew.heap.size ≤ w13.heap.size := hB.size; replace hE := Lib.hid (below_to hE.out hB); clear hB)
          | (go_at_call 17; refine (eqSet_any C0 C0 A4_ A7_ ts0 ts0 ts0.length ts0.length c4_ c7_ w13 rfl rfl (rt_of O4.out rfl) (rt_of O7.out rfl) (by omega) (by omega)).mono ?_; rintro e w14 ⟨rfl, hB⟩; simp only [decide_true, Bool.and_self]; replace b0 := b0.below hB b0.lt; replace b1 := b1.below hB b1.lt; replace b2 := b2.below hB b2.lt; replace b3 := b3.below hB b3.lt; replace O1 := Lib.hid (O1.out.to hB); replace O2 := Lib.hid (O2.out.to hB); replace O3 := Lib.hid (O3.out.to hB); replace O4 := Lib.hid (O4.out.to hB); replace O5 := Lib.hid (O5.out.to hB); replace O6 := Lib.hid (O6.out.to hB); replace O7 := Lib.hid (O7.out.to hB); have sw14 : w13.heap.size ≤ w14.heap.size := hB.size; replace hE := Lib.hid (below_to hE.out hB); clear hB))
      have l0 := b0.lt
      have c0_0 : w14.cell? ⟨w.heap.size, 0, none⟩ = some (.int .i64 C0) := b0.cell rfl
      have c0_1 : w14.cell? ⟨w.heap.size, 1, none⟩ = some (.slice A0 ts0.length c0) := b0.cell rfl
      have l1 := b1.lt
      have c1_0 : w14.cell? ⟨w.heap.size + 1, 0, none⟩ = some (.int .i64 C1) := b1.cell rfl
      have c1_1 : w14.cell? ⟨w.heap.size + 1, 1, none⟩ = some (.slice A1 ts1.length c1) := b1.cell rfl
      have l2 := b2.lt
      have c2_0 : w14.cell? ⟨w7.heap.size, 0, none⟩ = some (.int .i64 C0) := b2.cell rfl
      have c2_1 : w14.cell? ⟨w7.heap.size, 1, none⟩ = some (.slice A4_ ts0.length c4_) := b2.cell rfl
      have l3 := b3.lt
      have c3_0 : w14.cell? ⟨w9.heap.size, 0, none⟩ = some (.int .i64 C1) := b3.cell rfl
      have c3_1 : w14.cell? ⟨w9.heap.size, 1, none⟩ = some (.slice A5_ ts1.length c5_) := b3.cell rfl
      go_wp2_with fail
      clear l0 c0_0 c0_1 l1 c1_0 c1_1 l2 c2_0 c2_1 l3 c3_0 c3_1
      have hD : Below w14.heap.size w14 w14.drew := (Below.refl _ _).drew
      replace b0 := b0.below hD b0.lt
      replace b1 := b1.below hD b1.lt
      replace b2 := b2.below hD b2.lt
      replace b3 := b3.below hD b3.lt
      replace O1 := Lib.hid (O1.out.to hD)
      replace O2 := Lib.hid (O2.out.to hD)
      replace O3 := Lib.hid (O3.out.to hD)
      replace O4 := Lib.hid (O4.out.to hD)
      replace O5 := Lib.hid (O5.out.to hD)
      replace O6 := Lib.hid (O6.out.to hD)
      replace O7 := Lib.hid (O7.out.to hD)
      replace hE := Lib.hid (below_to hE.out hD)
      clear hD
      have d1_w14 : w14.heap.size ≤ w14.drew.heap.size := Nat.le_refl _
      have d2_w14 : w14.drew.heap.size ≤ w14.heap.size := Nat.le_refl _
      go_region_held3 (fun w_ => w_.cell? ⟨w.heap.size, 0, none⟩ = some (.int .i64 C0) ∧ w_.cell? ⟨w.heap.size, 1, none⟩ = some (.slice A0 ts0.length c0) ∧ w_.cell? ⟨w.heap.size + 1, 0, none⟩ = some (.int .i64 C1) ∧ w_.cell? ⟨w.heap.size + 1, 1, none⟩ = some (.slice A1 ts1.length c1) ∧ w_.cell? ⟨w7.heap.size, 0, none⟩ = some (.int .i64 C0) ∧ w_.cell? ⟨w7.heap.size, 1, none⟩ = some (.slice A4_ ts0.length c4_) ∧ w_.cell? ⟨w9.heap.size, 0, none⟩ = some (.int .i64 C1) ∧ w_.cell? ⟨w9.heap.size, 1, none⟩ = some (.slice A5_ ts1.length c5_)) (first | exact ⟨b0.cell rfl, b0.cell rfl, b1.cell rfl, b1.cell rfl, b2.cell rfl, b2.cell rfl, b3.cell rfl, b3.cell rfl⟩)
        (first
          | (go_at_call 24; refine (toSet_any C1 A1 ts1 ts1.length c1 w14.drew rfl (HA1.out.below hE.out) (by omega)).mono ?_; rintro e w15 ⟨v_, rfl, hO, hB⟩; obtain ⟨A8_, c8_, rfl, -, -⟩ := hO.reads; have O8 := Lib.hid (OW.of hO); clear hO; replace b0 := b0.below hB b0.lt; replace b1 := b1.below hB b1.lt; replace b2 := b2.below hB b2.lt; replace b3 := b3.below hB b3.lt; replace O1 := Lib.hid (O1.out.to hB); replace O2 := Lib.hid (O2.out.to hB); replace O3 := Lib.hid (O3.out.to hB); replace O4 := Lib.hid (O4.out.to hB); replace O5 := Lib.hid (O5.out.to hB); replace O6 := Lib.hid (O6.out.to hB); replace O7 := Lib.hid (O7.out.to hB); have sw15 : w14.drew.heap.size ≤ w15.heap.size := hB.size; replace hE := Lib.hid (below_to hE.out hB); clear hB)
          | (go_at_call 17; refine (eqSet_any C1 C1 A5_ A8_ ts1 ts1 ts1.length ts1.length c5_ c8_ w15 rfl rfl (rt_of O5.out rfl) (rt_of O8.out rfl) (by omega) (by omega)).mono ?_; rintro e w16 ⟨rfl, hB⟩; simp only [decide_true, Bool.and_self]; replace b0 := b0.below hB b0.lt; replace b1 := b1.below hB b1.lt; replace b2 := b2.below hB b2.lt; replace b3 := b3.below hB b3.lt; replace O1 := Lib.hid (O1.out.to hB); replace O2 := Lib.hid (O2.out.to hB); replace O3 := Lib.hid (O3.out.to hB); replace O4 := Lib.hid (O4.out.to hB); replace O5 := Lib.hid (O5.out.to hB); replace O6 := Lib.hid (O6.out.to hB); replace O7 := Lib.hid (O7.out.to hB); replace O8 := Lib.hid (O8.out.to hB); have sw16 : w15.heap.size ≤ w16.heap.size := hB.size; replace hE := Lib.hid (below_to hE.out hB); clear hB))
      have l0 := b0.lt
      have c0_0 : w16.cell? ⟨w.heap.size, 0, none⟩ = some (.int .i64 C0) := b0.cell rfl
      have c0_1 : w16.cell? ⟨w.heap.size, 1, none⟩ = some (.slice A0 ts0.length c0) := b0.cell rfl
      have l1 := b1.lt
      have c1_0 : w16.cell? ⟨w.heap.size + 1, 0, none⟩ = some (.int .i64 C1) := b1.cell rfl
      have c1_1 : w16.cell? ⟨w.heap.size + 1, 1, none⟩ = some (.slice A1 ts1.length c1) := b1.cell rfl
      have l2 := b2.lt
      have c2_0 : w16.cell? ⟨w7.heap.size, 0, none⟩ = some (.int .i64 C0) := b2.cell rfl
      have c2_1 : w16.cell? ⟨w7.heap.size, 1, none⟩ = some (.slice A4_ ts0.length c4_) := b2.cell rfl
      have l3 := b3.lt
      have c3_0 : w16.cell? ⟨w9.heap.size, 0, none⟩ = some (.int .i64 C1) := b3.cell rfl
      have c3_1 : w16.cell? ⟨w9.heap.size, 1, none⟩ = some (.slice A5_ ts1.length c5_) := b3.cell rfl
      go_wp2_with fail
      clear l0 c0_0 c0_1 l1 c1_0 c1_1 l2 c2_0 c2_1 l3 c3_0 c3_1
      obtain ⟨m_O4, hm_O4⟩ : ∃ m, m = ts0.length * 4 := ⟨_, rfl⟩
      have bm_O4 : m_O4 ≤ 40000000 := by omega
      have Hm_O4 := Lib.hid hm_O4; clear hm_O4
      refine (markSet_m w6.heap.size w7.heap.size C0 (.slice A4_ ts0.length c4_) ts0.length m_O4 (tcells ts0) (1) w16 Hm_O4.out O4.out (by omega) (by omega) (by omega)).mono ?_
      rintro e w17 ⟨rfl, hO, hK⟩
      clear O4
      have O4 := Lib.hid hO
      clear hO
      replace b0 := b0.only hK (by omega)
      replace b1 := b1.only hK (by omega)
      replace b2 := b2.only hK (by omega)
      replace b3 := b3.only hK (by omega)
      replace O1 := Lib.hid (O1.out.only hK (by omega))
      replace O2 := Lib.hid (O2.out.only hK (by omega))
      replace O3 := Lib.hid (O3.out.only hK (by omega))
      replace O5 := Lib.hid (O5.out.only hK (by omega))
      replace O6 := Lib.hid (O6.out.only hK (by omega))
      replace O7 := Lib.hid (O7.out.only hK (by omega))
      replace O8 := Lib.hid (O8.out.only hK (by omega))
      have sw17 : w16.heap.size ≤ w17.heap.size := hK.size
      replace hE := Lib.hid (below_only hE.out hK (by omega))
      clear hK
      have l0 := b0.lt
      have c0_0 : w17.cell? ⟨w.heap.size, 0, none⟩ = some (.int .i64 C0) := b0.cell rfl
      have c0_1 : w17.cell? ⟨w.heap.size, 1, none⟩ = some (.slice A0 ts0.length c0) := b0.cell rfl
      have l1 := b1.lt
      have c1_0 : w17.cell? ⟨w.heap.size + 1, 0, none⟩ = some (.int .i64 C1) := b1.cell rfl
      have c1_1 : w17.cell? ⟨w.heap.size + 1, 1, none⟩ = some (.slice A1 ts1.length c1) := b1.cell rfl
      have l2 := b2.lt
      have c2_0 : w17.cell? ⟨w7.heap.size, 0, none⟩ = some (.int .i64 C0) := b2.cell rfl
      have c2_1 : w17.cell? ⟨w7.heap.size, 1, none⟩ = some (.slice A4_ ts0.length c4_) := b2.cell rfl
      have l3 := b3.lt
      have c3_0 : w17.cell? ⟨w9.heap.size, 0, none⟩ = some (.int .i64 C1) := b3.cell rfl
      have c3_1 : w17.cell? ⟨w9.heap.size, 1, none⟩ = some (.slice A5_ ts1.length c5_) := b3.cell rfl
      go_wp2_with fail
      clear l0 c0_0 c0_1 l1 c1_0 c1_1 l2 c2_0 c2_1 l3 c3_0 c3_1
      obtain ⟨m_O5, hm_O5⟩ : ∃ m, m = ts1.length * 4 := ⟨_, rfl⟩
      have bm_O5 : m_O5 ≤ 40000000 := by omega
      have Hm_O5 := Lib.hid hm_O5; clear hm_O5
      refine (markSet_m w8.heap.size w9.heap.size C1 (.slice A5_ ts1.length c5_) ts1.length m_O5 (tcells ts1) ((1 + (m_O4 : Int))) w17 Hm_O5.out O5.out (by omega) (by omega) (by omega)).mono ?_
      rintro e w18 ⟨rfl, hO, hK⟩
      clear O5
      have O5 := Lib.hid hO
      clear hO
      replace b0 := b0.only hK (by omega)
      replace b1 := b1.only hK (by omega)
      replace b2 := b2.only hK (by omega)
      replace b3 := b3.only hK (by omega)
      replace O1 := Lib.hid (O1.out.only hK (by omega))
      replace O2 := Lib.hid (O2.out.only hK (by omega))
      replace O3 := Lib.hid (O3.out.only hK (by omega))
      replace O4 := Lib.hid (O4.out.only hK (by omega))
      replace O6 := Lib.hid (O6.out.only hK (by omega))
      replace O7 := Lib.hid (O7.out.only hK (by omega))
      replace O8 := Lib.hid (O8.out.only hK (by omega))
      have sw18 : w17.heap.size ≤ w18.heap.size := hK.size
      replace hE := Lib.hid (below_only hE.out hK (by omega))
      clear hK
      have l0 := b0.lt
      have c0_0 : w18.cell? ⟨w.heap.size, 0, none⟩ = some (.int .i64 C0) := b0.cell rfl
      have c0_1 : w18.cell? ⟨w.heap.size, 1, none⟩ = some (.slice A0 ts0.length c0) := b0.cell rfl
      have l1 := b1.lt
      have c1_0 : w18.cell? ⟨w.heap.size + 1, 0, none⟩ = some (.int .i64 C1) := b1.cell rfl
      have c1_1 : w18.cell? ⟨w.heap.size + 1, 1, none⟩ = some (.slice A1 ts1.length c1) := b1.cell rfl
      have l2 := b2.lt
      have c2_0 : w18.cell? ⟨w7.heap.size, 0, none⟩ = some (.int .i64 C0) := b2.cell rfl
      have c2_1 : w18.cell? ⟨w7.heap.size, 1, none⟩ = some (.slice A4_ ts0.length c4_) := b2.cell rfl
      have l3 := b3.lt
      have c3_0 : w18.cell? ⟨w9.heap.size, 0, none⟩ = some (.int .i64 C1) := b3.cell rfl
      have c3_1 : w18.cell? ⟨w9.heap.size, 1, none⟩ = some (.slice A5_ ts1.length c5_) := b3.cell rfl
      go_wp2_with fail
      clear l0 c0_0 c0_1 l1 c1_0 c1_1 l2 c2_0 c2_1 l3 c3_0 c3_1
      refine (eqInt64SS_any A6_ A3_ r1 r1 r1.length r1.length c6_ c3_ w18 rfl rfl (rr_of O6.out rfl) (rr_of O3.out rfl) (by omega) (by omega)).mono ?_
      rintro e w19 ⟨rfl, hB⟩
      simp only [decide_true, Bool.and_self]
      replace b0 := b0.below hB b0.lt
      replace b1 := b1.below hB b1.lt
      replace b2 := b2.below hB b2.lt
      replace b3 := b3.below hB b3.lt
      replace O1 := Lib.hid (O1.out.to hB)
      replace O2 := Lib.hid (O2.out.to hB)
      replace O3 := Lib.hid (O3.out.to hB)
      replace O4 := Lib.hid (O4.out.to hB)
      replace O5 := Lib.hid (O5.out.to hB)
      replace O6 := Lib.hid (O6.out.to hB)
      replace O7 := Lib.hid (O7.out.to hB)
      replace O8 := Lib.hid (O8.out.to hB)
      have sw19 : w18.heap.size ≤ w19.heap.size := hB.size
      replace hE := Lib.hid (below_to hE.out hB)
      clear hB
      have l0 := b0.lt
      have c0_0 : w19.cell? ⟨w.heap.size, 0, none⟩ = some (.int .i64 C0) := b0.cell rfl
      have c0_1 : w19.cell? ⟨w.heap.size, 1, none⟩ = some (.slice A0 ts0.length c0) := b0.cell rfl
      have l1 := b1.lt
      have c1_0 : w19.cell? ⟨w.heap.size + 1, 0, none⟩ = some (.int .i64 C1) := b1.cell rfl
      have c1_1 : w19.cell? ⟨w.heap.size + 1, 1, none⟩ = some (.slice A1 ts1.length c1) := b1.cell rfl
      have l2 := b2.lt
      have c2_0 : w19.cell? ⟨w7.heap.size, 0, none⟩ = some (.int .i64 C0) := b2.cell rfl
      have c2_1 : w19.cell? ⟨w7.heap.size, 1, none⟩ = some (.slice A4_ ts0.length c4_) := b2.cell rfl
      have l3 := b3.lt
      have c3_0 : w19.cell? ⟨w9.heap.size, 0, none⟩ = some (.int .i64 C1) := b3.cell rfl
      have c3_1 : w19.cell? ⟨w9.heap.size, 1, none⟩ = some (.slice A5_ ts1.length c5_) := b3.cell rfl
      go_wp2_with fail
      clear l0 c0_0 c0_1 l1 c1_0 c1_1 l2 c2_0 c2_1 l3 c3_0 c3_1
      obtain ⟨m_O6, hm_O6⟩ : ∃ m, m = rowsz0 r1 := ⟨_, rfl⟩
      have bm_O6 : m_O6 ≤ 40000000 := by have := hb1; omega
      have Hm_O6 := Lib.hid hm_O6; clear hm_O6
      refine (markInt64SS_m w10.heap.size w11.heap.size r1 m_O6 (1) w19 Hm_O6.out O6.out (by omega) (by omega) (by omega)).mono ?_
      rintro e w20 ⟨rfl, hO, hK⟩
      clear O6
      have O6 := Lib.hid hO
      clear hO
      replace b0 := b0.only hK (by omega)
      replace b1 := b1.only hK (by omega)
      replace b2 := b2.only hK (by omega)
      replace b3 := b3.only hK (by omega)
      replace O1 := Lib.hid (O1.out.only hK (by omega))
      replace O2 := Lib.hid (O2.out.only hK (by omega))
      replace O3 := Lib.hid (O3.out.only hK (by omega))
      replace O4 := Lib.hid (O4.out.only hK (by omega))
      replace O5 := Lib.hid (O5.out.only hK (by omega))
      replace O7 := Lib.hid (O7.out.only hK (by omega))
      replace O8 := Lib.hid (O8.out.only hK (by omega))
      have sw20 : w19.heap.size ≤ w20.heap.size := hK.size
      replace hE := Lib.hid (below_only hE.out hK (by omega))
      clear hK
      have l0 := b0.lt
      have c0_0 : w20.cell? ⟨w.heap.size, 0, none⟩ = some (.int .i64 C0) := b0.cell rfl
      have c0_1 : w20.cell? ⟨w.heap.size, 1, none⟩ = some (.slice A0 ts0.length c0) := b0.cell rfl
      have l1 := b1.lt
      have c1_0 : w20.cell? ⟨w.heap.size + 1, 0, none⟩ = some (.int .i64 C1) := b1.cell rfl
      have c1_1 : w20.cell? ⟨w.heap.size + 1, 1, none⟩ = some (.slice A1 ts1.length c1) := b1.cell rfl
      have l2 := b2.lt
      have c2_0 : w20.cell? ⟨w7.heap.size, 0, none⟩ = some (.int .i64 C0) := b2.cell rfl
      have c2_1 : w20.cell? ⟨w7.heap.size, 1, none⟩ = some (.slice A4_ ts0.length c4_) := b2.cell rfl
      have l3 := b3.lt
      have c3_0 : w20.cell? ⟨w9.heap.size, 0, none⟩ = some (.int .i64 C1) := b3.cell rfl
      have c3_1 : w20.cell? ⟨w9.heap.size, 1, none⟩ = some (.slice A5_ ts1.length c5_) := b3.cell rfl
      go_wp2_with fail
      clear l0 c0_0 c0_1 l1 c1_0 c1_1 l2 c2_0 c2_1 l3 c3_0 c3_1
      refine (heldInt64SS_m w10.heap.size w11.heap.size r1 m_O6 (1) w20 Hm_O6.out O6.out (by omega) (by omega) (by omega)).mono ?_
      rintro e w21 ⟨rfl, hB⟩
      replace b0 := b0.below hB b0.lt
      replace b1 := b1.below hB b1.lt
      replace b2 := b2.below hB b2.lt
      replace b3 := b3.below hB b3.lt
      replace O1 := Lib.hid (O1.out.to hB)
      replace O2 := Lib.hid (O2.out.to hB)
      replace O3 := Lib.hid (O3.out.to hB)
      replace O4 := Lib.hid (O4.out.to hB)
      replace O5 := Lib.hid (O5.out.to hB)
      replace O6 := Lib.hid (O6.out.to hB)
      replace O7 := Lib.hid (O7.out.to hB)
      replace O8 := Lib.hid (O8.out.to hB)
      have sw21 : w20.heap.size ≤ w21.heap.size := hB.size
      replace hE := Lib.hid (below_to hE.out hB)
      clear hB
      have l0 := b0.lt
      have c0_0 : w21.cell? ⟨w.heap.size, 0, none⟩ = some (.int .i64 C0) := b0.cell rfl
      have c0_1 : w21.cell? ⟨w.heap.size, 1, none⟩ = some (.slice A0 ts0.length c0) := b0.cell rfl
      have l1 := b1.lt
      have c1_0 : w21.cell? ⟨w.heap.size + 1, 0, none⟩ = some (.int .i64 C1) := b1.cell rfl
      have c1_1 : w21.cell? ⟨w.heap.size + 1, 1, none⟩ = some (.slice A1 ts1.length c1) := b1.cell rfl
      have l2 := b2.lt
      have c2_0 : w21.cell? ⟨w7.heap.size, 0, none⟩ = some (.int .i64 C0) := b2.cell rfl
      have c2_1 : w21.cell? ⟨w7.heap.size, 1, none⟩ = some (.slice A4_ ts0.length c4_) := b2.cell rfl
      have l3 := b3.lt
      have c3_0 : w21.cell? ⟨w9.heap.size, 0, none⟩ = some (.int .i64 C1) := b3.cell rfl
      have c3_1 : w21.cell? ⟨w9.heap.size, 1, none⟩ = some (.slice A5_ ts1.length c5_) := b3.cell rfl
      go_wp2_with fail
      clear l0 c0_0 c0_1 l1 c1_0 c1_1 l2 c2_0 c2_1 l3 c3_0 c3_1
      have hD : Below w21.heap.size w21 w21.drew := (Below.refl _ _).drew
      replace b0 := b0.below hD b0.lt
      replace b1 := b1.below hD b1.lt
      replace b2 := b2.below hD b2.lt
      replace b3 := b3.below hD b3.lt
      replace O1 := Lib.hid (O1.out.to hD)
      replace O2 := Lib.hid (O2.out.to hD)
      replace O3 := Lib.hid (O3.out.to hD)
      replace O4 := Lib.hid (O4.out.to hD)
      replace O5 := Lib.hid (O5.out.to hD)
      replace O6 := Lib.hid (O6.out.to hD)
      replace O7 := Lib.hid (O7.out.to hD)
      replace O8 := Lib.hid (O8.out.to hD)
      replace hE := Lib.hid (below_to hE.out hD)
      clear hD
      have d1_w21 : w21.heap.size ≤ w21.drew.heap.size := Nat.le_refl _
      have d2_w21 : w21.drew.heap.size ≤ w21.heap.size := Nat.le_refl _
      go_region_held3 (fun w_ => w_.cell? ⟨w.heap.size, 0, none⟩ = some (.int .i64 C0) ∧ w_.cell? ⟨w.heap.size, 1, none⟩ = some (.slice A0 ts0.length c0) ∧ w_.cell? ⟨w.heap.size + 1, 0, none⟩ = some (.int .i64 C1) ∧ w_.cell? ⟨w.heap.size + 1, 1, none⟩ = some (.slice A1 ts1.length c1) ∧ w_.cell? ⟨w7.heap.size, 0, none⟩ = some (.int .i64 C0) ∧ w_.cell? ⟨w7.heap.size, 1, none⟩ = some (.slice A4_ ts0.length c4_) ∧ w_.cell? ⟨w9.heap.size, 0, none⟩ = some (.int .i64 C1) ∧ w_.cell? ⟨w9.heap.size, 1, none⟩ = some (.slice A5_ ts1.length c5_)) (first | exact ⟨b0.cell rfl, b0.cell rfl, b1.cell rfl, b1.cell rfl, b2.cell rfl, b2.cell rfl, b3.cell rfl, b3.cell rfl⟩)
        (first
          | (go_at_call 24; refine (toSet_any C0 A0 ts0 ts0.length c0 w21.drew rfl (HA0.out.below hE.out) (by omega)).mono ?_; rintro e w22 ⟨v_, rfl, hO, hB⟩; obtain ⟨A9_, c9_, rfl, -, -⟩ := hO.reads; have O9 := Lib.hid (OW.of hO); clear hO; replace b0 := b0.below hB b0.lt; replace b1 := b1.below hB b1.lt; replace b2 := b2.below hB b2.lt; replace b3 := b3.below hB b3.lt; replace O1 := Lib.hid (O1.out.to hB); replace O2 := Lib.hid (O2.out.to hB); replace O3 := Lib.hid (O3.out.to hB); replace O4 := Lib.hid (O4.out.to hB); replace O5 := Lib.hid (O5.out.to hB); replace O6 := Lib.hid (O6.out.to hB); replace O7 := Lib.hid (O7.out.to hB); replace O8 := Lib.hid (O8.out.to hB); have sw22 : w21.drew.heap.size ≤ w22.heap.size := hB.size; replace hE := Lib.hid (below_to hE.out hB); clear hB)
          | (go_at_call 24; refine (toSet_any C1 A1 ts1 ts1.length c1 w22 rfl (HA1.out.below hE.out) (by omega)).mono ?_; rintro e w23 ⟨v_, rfl, hO, hB⟩; obtain ⟨A10_, c10_, rfl, -, -⟩ := hO.reads; have O10 := Lib.hid (OW.of hO); clear hO; replace b0 := b0.below hB b0.lt; replace b1 := b1.below hB b1.lt; replace b2 := b2.below hB b2.lt; replace b3 := b3.below hB b3.lt; replace O1 := Lib.hid (O1.out.to hB); replace O2 := Lib.hid (O2.out.to hB); replace O3 := Lib.hid (O3.out.to hB); replace O4 := Lib.hid (O4.out.to hB); replace O5 := Lib.hid (O5.out.to hB); replace O6 := Lib.hid (O6.out.to hB); replace O7 := Lib.hid (O7.out.to hB); replace O8 := Lib.hid (O8.out.to hB); replace O9 := Lib.hid (O9.out.to hB); have sw23 : w22.heap.size ≤ w23.heap.size := hB.size; replace hE := Lib.hid (below_to hE.out hB); clear hB)
          | (go_at_call 45; refine (implPairsOfStack_any C0 A9_ ts0 ts0.length c9_ C1 A10_ ts1 ts1.length c10_ w23 rfl (rt_of O9.out rfl) (le_of O9.out) (by omega) rfl (rt_of O10.out rfl) (le_of O10.out) (by omega)).mono ?_; rintro e w24 ⟨v0_, x0_, x1_, hR_, rfl, hO0, hB⟩; obtain ⟨rfl, rfl⟩ : r1 = x0_ ∧ r2 = x1_ := (by have h_ := HR.out.symm.trans hR_; simpa using h_); clear hR_; obtain ⟨A11_, c11_, rfl⟩ := hO0.form0; have O11 := Lib.hid hO0; clear hO0; replace b0 := b0.below hB b0.lt; replace b1 := b1.below hB b1.lt; replace b2 := b2.below hB b2.lt; replace b3 := b3.below hB b3.lt; replace O1 := Lib.hid (O1.out.to hB); replace O2 := Lib.hid (O2.out.to hB); replace O3 := Lib.hid (O3.out.to hB); replace O4 := Lib.hid (O4.out.to hB); replace O5 := Lib.hid (O5.out.to hB); replace O6 := Lib.hid (O6.out.to hB); replace O7 := Lib.hid (O7.out.to hB); replace O8 := Lib.hid (O8.out.to hB); replace O9 := Lib.hid (O9.out.to hB); replace O10 := Lib.hid (O10.out.to hB); have sw24 : w23.heap.size ≤ w24.heap.size := hB.size; replace hE := Lib.hid (below_to hE.out hB); clear hB))
      have l0 := b0.lt
      have c0_0 : w24.cell? ⟨w.heap.size, 0, none⟩ = some (.int .i64 C0) := b0.cell rfl
      have c0_1 : w24.cell? ⟨w.heap.size, 1, none⟩ = some (.slice A0 ts0.length c0) := b0.cell rfl
      have l1 := b1.lt
      have c1_0 : w24.cell? ⟨w.heap.size + 1, 0, none⟩ = some (.int .i64 C1) := b1.cell rfl
      have c1_1 : w24.cell? ⟨w.heap.size + 1, 1, none⟩ = some (.slice A1 ts1.length c1) := b1.cell rfl
      have l2 := b2.lt
      have c2_0 : w24.cell? ⟨w7.heap.size, 0, none⟩ = some (.int .i64 C0) := b2.cell rfl
      have c2_1 : w24.cell? ⟨w7.heap.size, 1, none⟩ = some (.slice A4_ ts0.length c4_) := b2.cell rfl
      have l3 := b3.lt
      have c3_0 : w24.cell? ⟨w9.heap.size, 0, none⟩ = some (.int .i64 C1) := b3.cell rfl
      have c3_1 : w24.cell? ⟨w9.heap.size, 1, none⟩ = some (.slice A5_ ts1.length c5_) := b3.cell rfl
      go_wp2_with fail
      clear l0 c0_0 c0_1 l1 c1_0 c1_1 l2 c2_0 c2_1 l3 c3_0 c3_1
      refine (eqInt64SS_any A11_ A3_ r1 r1 r1.length r1.length c11_ c3_ w24 rfl rfl (rr_of O11.out rfl) (rr_of O3.out rfl) (by omega) (by omega)).mono ?_
      rintro e w25 ⟨rfl, hB⟩
      simp only [decide_true, Bool.and_self]
      replace b0 := b0.below hB b0.lt
      replace b1 := b1.below hB b1.lt
      replace b2 := b2.below hB b2.lt
      replace b3 := b3.below hB b3.lt
      replace O1 := Lib.hid (O1.out.to hB)
      replace O2 := Lib.hid (O2.out.to hB)
      replace O3 := Lib.hid (O3.out.to hB)
      replace O4 := Lib.hid (O4.out.to hB)
      replace O5 := Lib.hid (O5.out.to hB)
      replace O6 := Lib.hid (O6.out.to hB)
      replace O7 := Lib.hid (O7.out.to hB)
      replace O8 := Lib.hid (O8.out.to hB)
      replace O9 := Lib.hid (O9.out.to hB)
      replace O10 := Lib.hid (O10.out.to hB)
      replace O11 := Lib.hid (O11.out.to hB)
      have sw25 : w24.heap.size ≤ w25.heap.size := hB.size
      replace hE := Lib.hid (below_to hE.out hB)
      clear hB
      have l0 := b0.lt
      have c0_0 : w25.cell? ⟨w.heap.size, 0, none⟩ = some (.int .i64 C0) := b0.cell rfl
      have c0_1 : w25.cell? ⟨w.heap.size, 1, none⟩ = some (.slice A0 ts0.length c0) := b0.cell rfl
      have l1 := b1.lt
      have c1_0 : w25.cell? ⟨w.heap.size + 1, 0, none⟩ = some (.int .i64 C1) := b1.cell rfl
      have c1_1 : w25.cell? ⟨w.heap.size + 1, 1, none⟩ = some (.slice A1 ts1.length c1) := b1.cell rfl
      have l2 := b2.lt
      have c2_0 : w25.cell? ⟨w7.heap.size, 0, none⟩ = some (.int .i64 C0) := b2.cell rfl
      have c2_1 : w25.cell? ⟨w7.heap.size, 1, none⟩ = some (.slice A4_ ts0.length c4_) := b2.cell rfl
      have l3 := b3.lt
      have c3_0 : w25.cell? ⟨w9.heap.size, 0, none⟩ = some (.int .i64 C1) := b3.cell rfl
      have c3_1 : w25.cell? ⟨w9.heap.size, 1, none⟩ = some (.slice A5_ ts1.length c5_) := b3.cell rfl
      go_wp2_with fail
      clear l0 c0_0 c0_1 l1 c1_0 c1_1 l2 c2_0 c2_1 l3 c3_0 c3_1
      refine (heldInt64SS_m w10.heap.size w11.heap.size r1 m_O6 (1) w25 Hm_O6.out O6.out (by omega) (by omega) (by omega)).mono ?_
      rintro e w26 ⟨rfl, hB⟩
      replace b0 := b0.below hB b0.lt
      replace b1 := b1.below hB b1.lt
      replace b2 := b2.below hB b2.lt
      replace b3 := b3.below hB b3.lt
      replace O1 := Lib.hid (O1.out.to hB)
      replace O2 := Lib.hid (O2.out.to hB)
      replace O3 := Lib.hid (O3.out.to hB)
      replace O4 := Lib.hid (O4.out.to hB)
      replace O5 := Lib.hid (O5.out.to hB)
      replace O6 := Lib.hid (O6.out.to hB)
      replace O7 := Lib.hid (O7.out.to hB)
      replace O8 := Lib.hid (O8.out.to hB)
      replace O9 := Lib.hid (O9.out.to hB)
      replace O10 := Lib.hid (O10.out.to hB)
      replace O11 := Lib.hid (O11.out.to hB)
      have sw26 : w25.heap.size ≤ w26.heap.size := hB.size
      replace hE := Lib.hid (below_to hE.out hB)
      clear hB
      go_wp2_with fail
      go_ret
      exact ⟨rfl, hE.out⟩
end Go.Proofs.Ytnjmgmdpkogocaa

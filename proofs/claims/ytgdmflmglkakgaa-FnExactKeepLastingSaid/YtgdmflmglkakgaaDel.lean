/-
  Contracts: a tile taken out of a row of the call's own, in place; a copy of tiles.
-/
import Derived.Test.YtgdmflmglkakgaaLaw1
import Derived.Test.YtgdmflmglkakgaaOwn2
import Derived.Test.YtgdmflmglkakgaaOwn3
import Derived.Deep.RegionHeld3
import Derived.ArgAppend
namespace Go.Proofs.Ytgdmflmglkakgaa
open Go Go.RowKit Go.Proofs
set_option linter.unusedVariables false
set_option linter.unusedSimpArgs false

theorem setCells_far {g : Nat} : ∀ (vs : List Value) (o : Nat) {w : World} (k : Nat), k ≠ g → (w.setCells g o vs).heap[k]? = w.heap[k]?
  | [], _, _, _, _ => rfl
  | v :: r, o, w, k, hk => by
    rw [World.setCells, setCells_far r (o + 1) k hk]
    exact Below.heap_setCell w ⟨g, o, none⟩ v k hk
theorem setCells_only {g : Nat} : ∀ (vs : List Value) (o : Nat) (w : World), Only g (g + 1) w (w.setCells g o vs)
  | [], _, w => Only.refl _ _ _
  | v :: r, o, w => by
    rw [World.setCells]
    exact ((Only.refl g (g + 1) w).setCell (Nat.le_refl _) (by omega) o v).trans (setCells_only r (o + 1) _)
theorem setCells_row {g : Nat} {e : TypeId} : ∀ (vs : List Value) (o : Nat) (w : World) (cur : Array Value), BK w g cur e → o + vs.length ≤ cur.size →
    ∃ cur', BK (w.setCells g o vs) g cur' e ∧ cur'.size = cur.size ∧ cur'.toList = cur.toList.take o ++ vs ++ cur.toList.drop (o + vs.length)
  | [], o, w, cur, h, _ => ⟨cur, h, rfl, by simp⟩
  | v :: r, o, w, cur, h, hl => by
    have h2 := h.set o v
    simp only [List.length_cons] at hl
    obtain ⟨cur', h3, h4, h5⟩ := setCells_row r (o + 1) (w.setCell ⟨g, o, none⟩ v) _ h2 (by simp; omega)
    refine ⟨cur', h3, by rw [h4]; simp, ?_⟩
    rw [h5, Array.toList_setIfInBounds]
    have ho : o < cur.toList.length := by rw [Array.length_toList]; omega
    rw [List.take_set, List.drop_set_of_lt (by omega)]
    simp only [List.length_cons]
    rw [show o + 1 + r.length = o + (r.length + 1) by omega]
    congr 1
    rw [List.take_succ_eq_append_getElem ho, List.set_append_right _ _ (by rw [List.length_take]; omega)]
    have ho' : o < cur.size := by omega
    simp [Nat.min_eq_left (Nat.le_of_lt ho')]
theorem tcells_take (ts : List T4) (k : Nat) : tcells (ts.take k) = (tcells ts).take (k * 4) := by
  induction ts generalizing k with
  | nil => simp [tcells]
  | cons t ts ih =>
    cases k with
    | zero => simp [tcells]
    | succ k =>
      have := ih k
      simp only [tcells] at this
      simp only [tcells, List.take_succ_cons, List.flatMap_cons, this]
      have hl : t.arr.toList.length = 4 := by simp [T4.arr]
      rw [show (k + 1) * 4 = t.arr.toList.length + k * 4 by rw [hl]; omega, List.take_length_add_append]
theorem tcells_drop (ts : List T4) (k : Nat) : tcells (ts.drop k) = (tcells ts).drop (k * 4) := by
  induction ts generalizing k with
  | nil => simp [tcells]
  | cons t ts ih =>
    cases k with
    | zero => simp [tcells]
    | succ k =>
      have := ih k
      simp only [tcells] at this
      simp only [tcells, List.drop_succ_cons, List.flatMap_cons, this]
      have hl : t.arr.toList.length = 4 := by simp [T4.arr]
      rw [show (k + 1) * 4 = t.arr.toList.length + k * 4 by rw [hl]; omega, List.drop_length_add_append]
theorem OT.block {w : World} {base : Nat} {E : TypeId} {g n c : Nat} {ts : List T4} (h : OT w base E (.slice (some ⟨g, 0, none⟩) n c) ts) (hn : n = ts.length) :
    ∃ cur, BK w g cur E ∧ base ≤ g ∧ n ≤ c ∧ c ≤ maxLen ∧ cur.size = c * 4 ∧ cur.toList.take (n * 4) = tcells ts := by
  rcases h.2 with ⟨he, -⟩ | ⟨g', cap, cur, he, hb, hg, hle, hm, hs, ht⟩
  · injection he with e1 _ _; cases e1
  · injection he with e1 e2 e3
    injection e1 with e1; injection e1 with e1
    subst e1 e3
    refine ⟨cur, hg, hb, by omega, hm, hs, ?_⟩
    rw [hn]; exact ht
theorem OT.ofBlock {w : World} {base : Nat} {E : TypeId} {g n c : Nat} {ts : List T4} {cur : Array Value} (h : BK w g cur E) (hb : base ≤ g) (hn : n = ts.length) (hle : n ≤ c) (hm : c ≤ maxLen) (hs : cur.size = c * 4) (ht : cur.toList.take (n * 4) = tcells ts) :
    OT w base E (.slice (some ⟨g, 0, none⟩) n c) ts := by
  subst hn
  exact ⟨tcells_length ts, .inr ⟨g, c, cur, rfl, hb, h, hle, hm, hs, ht⟩⟩
section
variable {P : Program} {ops : Array Oper} {rest : List Oper} {o : Oper} {a : Act} {Q : Exit → Act → World → Prop} {K : Act → World → Prop} {W : World}
theorem step_del {E : Prop} (hgd : o.guard = none) (s x : Operand) (t e : TypeId)
    (ho : o.op = .call { callee := .builtin .append, args := #[s, x], argTypes := #[t, t] }) (ht : P.underlying t = some (.slice e)) (hinfo : (P.info? e).map (·.size) = some 4)
    {g n c k m c2 : Nat} {A : Option Addr} (hs : a.eval s = .slice (some ⟨g, 0, none⟩) k c) (hx : a.eval x = .slice A m c2) (hA : A = if c = k + 1 then some ⟨g, 0, none⟩ else some ⟨g, (k + 1) * 4, none⟩) (hm : m = n - (k + 1))
    {cur : Array Value} (hB : BK W g cur e) (hsz : cur.size = c * 4) (hnc : n ≤ c) (hk : k < n) (ts : List T4) (hn : n = ts.length) (htk : cur.toList.take (n * 4) = tcells ts)
    (h : ∀ cur' w1, BK w1 g cur' e → cur'.size = c * 4 → cur'.toList.take ((n - 1) * 4) = tcells (ts.eraseIdx k) → Only g (g + 1) W w1 → K (a.put o.dst (.slice (some ⟨g, 0, none⟩) (n - 1) c)) w1) :
    if Region.wanted o (yielded ops a.tmps) = true then Oper.wp P o a W K Q else E := by
  have hw : Region.wanted o (yielded ops a.tmps) = true := by simp [Region.wanted, hgd]
  rw [if_pos hw]
  obtain ⟨i0, hi, hi4⟩ := Option.map_eq_some_iff.1 hinfo
  obtain ⟨news, hnews⟩ : ∃ news, news = tcells (ts.drop (k + 1)) := ⟨_, rfl⟩
  have hnl : news.length = m * 4 := by rw [hnews, tcells_length, List.length_drop, hm, hn]
  have hcur : ∀ q, q < n * 4 → cur.toList[q]? = (tcells ts)[q]? := by
    intro q hq
    rw [← htk, List.getElem?_take, if_pos hq]
  obtain ⟨ad, rfl, hcell⟩ : ∃ ad, A = some ad ∧ ∀ (j : Nat) (u : Value), news[j]? = some u → W.cell? (ad.add j) = some u := by
    by_cases hck : c = k + 1
    · rw [if_pos hck] at hA
      refine ⟨_, hA, fun j u hu => ?_⟩
      have h0 : news = [] := List.eq_nil_of_length_eq_zero (by rw [hnl]; omega)
      rw [h0] at hu
      simp at hu
    · rw [if_neg hck] at hA
      refine ⟨_, hA, fun j u hu => ?_⟩
      have hj : j < news.length := (List.getElem?_eq_some_iff.1 hu).1
      rw [add_off]
      refine hB.cell ?_
      rw [← Array.getElem?_toList, hcur _ (by omega), ← hu, hnews, tcells_drop, List.getElem?_drop]
  have hone : ∀ u ∈ news, u.oneCell' = true := by rw [hnews]; exact tcells_one
  have hfit : 0 + k * 4 + news.length ≤ cur.size := by omega
  have hrun := run_append_room_cells (P := P) (w := W) t o.type e i0 ht hi g 0 k c ad m c2 news (by rw [hnl, hi4]) hcell hone (by omega)
    (fun j hj => by
      rw [hi4, hB.cell (v := cur[0 + k * 4 + j]'(by omega)) (Array.getElem?_eq_getElem _)]; rfl) (fun j _ => hB.frozen _)
  rw [hi4, show k + m = n - 1 by omega] at hrun
  obtain ⟨cur', h3, h4, h5⟩ := setCells_row news (0 + k * 4) W cur hB hfit
  unfold Oper.wp execOp
  simp only [ho, resolve, invoke, builtin, Sem.run_bind, Sem.run_pure, Result.andThen_ok, List.map_toArray, List.map_cons, List.map_nil, hs, hx, hrun]
  refine h cur' _ h3 (by rw [h4, hsz]) ?_ (setCells_only _ _ _)
  have hl : (cur.toList.take (k * 4) ++ news).length = (n - 1) * 4 := by
    rw [List.length_append, List.length_take, hnl, Array.length_toList]; omega
  rw [h5, Nat.zero_add, ← hl, List.take_left]
  rw [List.eraseIdx_eq_take_drop_succ, tcells_append, ← hnews, tcells_take, ← htk, List.take_take, Nat.min_eq_left (by omega)]
theorem run_clear4 (t e ty : TypeId) (ht : P.underlying t = some (.slice e))
    (hz : ∀ w, (zeroValue e).run P w = .ok (.agg #[.int .i64 0, .int .i64 0, .int .i64 0, .int .i64 0]) w)
    {g q : Nat} (c2 : Nat) {cur : Array Value} (hB : BK W g cur e) (hsz : q + 4 ≤ cur.size) :
    ∃ cur' w1, (Builtin.clear_ #[t] ty #[.slice (some ⟨g, q, none⟩) 1 c2]).run P W = .ok (.tuple #[]) w1 ∧ BK w1 g cur' e ∧ cur'.size = cur.size ∧ cur'.toList.take q = cur.toList.take q ∧ Only g (g + 1) W w1 := by
  have hst := run_storeCells_cells (P := P) g q [.int .i64 0, .int .i64 0, .int .i64 0, .int .i64 0] 0 W (fun j hj => by
      simp only [List.length_cons, List.length_nil] at hj
      rw [hB.cell (v := cur[q + 0 + j]'(by omega)) (Array.getElem?_eq_getElem _)]; rfl) (fun j _ => hB.frozen _) (by intro v hv; simp only [List.mem_cons, List.not_mem_nil, or_false] at hv; rcases hv with rfl | rfl | rfl | rfl <;> rfl)
  simp only [Nat.add_zero] at hst
  have hr : (Builtin.clear_ #[t] ty #[.slice (some ⟨g, q, none⟩) 1 c2]).run P W = .ok (.tuple #[]) (W.setCells g q [.int .i64 0, .int .i64 0, .int .i64 0, .int .i64 0]) := by
    have hzc : (Builtin.zeroCells #[Value.int .i64 0, .int .i64 0, .int .i64 0, .int .i64 0] 1).toList = [.int .i64 0, .int .i64 0, .int .i64 0, .int .i64 0] := by kernel_rfl
    simp [Builtin.clear_, run_underlying ht, hz, Value.cells, hzc, hst]
  obtain ⟨cur', h3, h4, h5⟩ := setCells_row [.int .i64 0, .int .i64 0, .int .i64 0, .int .i64 0] q W cur hB (by simpa using hsz)
  refine ⟨cur', _, hr, h3, h4, ?_, setCells_only _ _ _⟩
  rw [h5, List.append_assoc, List.take_append_of_le_length (by rw [List.length_take, Array.length_toList]; omega), List.take_take, Nat.min_self]
end
end Go.Proofs.Ytgdmflmglkakgaa

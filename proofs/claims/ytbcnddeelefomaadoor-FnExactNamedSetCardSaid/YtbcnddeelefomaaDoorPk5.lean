/-
  Parts of the proof, in their order: Own, Own2.
-/
import Derived.Test.YtbcnddeelefomaaDoorPk3
import Derived.Maps.AppendAt
import Derived.StillTailTactics
/-
  Words: what a call has made and owns, between two heap sizes; a change that stays between two heap sizes.
-/
namespace Go.Proofs.YtbcnddeelefomaaDoor
open Go Go.RowKit Go.Proofs
set_option linter.unusedVariables false
set_option linter.unusedSimpArgs false

theorem int_eq {k : IntKind} {a b : Int} (h : a = b) : Value.int k a = Value.int k b := by rw [h]
/-- of the blocks that were, those below lo and from hi on are as they were -/
structure Only (lo hi : Nat) (w w' : World) : Prop where
  os : w'.os = w.os
  tape : w'.tape = w.tape
  output : w'.output = w.output
  size : w.heap.size ≤ w'.heap.size
  block : ∀ i, i < w.heap.size → i < lo ∨ hi ≤ i → w'.heap[i]? = w.heap[i]?
theorem only_of {w w' : World} (h : Below w.heap.size w w') (lo hi : Nat) : Only lo hi w w' := ⟨h.os, h.tape, h.output, h.size, fun i hi' _ => h.block i hi'⟩
theorem Only.refl (lo hi : Nat) (w : World) : Only lo hi w w := ⟨rfl, rfl, rfl, Nat.le_refl _, fun _ _ _ => rfl⟩
theorem Only.trans {lo hi : Nat} {a b c : World} (h : Only lo hi a b) (k : Only lo hi b c) : Only lo hi a c :=
  ⟨k.os.trans h.os, k.tape.trans h.tape, k.output.trans h.output, Nat.le_trans h.size k.size, fun i hi' hd => (k.block i (Nat.lt_of_lt_of_le hi' h.size) hd).trans (h.block i hi' hd)⟩
theorem Only.below {lo hi B : Nat} {w w' : World} (h : Only lo hi w w') (hB : B ≤ lo) (hs : B ≤ w.heap.size) : Below B w w' :=
  ⟨h.os, h.tape, h.output, h.size, fun i hi' => h.block i (by omega) (.inl (by omega))⟩
theorem Only.wider {lo hi lo' hi' : Nat} {w w' : World} (h : Only lo hi w w') (h1 : lo' ≤ lo) (h2 : hi ≤ hi') : Only lo' hi' w w' :=
  ⟨h.os, h.tape, h.output, h.size, fun i hi' hd => h.block i hi' (by omega)⟩
theorem Only.setCell {lo hi : Nat} {a w : World} (h : Only lo hi a w) {b : Nat} (h1 : lo ≤ b) (h2 : b < hi) (o : Nat) (u : Value) : Only lo hi a (w.setCell ⟨b, o, none⟩ u) :=
  h.trans ⟨rfl, rfl, rfl, by simp [World.setCell], fun k hk hd => Below.heap_setCell _ _ _ _ (by show k ≠ b; omega)⟩
theorem below_only {w0 w w' : World} {lo hi : Nat} (h : Below w0.heap.size w0 w) (k : Only lo hi w w') (hlo : w0.heap.size ≤ lo) : Below w0.heap.size w0 w' :=
  h.trans (k.below hlo h.size)
theorem BK.only {w w' : World} {b lo hi : Nat} {C : Array Value} {E : TypeId} (h : BK w b C E) (k : Only lo hi w w') (hd : b < lo ∨ hi ≤ b) : BK w' b C E := (k.block b h.lt hd).trans h
theorem cell_only {w w' : World} {lo hi : Nat} {b o : Nat} {v : Value} (k : Only lo hi w w') (hd : b < lo ∨ hi ≤ b) (hc : w.cell? ⟨b, o, none⟩ = some v) : w'.cell? ⟨b, o, none⟩ = some v :=
  (World.cell?_of_block (w := w) (a := ⟨b, o, none⟩) (k.block b (World.block_lt_of_cell? w _ hc) hd)).trans hc

/-- v is a row of the call's own, in a block from lo on and below hi -/
structure OW (w : World) (lo hi : Nat) (E : TypeId) (size : Nat) (v : Value) (n : Nat) (cells : List Value) : Prop where
  own : w.ownsRow lo E size v n cells
  up : ∀ b, v.ownBlock = some b → b < hi
  top : hi ≤ w.heap.size
theorem OW.of {w : World} {lo : Nat} {E : TypeId} {size n : Nat} {v : Value} {cells : List Value} (h : w.ownsRow lo E size v n cells) : OW w lo w.heap.size E size v n cells :=
  ⟨h, fun b hb => (h.lt b hb).2, Nat.le_refl _⟩
theorem OW.only {w w' : World} {lo hi lo' hi' : Nat} {E : TypeId} {size n : Nat} {v : Value} {cells : List Value} (h : OW w lo hi E size v n cells) (k : Only lo' hi' w w') (hd : hi ≤ lo' ∨ hi' ≤ lo) : OW w' lo hi E size v n cells := by
  refine ⟨?_, h.up, Nat.le_trans h.top k.size⟩
  obtain ⟨h1, h2⟩ := h.own
  refine ⟨h1, ?_⟩
  rcases h2 with h2 | ⟨g, cap, cur, hv, hg, hh, r⟩
  · exact .inl h2
  · refine .inr ⟨g, cap, cur, hv, hg, ?_, r⟩
    have hu := h.up g (by rw [hv]; rfl)
    exact (k.block g (Nat.lt_of_lt_of_le hu h.top) (by omega)).trans hh
theorem OW.to {w w' : World} {lo hi : Nat} {E : TypeId} {size n : Nat} {v : Value} {cells : List Value} (h : OW w lo hi E size v n cells) (k : Below w.heap.size w w') : OW w' lo hi E size v n cells :=
  h.only (only_of k w.heap.size w.heap.size) (.inl h.top)
theorem OW.form {w : World} {lo hi : Nat} {E : TypeId} {size n : Nat} {v : Value} {cells : List Value} (h : OW w lo hi E size v n cells) :
    ∃ A c, v = .slice A n c ∧ ((A = none ∧ n = 0 ∧ c = 0) ∨ ∃ g cur, A = some ⟨g, 0, none⟩ ∧ lo ≤ g ∧ g < hi ∧ BK w g cur E ∧ n ≤ c ∧ c ≤ 9223372036854775807 ∧ cur.size = c * size) := by
  rcases h.own.2 with ⟨rfl, hn⟩ | ⟨g, cap, cur, rfl, hb, hg, hle, hm, hsz, -⟩
  · exact ⟨none, 0, by rw [hn], .inl ⟨rfl, hn, rfl⟩⟩
  · exact ⟨_, cap, rfl, .inr ⟨g, cur, rfl, hb, h.up g rfl, hg, hle, by simpa [maxLen] using hm, hsz⟩⟩
/-- the numbers k, k + 1, .. -/
def mkI (k : Int) (m : Nat) : List Int := (List.range m).map fun (j : Nat) => k + (j : Int)
theorem mkI_length (k : Int) (m : Nat) : (mkI k m).length = m := by simp [mkI]
theorem mkI_get {k : Int} {m j : Nat} (h : j < m) : ik (mkI k m) j = k + j := by simp [mkI, ik, h]
theorem OW.marked {w : World} {g lo hi : Nat} {E : TypeId} {size n c : Nat} {cur : Array Value} {k : Int} (h : BK w g cur E) (h1 : lo ≤ g) (h2 : g < hi) (ht : hi ≤ w.heap.size) (hn : n ≤ c) (hm : c ≤ 9223372036854775807) (hs : cur.size = c * size)
    (hall : ∀ j, j < n * size → cur[j]? = some (.int .i64 (k + (j : Int)))) : OW w lo hi E size (.slice (some ⟨g, 0, none⟩) n c) n (icells (mkI k (n * size))) := by
  refine ⟨⟨by rw [icells_length, mkI_length], .inr ⟨g, c, cur, rfl, h1, h, hn, by simpa [maxLen] using hm, hs, ?_⟩⟩, fun b hb => ?_, ht⟩
  · refine take_eq_of (by rw [icells_length, mkI_length]) (fun j u hu => ?_)
    have hj : j < n * size := by
      have := (List.getElem?_eq_some_iff.1 hu).1
      rwa [icells_length, mkI_length] at this
    rw [icells_get (by rw [mkI_length]; exact hj), mkI_get hj] at hu
    rw [Array.getElem?_toList, hall j hj]
    exact hu
  · have : g = b := by simpa [Value.ownBlock] using hb
    omega
theorem OW.nil (w : World) (lo hi : Nat) (E : TypeId) (size : Nat) (ht : hi ≤ w.heap.size) : OW w lo hi E size (.slice none 0 0) 0 [] := ⟨w.ownsRow_nil lo E size, fun b hb => by simp [Value.ownBlock] at hb, ht⟩
theorem OW.readsI {w : World} {lo hi : Nat} {E : TypeId} {v : Value} {xs : List Int} (h : OW w lo hi E 1 v xs.length (icells xs)) : ∃ A c, v = .slice A xs.length c ∧ RI w A xs ∧ xs.length ≤ c := OI.reads h.own
theorem OW.readsT {w : World} {lo hi : Nat} {E : TypeId} {v : Value} {ts : List T4} (h : OW w lo hi E 4 v ts.length (tcells ts)) : ∃ A c, v = .slice A ts.length c ∧ RT w A ts ∧ ts.length ≤ c := OT.reads h.own
/-- flat cells of a row of the call's own -/
theorem OW.cell {w : World} {lo hi : Nat} {E : TypeId} {size n c : Nat} {g : Nat} {cells : List Value} (h : OW w lo hi E size (.slice (some ⟨g, 0, none⟩) n c) n cells) {j : Nat} {u : Value} (hj : cells[j]? = some u) : w.cell? ⟨g, j, none⟩ = some u := own_cell h.own hj
theorem rt_of {w : World} {lo hi : Nat} {E : TypeId} {A : Option Addr} {n c : Nat} {ts : List T4} (h : OW w lo hi E 4 (.slice A n c) n (tcells ts)) (hn : n = ts.length) : RT w A ts := by
  subst hn
  obtain ⟨A', c', e, hr, -⟩ := h.readsT
  injection e with e1 e2 e3
  subst e1; exact hr
theorem ri_of {w : World} {lo hi : Nat} {E : TypeId} {A : Option Addr} {n c : Nat} {xs : List Int} (h : OW w lo hi E 1 (.slice A n c) n (icells xs)) (hn : n = xs.length) : RI w A xs := by
  subst hn
  obtain ⟨A', c', e, hr, -⟩ := h.readsI
  injection e with e1 e2 e3
  subst e1; exact hr
theorem le_of {w : World} {lo hi : Nat} {E : TypeId} {size : Nat} {A : Option Addr} {n c : Nat} {cells : List Value} (h : OW w lo hi E size (.slice A n c) n cells) : n ≤ c := by
  obtain ⟨A', c', e, hf⟩ := h.form
  injection e with e1 e2 e3
  subst e3
  rcases hf with ⟨-, h0, -⟩ | ⟨g, cur, -, -, -, -, hle, -⟩
  · omega
  · exact hle

/-! ### append of one element to a row of the call's own -/
section
variable {P : Program} {ops : Array Oper} {rest : List Oper} {o : Oper} {a : Act} {Q : Exit → Act → World → Prop}
theorem app_cells {W : World} (base : Nat) (hgd : o.guard = none) (s x : Operand) (t e : TypeId) (z : Value) (size bytes : Nat)
    (ho : o.op = .call { callee := .builtin .append, args := #[s, x], argTypes := #[t, t] }) (ht : P.underlying t = some (.slice e))
    (hinfo : (P.info? e).map (fun i => (i.zero, i.size, i.bytes)) = some (some z, size, bytes)) (hz : z.cells.size = size) (hsz : 0 < size) (hb0 : 0 < bytes)
    (v : Value) (n : Nat) (cells : List Value) (news : Array Value) (hs : a.eval s = v) (hx : a.eval x = .slice (some ⟨W.heap.size, 0, none⟩) 1 1) (hn : news.size = size) (h1 : ∀ u ∈ news.toList, u.oneCell' = true)
    (HO : W.ownsRow base e size v n cells) (hbase : base ≤ W.heap.size) (hl : (n + 1) * bytes ≤ 140737488355328)
    (h : ∀ v1 w1, w1.ownsRow base e size v1 (n + 1) (cells ++ news.toList) → W.grownBy w1 v.ownBlock → (v1.ownBlock = v.ownBlock ∨ ∃ b, v1.ownBlock = some b ∧ W.heap.size ≤ b) → wpList P ops Q rest (a.put o.dst v1) w1) :
    wpList P ops Q (o :: rest) a (W.alloc (.cells news e)) := by
  obtain ⟨i0, hi, hzz⟩ := Option.map_eq_some_iff.1 hinfo
  simp only [Prod.mk.injEq] at hzz
  obtain ⟨hz0, hz1, hz2⟩ := hzz
  have hle : n + 1 ≤ 140737488355328 := Nat.le_trans (Nat.le_mul_of_pos_right _ hb0) hl
  refine wpList_append_own_at (W.alloc (.cells news e)) hgd s x t ho base e i0 z size bytes ht hi hz0 hz1 hz2 hz hsz v n cells hs (HO.alloc _) ⟨W.heap.size, 0, none⟩ 1 1 news.toList hx (by simp [hn])
    (fun j u hj => ?_) h1 (by simp only [maxLen]; omega) hl (by simp; omega) ?_
  · rw [add_none]
    exact (BK.new W news e).cell (by simpa using hj)
  · intro v1 w1 hown hg _ hat
    refine h v1 w1 hown ?_ ?_
    · exact ⟨hg.os, hg.tape, hg.output, Nat.le_trans (by simp) hg.size, fun i hi hne => (hg.block i (by simp; omega) hne).trans (Below.heap_alloc _ _ _ hi)⟩
    · rcases hat with hat | hat
      · exact .inl hat
      · exact .inr ⟨_, hat, by simp⟩
theorem app_int {W : World} (base : Nat) (hgd : o.guard = none) (s x : Operand) (t e : TypeId)
    (ho : o.op = .call { callee := .builtin .append, args := #[s, x], argTypes := #[t, t] }) (ht : P.underlying t = some (.slice e))
    (hinfo : (P.info? e).map (fun i => (i.zero, i.size, i.bytes)) = some (some (.int .i64 0), 1, 8))
    (v : Value) (xs : List Int) (y : Int) (hs : a.eval s = v) (hx : a.eval x = .slice (some ⟨W.heap.size, 0, none⟩) 1 1)
    (HO : OI W base e v xs) (hbase : base ≤ W.heap.size) (hl : xs.length + 1 ≤ 1000000000000)
    (h : ∀ v1 w1, OI w1 base e v1 (xs ++ [y]) → W.grownBy w1 v.ownBlock → (v1.ownBlock = v.ownBlock ∨ ∃ b, v1.ownBlock = some b ∧ W.heap.size ≤ b) → wpList P ops Q rest (a.put o.dst v1) w1) :
    wpList P ops Q (o :: rest) a (W.alloc (.cells #[.int .i64 y] e)) :=
  app_cells base hgd s x t e (.int .i64 0) 1 8 ho ht hinfo rfl (by decide) (by decide) v xs.length (icells xs) #[.int .i64 y] hs hx rfl (by simp [Value.oneCell']) HO hbase (by omega)
    fun v1 w1 hown hg hat => h v1 w1 (by simpa [OI, icells] using hown) hg hat
theorem app_tile {W : World} (base : Nat) (hgd : o.guard = none) (s x : Operand) (t e : TypeId)
    (ho : o.op = .call { callee := .builtin .append, args := #[s, x], argTypes := #[t, t] }) (ht : P.underlying t = some (.slice e))
    (hinfo : (P.info? e).map (fun i => (i.zero, i.size, i.bytes)) = some (some (.agg #[.int .i64 0, .int .i64 0, .int .i64 0, .int .i64 0]), 4, 32))
    (v : Value) (ts : List T4) (y : T4) (hs : a.eval s = v) (hx : a.eval x = .slice (some ⟨W.heap.size, 0, none⟩) 1 1)
    (HO : OT W base e v ts) (hbase : base ≤ W.heap.size) (hl : ts.length + 1 ≤ 1000000000000)
    (h : ∀ v1 w1, OT w1 base e v1 (ts ++ [y]) → W.grownBy w1 v.ownBlock → (v1.ownBlock = v.ownBlock ∨ ∃ b, v1.ownBlock = some b ∧ W.heap.size ≤ b) → wpList P ops Q rest (a.put o.dst v1) w1) :
    wpList P ops Q (o :: rest) a (W.alloc (.cells y.arr e)) :=
  app_cells base hgd s x t e _ 4 32 ho ht hinfo rfl (by decide) (by decide) v ts.length (tcells ts) y.arr hs hx rfl (by simp [T4.arr, Value.oneCell']) HO hbase (by omega)
    fun v1 w1 hown hg hat => h v1 w1 (by simpa [OT, tcells_snoc] using hown) hg hat
/-- a region that draws its order: n operations that only read, then the others in the order of the text -/
theorem wp_region_tail {id : Nat} {w : World} {l : List Oper} (n : Nat) (hm : P.follows .mixedOrders = true) (hB : Region.lexTailB .any l.toArray n = true)
    (h : wpStill P l.toArray w.drew (fun a' => wpList P l.toArray Q (l.drop n) a' w.drew) (l.take n) a) : (Code.region id l.toArray true).wp P Q a w := wp_region_still_tail n hm hB h
end
theorem grown_below {w0 w w' : World} {row : Option Nat} (h : Below w0.heap.size w0 w) (hg : w.grownBy w' row) (hr : ∀ b, row = some b → w0.heap.size ≤ b) : Below w0.heap.size w0 w' :=
  h.grown hg h.size hr
theorem own_lo {w : World} {base : Nat} {E : TypeId} {size n : Nat} {v : Value} {cells : List Value} (h : w.ownsRow base E size v n cells) : ∀ b, v.ownBlock = some b → base ≤ b := fun b hb => (h.lt b hb).1
theorem BK.grown {w w' : World} {b : Nat} {C : Array Value} {E : TypeId} {row : Option Nat} (h : BK w b C E) (hg : w.grownBy w' row) (hne : some b ≠ row) : BK w' b C E := (hg.block b h.lt hne).trans h
theorem BK.below_own {w w' : World} {b base : Nat} {C : Array Value} {E e : TypeId} {size n : Nat} {v : Value} {cells : List Value} (h : BK w b C E) (hg : w.grownBy w' v.ownBlock) (ho : w.ownsRow base e size v n cells) (hb : b < base) : BK w' b C E :=
  h.grown hg fun e => by have := own_lo ho b e.symm; omega
theorem OI.nil (w : World) (base : Nat) (E : TypeId) : OI w base E (.slice none 0 0) [] := w.ownsRow_nil base E 1
theorem OI.lit0 (w : World) (base : Nat) (E : TypeId) (hb : base ≤ w.heap.size) : OI (w.alloc (.cells #[] E)) base E (.slice (some ⟨w.heap.size, 0, none⟩) 0 0) [] := by
  have h := OI.of_block (BK.new w #[] E) (base := base) (xs := []) (cap := 0) hb rfl (Nat.le_refl _) (by omega) (fun k hk => by simp at hk)
  simpa using h
theorem OT.empty {w : World} {b base : Nat} {E : TypeId} (h : BK w b #[] E) (hb : base ≤ b) : OT w base E (.slice (some ⟨b, 0, none⟩) 0 0) [] := by
  have h := OT.of_block h (base := base) (ts := []) (cap := 0) hb rfl (Nat.le_refl _) (by omega) (fun k hk => by simp at hk)
  simpa using h
theorem OI.empty {w : World} {b base : Nat} {E : TypeId} (h : BK w b #[] E) (hb : base ≤ b) : OI w base E (.slice (some ⟨b, 0, none⟩) 0 0) [] := by
  have h := OI.of_block h (base := base) (xs := []) (cap := 0) hb rfl (Nat.le_refl _) (by omega) (fun k hk => by simp at hk)
  simpa using h
theorem OT.lit0 (w : World) (base : Nat) (E : TypeId) (hb : base ≤ w.heap.size) : OT (w.alloc (.cells #[] E)) base E (.slice (some ⟨w.heap.size, 0, none⟩) 0 0) [] := by
  have h := OT.of_block (BK.new w #[] E) (base := base) (ts := []) (cap := 0) hb rfl (Nat.le_refl _) (by omega) (fun k hk => by simp at hk)
  simpa using h
end Go.Proofs.YtbcnddeelefomaaDoor

/-
  Words: append where the row of one element lies behind other new blocks; an end of three values.
-/
namespace Go.Proofs.YtbcnddeelefomaaDoor
open Go Go.RowKit Go.Proofs
set_option linter.unusedVariables false
set_option linter.unusedSimpArgs false
theorem new_drew (w : World) (C : Array Value) (E : TypeId) : BK (w.alloc (.cells C E)).drew w.heap.size C E ∧ Below w.heap.size w (w.alloc (.cells C E)).drew ∧ (w.alloc (.cells C E)).drew.heap.size = w.heap.size + 1 :=
  ⟨(BK.new w C E).below (Below.refl _ _).drew (BK.new w C E).lt, ((Below.refl _ _).alloc (Nat.le_refl _) _).drew, by show (w.alloc (.cells C E)).heap.size = _; simp⟩
section
variable {P : Program} {ops : Array Oper} {rest : List Oper} {o : Oper} {a : Act} {Q : Exit → Act → World → Prop}
theorem app_int2 {W : World} (base : Nat) (hgd : o.guard = none) (s x : Operand) (t e : TypeId)
    (ho : o.op = .call { callee := .builtin .append, args := #[s, x], argTypes := #[t, t] }) (ht : P.underlying t = some (.slice e))
    (hinfo : (P.info? e).map (fun i => (i.zero, i.size, i.bytes)) = some (some (.int .i64 0), 1, 8))
    (v : Value) (xs : List Int) (y : Int) (hs : a.eval s = v) {B : Nat} (hB : B = W.heap.size) (hx : a.eval x = .slice (some ⟨B, 0, none⟩) 1 1)
    (HO : OI W base e v xs) (hbase : base ≤ W.heap.size) (hl : xs.length + 1 ≤ 1000000000000)
    (h : ∀ v1 w1, OI w1 base e v1 (xs ++ [y]) → W.grownBy w1 v.ownBlock → (v1.ownBlock = v.ownBlock ∨ ∃ b, v1.ownBlock = some b ∧ W.heap.size ≤ b) → wpList P ops Q rest (a.put o.dst v1) w1) :
    wpList P ops Q (o :: rest) a (W.alloc (.cells #[.int .i64 y] e)) := by
  subst hB
  exact app_int base hgd s x t e ho ht hinfo v xs y hs hx HO hbase hl h
theorem app_tile2 {W : World} (base : Nat) (hgd : o.guard = none) (s x : Operand) (t e : TypeId)
    (ho : o.op = .call { callee := .builtin .append, args := #[s, x], argTypes := #[t, t] }) (ht : P.underlying t = some (.slice e))
    (hinfo : (P.info? e).map (fun i => (i.zero, i.size, i.bytes)) = some (some (.agg #[.int .i64 0, .int .i64 0, .int .i64 0, .int .i64 0]), 4, 32))
    (v : Value) (ts : List T4) (y : T4) (hs : a.eval s = v) {B : Nat} (hB : B = W.heap.size) (hx : a.eval x = .slice (some ⟨B, 0, none⟩) 1 1)
    (HO : OT W base e v ts) (hbase : base ≤ W.heap.size) (hl : ts.length + 1 ≤ 1000000000000)
    (h : ∀ v1 w1, OT w1 base e v1 (ts ++ [y]) → W.grownBy w1 v.ownBlock → (v1.ownBlock = v.ownBlock ∨ ∃ b, v1.ownBlock = some b ∧ W.heap.size ≤ b) → wpList P ops Q rest (a.put o.dst v1) w1) :
    wpList P ops Q (o :: rest) a (W.alloc (.cells y.arr e)) := by
  subst hB
  exact app_tile base hgd s x t e ho ht hinfo v ts y hs hx HO hbase hl h
/-- append of one number at a step of a region that draws its order -/
theorem step_int {W : World} {K : Act → World → Prop} {Q : Exit → Act → World → Prop} {E : Prop} (base : Nat) (hgd : o.guard = none) (s x : Operand) (t e : TypeId)
    (ho : o.op = .call { callee := .builtin .append, args := #[s, x], argTypes := #[t, t] }) (ht : P.underlying t = some (.slice e))
    (hinfo : (P.info? e).map (fun i => (i.zero, i.size, i.bytes)) = some (some (.int .i64 0), 1, 8))
    (v : Value) (xs : List Int) (y : Int) (hs : a.eval s = v) {B : Nat} (hB : BK W B #[.int .i64 y] e) (hx : a.eval x = .slice (some ⟨B, 0, none⟩) 1 1)
    (HO : OI W base e v xs) (hbase : base ≤ W.heap.size) (hl : xs.length + 1 ≤ 1000000000000)
    (h : ∀ v1 w1, OI w1 base e v1 (xs ++ [y]) → W.grownBy w1 v.ownBlock → (v1.ownBlock = v.ownBlock ∨ ∃ b, v1.ownBlock = some b ∧ W.heap.size ≤ b) → K (a.put o.dst v1) w1) :
    if Region.wanted o (yielded ops a.tmps) = true then Oper.wp P o a W K Q else E := by
  have hw : Region.wanted o (yielded ops a.tmps) = true := by simp [Region.wanted, hgd]
  rw [if_pos hw]
  obtain ⟨i0, hi, hzz⟩ := Option.map_eq_some_iff.1 hinfo
  simp only [Prod.mk.injEq] at hzz
  obtain ⟨hz0, hz1, hz2⟩ := hzz
  obtain ⟨v', w', hr, h2, h3, h4, h5⟩ := run_append_own_at (P := P) W base t o.type e i0 (.int .i64 0) 1 8 ht hi hz0 hz1 hz2 rfl (by decide) v xs.length (icells xs) HO ⟨B, 0, none⟩ 1 1 [.int .i64 y] rfl
    (fun j u hj => by rw [add_none]; exact hB.cell (by simpa using hj)) (by simp [Value.oneCell']) (by simp only [maxLen]; omega) (by omega) hbase
  unfold Oper.wp execOp
  simp only [ho, resolve, invoke, builtin, Sem.run_bind, Sem.run_pure, Result.andThen_ok, List.map_toArray, List.map_cons, List.map_nil, hs, hx, hr]
  exact h v' w' (by simpa [OI, icells] using h2) h3 (h5.imp id fun e => ⟨_, e, Nat.le_refl _⟩)
end
end Go.Proofs.YtbcnddeelefomaaDoor

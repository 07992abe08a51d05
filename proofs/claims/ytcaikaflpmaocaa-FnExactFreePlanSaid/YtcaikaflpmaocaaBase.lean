/-
  Words for the walks: worlds that have grown, regions that draw their order, tiles in memory, blocks of the call's own.
-/
import Derived.WalkKit
import Derived.Below
import Derived.Handy
import Derived.Outline
import Derived.Lib.Hide
import Derived.Deep.QuietTactic
import Derived.BigQuiet
import Derived.Shelf.Abstract
namespace Go.Proofs.Ytcaikaflpmaocaa
open Go Go.RowKit Go.Proofs
set_option linter.unusedVariables false
set_option linter.unusedSimpArgs false
structure GP where
  d : Nat
  os : Array Obj
deriving Inhabited
def gro (w : World) (p : GP) : World := { w with heap := w.heap ++ p.os, drawn := p.d }
theorem gro_block (w : World) (p : GP) {b : Nat} (h : b < w.heap.size) : (gro w p).heap[b]? = w.heap[b]? := by
  simp [gro, Array.getElem?_append, h]
@[go_sem] theorem gro_cell (w : World) (p : GP) (b o : Nat) (h : b < w.heap.size) : (gro w p).cell? ⟨b, o, none⟩ = w.cell? ⟨b, o, none⟩ := by
  simp only [World.cell?, gro_block w p h]
@[go_sem] theorem gro_frozen (w : World) (p : GP) (b o : Nat) (h : b < w.heap.size) : (gro w p).frozen? ⟨b, o, none⟩ = w.frozen? ⟨b, o, none⟩ := by
  simp only [World.frozen?, gro_block w p h]
theorem gro_below (w : World) (p : GP) : Below w.heap.size w (gro w p) := ⟨rfl, rfl, rfl, by simp [gro], fun _ h => gro_block w p h⟩
theorem below_gro {w w' : World} (h : Below w.heap.size w w') : ∃ p, w' = gro w p := by
  refine ⟨⟨w'.drawn, w'.heap.extract w.heap.size w'.heap.size⟩, ?_⟩
  have e : w.heap ++ w'.heap.extract w.heap.size w'.heap.size = w'.heap := by
    apply Array.ext_getElem?
    intro i
    rw [Array.getElem?_append]
    split
    · rename_i hi; exact (h.block i hi).symm
    · rename_i hi
      have hs := h.size
      rw [Array.getElem?_extract]
      simp only [Nat.min_self]
      by_cases h2 : i - w.heap.size < w'.heap.size - w.heap.size
      · rw [if_pos h2]; congr 1; omega
      · rw [if_neg h2, Array.getElem?_eq_none (by omega)]
  cases w' with
  | mk hp tp dr os ou =>
    simp only [gro] at *
    have h1 := h.os; have h2 := h.tape; have h3 := h.output
    simp only at h1 h2 h3
    rw [e, h1, h2, h3]
theorem gro_gro (w : World) (p : GP) {w' : World} (h : Below (gro w p).heap.size (gro w p) w') : ∃ q, w' = gro w q :=
  below_gro ((gro_below w p).trans (h.mono (gro_below w p).size))
theorem quiet_call {P : Program} {f : FuncId} {args : Array Value} {w : World} {p : GP} {v : Value}
    (h : Calls P f args (gro w p) fun e w' => e = .returned v ∧ Below (gro w p).heap.size (gro w p) w') : Calls P f args (gro w p) fun e w'' => e = .returned v ∧ ∃ q, w'' = gro w q :=
  h.mono fun _ _ ⟨he, hb⟩ => ⟨he, gro_gro w p hb⟩
theorem wpQuiet_mono {P : Program} {ops : Array Oper} {C : World → Prop} {Q Q' : Act → Prop} (hq : ∀ a, Q a → Q' a) :
    ∀ (l : List Oper) (a : Act), wpQuiet P ops C Q l a → wpQuiet P ops C Q' l a := by
  intro l
  induction l with
  | nil => intro a h; exact hq _ h
  | cons o rest ih =>
    intro a h
    simp only [wpQuiet] at h ⊢
    by_cases hw : Region.wanted o (yielded ops a.tmps) = true
    · rw [if_pos hw] at h ⊢
      obtain ⟨v, h1, h2⟩ := h
      exact ⟨v, h1, ih _ h2⟩
    · rw [if_neg hw] at h ⊢
      exact ih _ h
theorem wp_region_gro {P : Program} {id : Nat} {Q : Exit → Act → World → Prop} {a : Act} {w : World} {l : List Oper} (hm : P.follows .mixedOrders = true) (hB : Region.lexB .any l.toArray = true)
    (h : wpQuiet P l.toArray (fun w' => ∃ p : GP, w' = gro w p) (fun a' => ∀ w', Below w.heap.size w w' → Q .normal a' w') l a) : (Code.region id l.toArray true).wp P Q a w := by
  refine wp_region_quiet (C := fun w' => ∃ p : GP, w' = gro w p) hm hB ⟨⟨w.drawn + 1, #[]⟩, by simp [gro]⟩ ?_
  exact wpQuiet_mono (fun a' h w' ⟨p, hp⟩ => by subst hp; exact h _ (gro_below w p)) _ _ (by simpa using h)
structure T4 where
  a : Int
  b : Int
  c : Int
  d : Int
deriving DecidableEq, Inhabited
def T4.get (t : T4) (k : Nat) : Int := if k = 0 then t.a else if k = 1 then t.b else if k = 2 then t.c else t.d
def T4.arr (t : T4) : Array Value := #[.int .i64 (t.get 0), .int .i64 (t.get 1), .int .i64 (t.get 2), .int .i64 (t.get 3)]
theorem T4.cell (t : T4) (k : Nat) (h : k < 4) : t.arr[k]? = some (.int .i64 (t.get k)) := by
  match k, h with
  | 0, _ => rfl
  | 1, _ => rfl
  | 2, _ => rfl
  | 3, _ => rfl
theorem ret_bool {a b : Bool} (h : a = b) : Ending.returned (.bool a) = .returned (.bool b) := by rw [h]
def tk (ts : List T4) (k : Nat) : T4 := ts.getD k default
def RT (w : World) (A : Option Addr) (ts : List T4) : Prop :=
  ∀ k, k < ts.length → ∃ b o, A = some ⟨b, o, none⟩ ∧ b < w.heap.size ∧
    w.cell? ⟨b, o + k * 4, none⟩ = some (.int .i64 ((tk ts k).get 0)) ∧ w.cell? ⟨b, o + k * 4 + 1, none⟩ = some (.int .i64 ((tk ts k).get 1)) ∧
    w.cell? ⟨b, o + k * 4 + 2, none⟩ = some (.int .i64 ((tk ts k).get 2)) ∧ w.cell? ⟨b, o + k * 4 + 3, none⟩ = some (.int .i64 ((tk ts k).get 3))
theorem RT.below {w w' : World} {A : Option Addr} {ts : List T4} (h : RT w A ts) (hb : Below w.heap.size w w') : RT w' A ts := by
  intro k hk
  obtain ⟨b, o, e, hlt, h0, h1, h2, h3⟩ := h k hk
  refine ⟨b, o, e, Nat.lt_of_lt_of_le hlt hb.size, ?_, ?_, ?_, ?_⟩
  · exact (hb.cell (p := ⟨b, _, none⟩) hlt).trans h0
  · exact (hb.cell (p := ⟨b, _, none⟩) hlt).trans h1
  · exact (hb.cell (p := ⟨b, _, none⟩) hlt).trans h2
  · exact (hb.cell (p := ⟨b, _, none⟩) hlt).trans h3
def BK (w : World) (b : Nat) (C : Array Value) (E : TypeId) : Prop := w.heap[b]? = some (.cells C E (0, 0))
theorem BK.lt {w : World} {b : Nat} {C : Array Value} {E : TypeId} (h : BK w b C E) : b < w.heap.size := (Array.getElem?_eq_some_iff.1 h).1
theorem BK.new (w : World) (C : Array Value) (E : TypeId) : BK (w.alloc (.cells C E)) w.heap.size C E := by
  show (w.heap.push _)[w.heap.size]? = _
  simp
theorem BK.alloc {w : World} {b : Nat} {C : Array Value} {E : TypeId} (h : BK w b C E) (o : Obj) : BK (w.alloc o) b C E := (Below.heap_alloc w o b h.lt).trans h
theorem BK.below {w w' : World} {b : Nat} {C : Array Value} {E : TypeId} {B : Nat} (h : BK w b C E) (hb : Below B w w') (hB : b < B) : BK w' b C E := (hb.block b hB).trans h
theorem BK.cell {w : World} {b : Nat} {C : Array Value} {E : TypeId} (h : BK w b C E) {k : Nat} {v : Value} (hc : C[k]? = some v) : w.cell? ⟨b, k, none⟩ = some v := by
  have h' : w.heap[b]? = some (.cells C E (0, 0)) := h
  simp [World.cell?, h', hc]
theorem BK.frozen {w : World} {b : Nat} {C : Array Value} {E : TypeId} (h : BK w b C E) (k : Nat) : w.frozen? ⟨b, k, none⟩ = false := by
  have h' : w.heap[b]? = some (.cells C E (0, 0)) := h
  simp [World.frozen?, h']
theorem BK.set {w : World} {b : Nat} {C : Array Value} {E : TypeId} (h : BK w b C E) (k : Nat) (v : Value) : BK (w.setCell ⟨b, k, none⟩ v) b (C.setIfInBounds k v) E := by
  have h' : w.heap[b]? = some (.cells C E (0, 0)) := h
  simp [BK, World.setCell, Array.getElem?_modify, h']
def ik (xs : List Int) (k : Nat) : Int := xs.getD k 0
def RI (w : World) (A : Option Addr) (xs : List Int) : Prop :=
  ∀ k, k < xs.length → ∃ b o, A = some ⟨b, o, none⟩ ∧ b < w.heap.size ∧ w.cell? ⟨b, o + k, none⟩ = some (.int .i64 (ik xs k))
theorem RI.below {w w' : World} {A : Option Addr} {xs : List Int} (h : RI w A xs) (hb : Below w.heap.size w w') : RI w' A xs := by
  intro k hk
  obtain ⟨b, o, e, hlt, h0⟩ := h k hk
  exact ⟨b, o, e, Nat.lt_of_lt_of_le hlt hb.size, (hb.cell (p := ⟨b, _, none⟩) hlt).trans h0⟩
theorem below_to {w w1 w2 : World} (h : Below w.heap.size w w1) (h' : Below w1.heap.size w1 w2) : Below w.heap.size w w2 := h.trans (h'.mono h.size)
theorem add_none (g j : Nat) : (⟨g, 0, none⟩ : Addr).add j = ⟨g, j, none⟩ := by unfold Addr.add; split <;> simp_all
def tcells (ts : List T4) : List Value := ts.flatMap fun t => t.arr.toList
theorem tcells_length (ts : List T4) : (tcells ts).length = ts.length * 4 := by
  induction ts with
  | nil => rfl
  | cons t ts ih => simp only [tcells, List.flatMap_cons, List.length_append, List.length_cons] at *; rw [ih]; simp [T4.arr]; omega
theorem tcells_get {ts : List T4} {k j : Nat} (hk : k < ts.length) (hj : j < 4) : (tcells ts)[k * 4 + j]? = some (.int .i64 ((tk ts k).get j)) := by
  induction ts generalizing k with
  | nil => simp at hk
  | cons t ts ih =>
    simp only [tcells, List.flatMap_cons]
    have hl : t.arr.toList.length = 4 := by simp [T4.arr]
    cases k with
    | zero =>
      rw [List.getElem?_append_left (by omega)]
      simpa [tk] using t.cell j hj
    | succ k =>
      rw [List.getElem?_append_right (by omega), hl, show (k + 1) * 4 + j - 4 = k * 4 + j by omega]
      have := ih (k := k) (by simpa using hk)
      simpa [tcells, tk] using this
def icells (xs : List Int) : List Value := xs.map (.int .i64)
theorem icells_length (xs : List Int) : (icells xs).length = xs.length := by simp [icells]
theorem icells_get {xs : List Int} {k : Nat} (hk : k < xs.length) : (icells xs)[k]? = some (.int .i64 (ik xs k)) := by
  simp [icells, ik, List.getElem?_eq_getElem hk]
def OT (w : World) (base : Nat) (E : TypeId) (v : Value) (ts : List T4) : Prop := w.ownsRow base E 4 v ts.length (tcells ts)
def OI (w : World) (base : Nat) (E : TypeId) (v : Value) (xs : List Int) : Prop := w.ownsRow base E 1 v xs.length (icells xs)
theorem own_cell {w : World} {base : Nat} {E : TypeId} {size n : Nat} {b cap : Nat} {xs : List Value} (h : w.ownsRow base E size (.slice (some ⟨b, 0, none⟩) n cap) n xs) {j : Nat} {u : Value} (hj : xs[j]? = some u) : w.cell? ⟨b, j, none⟩ = some u := by
  have := h.cells (g := b) rfl j u hj
  rwa [add_none] at this
theorem OT.reads {w : World} {base : Nat} {E : TypeId} {v : Value} {ts : List T4} (h : OT w base E v ts) : ∃ A c, v = .slice A ts.length c ∧ RT w A ts ∧ ts.length ≤ c := by
  rcases h.2 with ⟨rfl, hn⟩ | ⟨g, cap, cur, rfl, hb, hg, hle, _⟩
  · exact ⟨none, 0, by rw [hn], fun k hk => by omega, by omega⟩
  · refine ⟨_, cap, rfl, fun k hk => ⟨g, 0, rfl, (Array.getElem?_eq_some_iff.1 hg).1, ?_, ?_, ?_, ?_⟩, hle⟩
    · rw [Nat.zero_add]; exact own_cell h (by simpa using tcells_get hk (j := 0) (by omega))
    · rw [Nat.zero_add]; exact own_cell h (tcells_get hk (by omega))
    · rw [Nat.zero_add]; exact own_cell h (tcells_get hk (by omega))
    · rw [Nat.zero_add]; exact own_cell h (tcells_get hk (by omega))
theorem OI.reads {w : World} {base : Nat} {E : TypeId} {v : Value} {xs : List Int} (h : OI w base E v xs) : ∃ A c, v = .slice A xs.length c ∧ RI w A xs ∧ xs.length ≤ c := by
  rcases h.2 with ⟨rfl, hn⟩ | ⟨g, cap, cur, rfl, hb, hg, hle, _⟩
  · exact ⟨none, 0, by rw [hn], fun k hk => by omega, by omega⟩
  · refine ⟨_, cap, rfl, fun k hk => ⟨g, 0, rfl, (Array.getElem?_eq_some_iff.1 hg).1, ?_⟩, hle⟩
    rw [Nat.zero_add]; exact own_cell h (icells_get hk)
theorem own_to {w w' : World} {base : Nat} {E : TypeId} {size n : Nat} {v : Value} {xs : List Value} (h : w.ownsRow base E size v n xs) (hb : Below w.heap.size w w') : w'.ownsRow base E size v n xs :=
  h.kept (row := none) ⟨hb.os, hb.tape, hb.output, hb.size, fun i hi _ => hb.block i hi⟩ (by cases h' : v.ownBlock <;> simp)
theorem own_base {w : World} {base base' : Nat} {E : TypeId} {size n : Nat} {v : Value} {xs : List Value} (h : w.ownsRow base E size v n xs) (hb : base' ≤ base) : w.ownsRow base' E size v n xs := by
  obtain ⟨h1, h2⟩ := h
  refine ⟨h1, ?_⟩
  rcases h2 with h2 | ⟨g, cap, cur, hv, hg, r⟩
  · exact .inl h2
  · exact .inr ⟨g, cap, cur, hv, Nat.le_trans hb hg, r⟩
theorem OT.to {w w' : World} {base : Nat} {E : TypeId} {v : Value} {ts : List T4} (h : OT w base E v ts) (hb : Below w.heap.size w w') : OT w' base E v ts := own_to h hb
theorem OI.to {w w' : World} {base : Nat} {E : TypeId} {v : Value} {xs : List Int} (h : OI w base E v xs) (hb : Below w.heap.size w w') : OI w' base E v xs := own_to h hb
theorem take_eq_of {α : Type} {l xs : List α} {n : Nat} (hx : xs.length = n) (h : ∀ (j : Nat) (u : α), xs[j]? = some u → l[j]? = some u) : l.take n = xs := by
  apply List.ext_getElem?
  intro j
  rw [List.getElem?_take]
  split
  · rename_i hj
    obtain ⟨u, hu⟩ : ∃ u, xs[j]? = some u := ⟨_, List.getElem?_eq_getElem (by omega)⟩
    rw [hu, h j u hu]
  · rw [List.getElem?_eq_none (by omega)]
theorem OT.of_block {w : World} {b base : Nat} {C : Array Value} {E : TypeId} {ts : List T4} {cap : Nat} (h : BK w b C E) (hb : base ≤ b) (hc : C.size = cap * 4) (hl : ts.length ≤ cap) (hm : cap ≤ 9223372036854775807)
    (hall : ∀ k, k < ts.length → ∀ j, j < 4 → C[k * 4 + j]? = some (.int .i64 ((tk ts k).get j))) : OT w base E (.slice (some ⟨b, 0, none⟩) ts.length cap) ts := by
  refine ⟨tcells_length ts, .inr ⟨b, cap, C, rfl, hb, h, hl, by simpa [maxLen] using hm, hc, ?_⟩⟩
  refine take_eq_of (tcells_length ts) (fun j u hu => ?_)
  have hj : j < ts.length * 4 := by
    rw [← tcells_length ts]; exact (List.getElem?_eq_some_iff.1 hu).1
  have e : j = j / 4 * 4 + j % 4 := by omega
  rw [e, tcells_get (by omega) (by omega)] at hu
  rw [e, Array.getElem?_toList, hall _ (by omega) _ (by omega)]
  exact hu
theorem OI.of_block {w : World} {b base : Nat} {C : Array Value} {E : TypeId} {xs : List Int} {cap : Nat} (h : BK w b C E) (hb : base ≤ b) (hc : C.size = cap) (hl : xs.length ≤ cap) (hm : cap ≤ 9223372036854775807)
    (hall : ∀ k, k < xs.length → C[k]? = some (.int .i64 (ik xs k))) : OI w base E (.slice (some ⟨b, 0, none⟩) xs.length cap) xs := by
  refine ⟨by rw [icells_length, Nat.mul_one], .inr ⟨b, cap, C, rfl, hb, h, hl, by simpa [maxLen] using hm, by omega, ?_⟩⟩
  refine take_eq_of (by rw [icells_length, Nat.mul_one]) (fun j u hu => ?_)
  have hj : j < xs.length := by
    rw [← icells_length xs]; exact (List.getElem?_eq_some_iff.1 hu).1
  rw [icells_get hj] at hu
  rw [Array.getElem?_toList, hall _ hj]
  exact hu
def setT (C : Array Value) (i : Nat) (t : T4) : Array Value :=
  (((C.setIfInBounds i (.int .i64 (t.get 0))).setIfInBounds (i + 1) (.int .i64 (t.get 1))).setIfInBounds (i + 2) (.int .i64 (t.get 2))).setIfInBounds (i + 3) (.int .i64 (t.get 3))
theorem setT_in {C : Array Value} {i j : Nat} {t : T4} (h : i + 3 < C.size) (hj : j < 4) : (setT C i t)[i + j]? = some (.int .i64 (t.get j)) := by
  simp only [setT, Array.getElem?_setIfInBounds, Array.size_setIfInBounds]
  match j, hj with
  | 0, _ => rw [if_neg (by omega), if_neg (by omega), if_neg (by omega), if_pos (by omega), if_pos (by omega)]
  | 1, _ => rw [if_neg (by omega), if_neg (by omega), if_pos (by omega), if_pos (by omega)]
  | 2, _ => rw [if_neg (by omega), if_pos (by omega), if_pos (by omega)]
  | 3, _ => rw [if_pos (by omega), if_pos (by omega)]
theorem setT_out {C : Array Value} {i p : Nat} {t : T4} (h : p < i ∨ i + 4 ≤ p) : (setT C i t)[p]? = C[p]? := by
  simp only [setT, Array.getElem?_setIfInBounds]
  rw [if_neg (by omega), if_neg (by omega), if_neg (by omega), if_neg (by omega)]
theorem BK.setT {w : World} {b : Nat} {C : Array Value} {E : TypeId} (h : BK w b C E) (i : Nat) (t : T4) :
    BK ((((w.setCell ⟨b, i, none⟩ (.int .i64 (t.get 0))).setCell ⟨b, i + 1, none⟩ (.int .i64 (t.get 1))).setCell ⟨b, i + 2, none⟩ (.int .i64 (t.get 2))).setCell ⟨b, i + 3, none⟩ (.int .i64 (t.get 3))) b (setT C i t) E :=
  (((h.set i _).set (i + 1) _).set (i + 2) _).set (i + 3) _
def TilesIn (C : Array Value) (ts : List T4) (k : Nat) : Prop := ∀ k', k' < k → ∀ j, j < 4 → C[k' * 4 + j]? = some (.int .i64 ((tk ts k').get j))
theorem TilesIn.step {C : Array Value} {ts : List T4} {k : Nat} (h : TilesIn C ts k) (hk : k * 4 + 3 < C.size) : TilesIn (setT C (k * 4) (tk ts k)) ts (k + 1) := by
  intro k' hk' j hj
  by_cases e : k' = k
  · subst e; exact setT_in hk hj
  · rw [setT_out (by omega)]; exact h k' (by omega) j hj
theorem eq_of_ik {xs ys : List Int} (hl : xs.length = ys.length) (h : ∀ j, j < xs.length → ik xs j = ik ys j) : xs = ys := by
  apply List.ext_getElem hl
  intro j h1 h2
  have := h j h1
  simpa [ik, List.getElem?_eq_getElem h1, List.getElem?_eq_getElem h2] using this
theorem RT.cellj {w : World} {A : Option Addr} {ts : List T4} (h : RT w A ts) {k : Nat} (hk : k < ts.length) :
    ∃ b o, A = some ⟨b, o, none⟩ ∧ b < w.heap.size ∧ ∀ j, j < 4 → w.cell? ⟨b, o + k * 4 + j, none⟩ = some (.int .i64 ((tk ts k).get j)) := by
  obtain ⟨b, o, e, hb, h0, h1, h2, h3⟩ := h k hk
  refine ⟨b, o, e, hb, fun j hj => ?_⟩
  match j, hj with
  | 0, _ => exact h0
  | 1, _ => exact h1
  | 2, _ => exact h2
  | 3, _ => exact h3
end Go.Proofs.Ytcaikaflpmaocaa

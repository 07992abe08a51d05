/-
  Parts of the proof, in their order: Base.
-/
import Derived.WalkKit
import Derived.Below
import Derived.Handy
import Derived.Outline
import Derived.Lib.Hide
import Derived.Deep.QuietTactic
import Derived.BigQuiet
import Derived.Shelf.Abstract
/-
  Words for the walks: worlds that have grown, regions that draw their order, tiles in memory, blocks of the call's own.
-/
namespace Go.Proofs.YtbcnddeelefomaaDoor
open Go Go.RowKit Go.Proofs
set_option linter.unusedVariables false
set_option linter.unusedSimpArgs false

/-- What has been added to a world: new blocks, a count of draws. -/
structure GP where
  d : Nat
  os : Array Obj
deriving Inhabited
def gro (w : World) (p : GP) : World := { w with heap := w.heap ++ p.os, drawn := p.d }
theorem gro_block (w : World) (p : GP) {b : Nat} (h : b < w.heap.size) : (gro w p).heap[b]? = w.heap[b]? := by
  simp [gro, Array.getElem?_append, h]
@[go_sem] theorem gro_cell (w : World) (p : GP) (b o : Nat) (h : b < w.heap.size) : (gro w p).cell? ⟨b, o, none⟩ = w.cell? ⟨b, o, none⟩ := by
  simp only [World.cell?, gro_block w p h]
@[go_sem] theorem gro_frozen (w : World) (p : GP) (b o : Nat) (h : b < w.heap.size) : (gro w p).frozen? ⟨b, o, none⟩ = w.frozen? ⟨b, o, none⟩ := by
  simp only [World.frozen?, gro_block w p h]
theorem gro_below (w : World) (p : GP) : Below w.heap.size w (gro w p) := ⟨rfl, rfl, rfl, by simp [gro], fun _ h => gro_block w p h⟩
theorem below_gro {w w' : World} (h : Below w.heap.size w w') : ∃ p, w' = gro w p := by
  refine ⟨⟨w'.drawn, w'.heap.extract w.heap.size w'.heap.size⟩, ?_⟩
  have e : w.heap ++ w'.heap.extract w.heap.size w'.heap.size = w'.heap := by
    apply Array.ext_getElem?
    intro i
    rw [Array.getElem?_append]
    split
    · rename_i hi; exact (h.block i hi).symm
    · rename_i hi
      have hs := h.size
      rw [Array.getElem?_extract]
      simp only [Nat.min_self]
      by_cases h2 : i - w.heap.size < w'.heap.size - w.heap.size
      · rw [if_pos h2]; congr 1; omega
      · rw [if_neg h2, Array.getElem?_eq_none (by omega)]
  cases w' with
  | mk hp tp dr os ou =>
    simp only [gro] at *
    have h1 := h.os; have h2 := h.tape; have h3 := h.output
    simp only at h1 h2 h3
    rw [e, h1, h2, h3]
theorem gro_gro (w : World) (p : GP) {w' : World} (h : Below (gro w p).heap.size (gro w p) w') : ∃ q, w' = gro w q :=
  below_gro ((gro_below w p).trans (h.mono (gro_below w p).size))
/-- A callee's contract inside a region that draws. -/
theorem quiet_call {P : Program} {f : FuncId} {args : Array Value} {w : World} {p : GP} {v : Value}
    (h : Calls P f args (gro w p) fun e w' => e = .returned v ∧ Below (gro w p).heap.size (gro w p) w') : Calls P f args (gro w p) fun e w'' => e = .returned v ∧ ∃ q, w'' = gro w q :=
  h.mono fun _ _ ⟨he, hb⟩ => ⟨he, gro_gro w p hb⟩
theorem quiet_call0 {P : Program} {f : FuncId} {args : Array Value} {w : World} {p : GP} {v : Value}
    (h : Calls P f args (gro w p) fun e w' => e = .returned v ∧ gro w p = w') : Calls P f args (gro w p) fun e w'' => e = .returned v ∧ ∃ q, w'' = gro w q :=
  h.mono fun _ _ ⟨he, hb⟩ => ⟨he, p, hb.symm⟩
theorem wpQuiet_mono {P : Program} {ops : Array Oper} {C : World → Prop} {Q Q' : Act → Prop} (hq : ∀ a, Q a → Q' a) :
    ∀ (l : List Oper) (a : Act), wpQuiet P ops C Q l a → wpQuiet P ops C Q' l a := by
  intro l
  induction l with
  | nil => intro a h; exact hq _ h
  | cons o rest ih =>
    intro a h
    simp only [wpQuiet] at h ⊢
    by_cases hw : Region.wanted o (yielded ops a.tmps) = true
    · rw [if_pos hw] at h ⊢
      obtain ⟨v, h1, h2⟩ := h
      exact ⟨v, h1, ih _ h2⟩
    · rw [if_neg hw] at h ⊢
      exact ih _ h
theorem wp_region_gro {P : Program} {id : Nat} {Q : Exit → Act → World → Prop} {a : Act} {w : World} {l : List Oper} (hm : P.follows .mixedOrders = true) (hB : Region.lexB .any l.toArray = true)
    (h : wpQuiet P l.toArray (fun w' => ∃ p : GP, w' = gro w p) (fun a' => ∀ w', Below w.heap.size w w' → Q .normal a' w') l a) : (Code.region id l.toArray true).wp P Q a w := by
  refine wp_region_quiet (C := fun w' => ∃ p : GP, w' = gro w p) hm hB ⟨⟨w.drawn + 1, #[]⟩, by simp [gro]⟩ ?_
  exact wpQuiet_mono (fun a' h w' ⟨p, hp⟩ => by subst hp; exact h _ (gro_below w p)) _ _ (by simpa using h)

def inB (n lo hi : Int) : Bool := decide (lo ≤ n) && decide (n ≤ hi)
structure T4 where
  a : Int
  b : Int
  c : Int
  d : Int
deriving DecidableEq, Inhabited
def T4.get (t : T4) (k : Nat) : Int := if k = 0 then t.a else if k = 1 then t.b else if k = 2 then t.c else t.d
def T4.arr (t : T4) : Array Value := #[.int .i64 (t.get 0), .int .i64 (t.get 1), .int .i64 (t.get 2), .int .i64 (t.get 3)]
theorem T4.cell (t : T4) (k : Nat) (h : k < 4) : t.arr[k]? = some (.int .i64 (t.get k)) := by
  match k, h with
  | 0, _ => rfl
  | 1, _ => rfl
  | 2, _ => rfl
  | 3, _ => rfl
theorem T4.ext_get {t u : T4} (h : ∀ k, k < 4 → t.get k = u.get k) : t = u := by
  have h0 := h 0 (by omega); have h1 := h 1 (by omega); have h2 := h 2 (by omega); have h3 := h 3 (by omega)
  simp [T4.get] at h0 h1 h2 h3
  cases t; cases u; simp_all
theorem T4.fold (t : T4) : (#[.int .i64 (t.get 0), .int .i64 (t.get 1), .int .i64 (t.get 2), .int .i64 (t.get 3)] : Array Value) = t.arr := rfl

theorem ret_bool {a b : Bool} (h : a = b) : Ending.returned (.bool a) = .returned (.bool b) := by rw [h]
theorem ret_int {k : IntKind} {a b : Int} (h : a = b) : Ending.returned (.int k a) = .returned (.int k b) := by rw [h]

def tk (ts : List T4) (k : Nat) : T4 := ts.getD k default
/-- the tiles ts can be read from the slice's address A on -/
def RT (w : World) (A : Option Addr) (ts : List T4) : Prop :=
  ∀ k, k < ts.length → ∃ b o, A = some ⟨b, o, none⟩ ∧ b < w.heap.size ∧
    w.cell? ⟨b, o + k * 4, none⟩ = some (.int .i64 ((tk ts k).get 0)) ∧ w.cell? ⟨b, o + k * 4 + 1, none⟩ = some (.int .i64 ((tk ts k).get 1)) ∧
    w.cell? ⟨b, o + k * 4 + 2, none⟩ = some (.int .i64 ((tk ts k).get 2)) ∧ w.cell? ⟨b, o + k * 4 + 3, none⟩ = some (.int .i64 ((tk ts k).get 3))
theorem RT.below {w w' : World} {A : Option Addr} {ts : List T4} (h : RT w A ts) (hb : Below w.heap.size w w') : RT w' A ts := by
  intro k hk
  obtain ⟨b, o, e, hlt, h0, h1, h2, h3⟩ := h k hk
  refine ⟨b, o, e, Nat.lt_of_lt_of_le hlt hb.size, ?_, ?_, ?_, ?_⟩
  · exact (hb.cell (p := ⟨b, _, none⟩) hlt).trans h0
  · exact (hb.cell (p := ⟨b, _, none⟩) hlt).trans h1
  · exact (hb.cell (p := ⟨b, _, none⟩) hlt).trans h2
  · exact (hb.cell (p := ⟨b, _, none⟩) hlt).trans h3

/-- block b holds the cells C -/
def BK (w : World) (b : Nat) (C : Array Value) (E : TypeId) : Prop := w.heap[b]? = some (.cells C E (0, 0))
theorem BK.lt {w : World} {b : Nat} {C : Array Value} {E : TypeId} (h : BK w b C E) : b < w.heap.size := (Array.getElem?_eq_some_iff.1 h).1
theorem BK.new (w : World) (C : Array Value) (E : TypeId) : BK (w.alloc (.cells C E)) w.heap.size C E := by
  show (w.heap.push _)[w.heap.size]? = _
  simp
theorem BK.alloc {w : World} {b : Nat} {C : Array Value} {E : TypeId} (h : BK w b C E) (o : Obj) : BK (w.alloc o) b C E := (Below.heap_alloc w o b h.lt).trans h
theorem BK.below {w w' : World} {b : Nat} {C : Array Value} {E : TypeId} {B : Nat} (h : BK w b C E) (hb : Below B w w') (hB : b < B) : BK w' b C E := (hb.block b hB).trans h
theorem BK.cell {w : World} {b : Nat} {C : Array Value} {E : TypeId} (h : BK w b C E) {k : Nat} {v : Value} (hc : C[k]? = some v) : w.cell? ⟨b, k, none⟩ = some v := by
  have h' : w.heap[b]? = some (.cells C E (0, 0)) := h
  simp [World.cell?, h', hc]
theorem BK.frozen {w : World} {b : Nat} {C : Array Value} {E : TypeId} (h : BK w b C E) (k : Nat) : w.frozen? ⟨b, k, none⟩ = false := by
  have h' : w.heap[b]? = some (.cells C E (0, 0)) := h
  simp [World.frozen?, h']
theorem BK.set {w : World} {b : Nat} {C : Array Value} {E : TypeId} (h : BK w b C E) (k : Nat) (v : Value) : BK (w.setCell ⟨b, k, none⟩ v) b (C.setIfInBounds k v) E := by
  have h' : w.heap[b]? = some (.cells C E (0, 0)) := h
  simp [BK, World.setCell, Array.getElem?_modify, h']
theorem BK.set_ne {w : World} {b b' : Nat} {C : Array Value} {E : TypeId} (h : BK w b C E) (hne : b ≠ b') (k : Nat) (v : Value) : BK (w.setCell ⟨b', k, none⟩ v) b C E := by
  have h' : w.heap[b]? = some (.cells C E (0, 0)) := h
  simp only [BK, World.setCell, Array.getElem?_modify]
  rw [if_neg (fun e => hne e.symm)]; exact h'
/-- The world behind one, two, three new blocks under a name. -/
theorem name1 {P : Program} {c : Code} {Q : Exit → Act → World → Prop} {a : Act} {w : World} {C1 : Array Value} {E1 : TypeId}
    (h : ∀ W, BK W w.heap.size C1 E1 → W.heap.size = w.heap.size + 1 → Below w.heap.size w W → c.wp P Q a W) : c.wp P Q a (w.alloc (.cells C1 E1)) :=
  h _ (BK.new _ _ _) (by simp) ((Below.refl _ _).alloc (Nat.le_refl _) _)
theorem name2 {P : Program} {c : Code} {Q : Exit → Act → World → Prop} {a : Act} {w : World} {C1 C2 : Array Value} {E1 E2 : TypeId}
    (h : ∀ W, BK W w.heap.size C1 E1 → BK W (w.heap.size + 1) C2 E2 → W.heap.size = w.heap.size + 2 → Below w.heap.size w W → c.wp P Q a W) : c.wp P Q a ((w.alloc (.cells C1 E1)).alloc (.cells C2 E2)) :=
  h _ ((BK.new _ _ _).alloc _) (by simpa using BK.new (w.alloc (.cells C1 E1)) C2 E2) (by simp) (((Below.refl _ _).alloc (Nat.le_refl _) _).alloc (by simp) _)

def ik (xs : List Int) (k : Nat) : Int := xs.getD k 0
/-- the numbers xs can be read from the slice's address A on -/
def RI (w : World) (A : Option Addr) (xs : List Int) : Prop :=
  ∀ k, k < xs.length → ∃ b o, A = some ⟨b, o, none⟩ ∧ b < w.heap.size ∧ w.cell? ⟨b, o + k, none⟩ = some (.int .i64 (ik xs k))
theorem RI.below {w w' : World} {A : Option Addr} {xs : List Int} (h : RI w A xs) (hb : Below w.heap.size w w') : RI w' A xs := by
  intro k hk
  obtain ⟨b, o, e, hlt, h0⟩ := h k hk
  exact ⟨b, o, e, Nat.lt_of_lt_of_le hlt hb.size, (hb.cell (p := ⟨b, _, none⟩) hlt).trans h0⟩
theorem cell_to {w w' : World} {a : Addr} {v : Value} (h : Below w.heap.size w w') (hc : w.cell? a = some v) : w'.cell? a = some v := (h.cell (World.block_lt_of_cell? w a hc)).trans hc
theorem lt_to {w w' : World} {b : Nat} (h : Below w.heap.size w w') (hb : b < w.heap.size) : b < w'.heap.size := Nat.lt_of_lt_of_le hb h.size
theorem below_to {w w1 w2 : World} (h : Below w.heap.size w w1) (h' : Below w1.heap.size w1 w2) : Below w.heap.size w w2 := h.trans (h'.mono h.size)

/-! tiles and sets, plainly -/
/-- all four colours lie in 0..hi -/
def tileB (t : T4) (hi : Int) : Bool := inB (t.get 0) 0 hi && inB (t.get 1) 0 hi && inB (t.get 2) 0 hi && inB (t.get 3) 0 hi
theorem tileB_true {t : T4} {hi : Int} {k : Nat} (hk : k ≤ 4) (h4 : ¬ k < 4) (h : ∀ j, j < k → inB (t.get j) 0 hi = true) : true = tileB t hi := by
  simp [tileB, h 0 (by omega), h 1 (by omega), h 2 (by omega), h 3 (by omega)]
theorem tileB_false {t : T4} {hi : Int} {k : Nat} (hk : k < 4) (h : inB (t.get k) 0 hi = false) : false = tileB t hi := by
  have : k = 0 ∨ k = 1 ∨ k = 2 ∨ k = 3 := by omega
  rcases this with rfl | rfl | rfl | rfl <;> simp [tileB, h]
theorem eq_of_get {t u : T4} {k : Nat} (hk : k ≤ 4) (h4 : ¬ k < 4) (h : ∀ j, j < k → t.get j = u.get j) : t = u := T4.ext_get fun j hj => h j (by omega)
/-- lexicographically less -/
def ltT (t u : T4) : Bool :=
  if t.get 0 = u.get 0 then if t.get 1 = u.get 1 then if t.get 2 = u.get 2 then decide (t.get 3 < u.get 3) else decide (t.get 2 < u.get 2) else decide (t.get 1 < u.get 1) else decide (t.get 0 < u.get 0)
theorem ltT_at {t u : T4} {k : Nat} (hk : k < 4) (h : ∀ j, j < k → t.get j = u.get j) (hne : t.get k ≠ u.get k) : decide (t.get k < u.get k) = ltT t u := by
  have : k = 0 ∨ k = 1 ∨ k = 2 ∨ k = 3 := by omega
  rcases this with rfl | rfl | rfl | rfl
  · simp [ltT, hne]
  · simp [ltT, h 0 (by omega), hne]
  · simp [ltT, h 0 (by omega), h 1 (by omega), hne]
  · simp [ltT, h 0 (by omega), h 1 (by omega), h 2 (by omega)]
theorem ltT_self (t : T4) : ltT t t = false := by simp [ltT]
/-- the tiles are told with colours below c, each less than the next -/
def OkS (c : Int) (ts : List T4) : Prop := ∀ k, k < ts.length → tileB (tk ts k) (c - 1) = true ∧ (0 < k → ltT (tk ts (k - 1)) (tk ts k) = true)
def okB (c : Int) (ts : List T4) : Bool := (List.range ts.length).all fun k => tileB (tk ts k) (c - 1) && (decide (k = 0) || ltT (tk ts (k - 1)) (tk ts k))
theorem okB_iff (c : Int) (ts : List T4) : okB c ts = true ↔ OkS c ts := by
  simp only [okB, List.all_eq_true, List.mem_range, Bool.and_eq_true, Bool.or_eq_true, decide_eq_true_eq, OkS]
  constructor
  · intro h k hk
    obtain ⟨h1, h2⟩ := h k hk
    exact ⟨h1, fun h0 => h2.resolve_left (by omega)⟩
  · intro h k hk
    obtain ⟨h1, h2⟩ := h k hk
    refine ⟨h1, ?_⟩
    by_cases e : k = 0
    · exact .inl e
    · exact .inr (h2 (by omega))
def isS (c : Int) (ts : List T4) : Bool := inB c 1 6 && decide (ts.length ≤ 16) && okB c ts
theorem inB_iff {n lo hi : Int} : inB n lo hi = true ↔ lo ≤ n ∧ n ≤ hi := by simp [inB]
theorem isS_iff {c : Int} {ts : List T4} : isS c ts = true ↔ (1 ≤ c ∧ c ≤ 6) ∧ ts.length ≤ 16 ∧ OkS c ts := by
  simp only [isS, Bool.and_eq_true, inB_iff, decide_eq_true_eq, okB_iff, and_assoc]

/-! comparisons of lists -/
def cmpI (x y : Int) : Int := if x < y then -1 else if y < x then 1 else 0
def cmpL : List Int → List Int → Int
  | [], [] => 0
  | [], _ :: _ => -1
  | _ :: _, [] => 1
  | x :: xs, y :: ys => if x < y then -1 else if y < x then 1 else cmpL xs ys
theorem drop_ik {xs : List Int} {k : Nat} (h : k < xs.length) : xs.drop k = ik xs k :: xs.drop (k + 1) := by
  rw [List.drop_eq_getElem_cons h]; simp [ik, List.getD, List.getElem?_eq_getElem h]
theorem cmpL_pre {xs ys : List Int} {k : Nat} (hx : k ≤ xs.length) (hy : k ≤ ys.length) (h : ∀ j, j < k → ik xs j = ik ys j) : cmpL xs ys = cmpL (xs.drop k) (ys.drop k) := by
  induction k with
  | zero => rfl
  | succ k ih =>
    rw [ih (by omega) (by omega) (fun j hj => h j (by omega)), drop_ik (show k < xs.length by omega), drop_ik (show k < ys.length by omega), h k (by omega)]
    simp [cmpL]
theorem cmpL_at {xs ys : List Int} {k : Nat} (hx : k < xs.length) (hy : k < ys.length) (h : ∀ j, j < k → ik xs j = ik ys j) (hne : cmpI (ik xs k) (ik ys k) ≠ 0) : cmpI (ik xs k) (ik ys k) = cmpL xs ys := by
  rw [cmpL_pre (Nat.le_of_lt hx) (Nat.le_of_lt hy) h, drop_ik hx, drop_ik hy]
  simp only [cmpL, cmpI] at *
  split
  · rfl
  · rename_i h1
    rw [if_neg h1] at hne
    split
    · rfl
    · rename_i h2; rw [if_neg h2] at hne; exact absurd rfl hne
theorem cmpI_zero {x y : Int} (h : cmpI x y = 0) : x = y := by
  unfold cmpI at h
  split at h
  · omega
  · split at h <;> omega
theorem cmpL_more {xs ys : List Int} (hlt : ys.length < xs.length) (h : ∀ j, j < ys.length → ik xs j = ik ys j) : 1 = cmpL xs ys := by
  rw [cmpL_pre (k := ys.length) (by omega) (by omega) h, drop_ik hlt]
  simp [cmpL]
theorem cmpL_end {xs ys : List Int} (hle : xs.length ≤ ys.length) (h : ∀ j, j < xs.length → ik xs j = ik ys j) : (if xs.length < ys.length then -1 else 0) = cmpL xs ys := by
  rw [cmpL_pre (k := xs.length) (by omega) hle h, List.drop_length]
  split
  · rename_i hlt; rw [drop_ik hlt]; simp [cmpL]
  · rw [List.drop_eq_nil_of_le (by omega)]; simp [cmpL]
def T4.list (t : T4) : List Int := [t.get 0, t.get 1, t.get 2, t.get 3]
theorem cmp_lt {t u : T4} : cmpL t.list u.list < 0 ↔ ltT t u = true := by
  simp only [T4.list, cmpL, ltT]
  repeat' split
  all_goals simp_all
  all_goals omega
theorem cmp_zero {t u : T4} : cmpL t.list u.list = 0 ↔ t = u := by
  constructor
  · intro h
    simp only [T4.list, cmpL] at h
    repeat' split at h
    all_goals first | omega | skip
    refine T4.ext_get fun k hk => ?_
    have : k = 0 ∨ k = 1 ∨ k = 2 ∨ k = 3 := by omega
    rcases this with rfl | rfl | rfl | rfl <;> omega
  · rintro rfl
    simp [T4.list, cmpL]
theorem name3 {P : Program} {c : Code} {Q : Exit → Act → World → Prop} {a : Act} {w : World} {C1 C2 C3 : Array Value} {E1 E2 E3 : TypeId}
    (h : ∀ W, BK W w.heap.size C1 E1 → BK W (w.heap.size + 1) C2 E2 → BK W (w.heap.size + 2) C3 E3 → W.heap.size = w.heap.size + 3 → Below w.heap.size w W → c.wp P Q a W) :
    c.wp P Q a (((w.alloc (.cells C1 E1)).alloc (.cells C2 E2)).alloc (.cells C3 E3)) :=
  h _ (((BK.new _ _ _).alloc _).alloc _) (by simpa using (BK.new (w.alloc (.cells C1 E1)) C2 E2).alloc (.cells C3 E3)) (by simpa using BK.new ((w.alloc (.cells C1 E1)).alloc (.cells C2 E2)) C3 E3)
    (by simp) ((((Below.refl _ _).alloc (Nat.le_refl _) _).alloc (by simp) _).alloc (by simp; omega) _)

/-! ### rows of the call's own -/
theorem add_none (g j : Nat) : (⟨g, 0, none⟩ : Addr).add j = ⟨g, j, none⟩ := by unfold Addr.add; split <;> simp_all
def tcells (ts : List T4) : List Value := ts.flatMap fun t => t.arr.toList
theorem tcells_length (ts : List T4) : (tcells ts).length = ts.length * 4 := by
  induction ts with
  | nil => rfl
  | cons t ts ih => simp only [tcells, List.flatMap_cons, List.length_append, List.length_cons] at *; rw [ih]; simp [T4.arr]; omega
theorem tcells_get {ts : List T4} {k j : Nat} (hk : k < ts.length) (hj : j < 4) : (tcells ts)[k * 4 + j]? = some (.int .i64 ((tk ts k).get j)) := by
  induction ts generalizing k with
  | nil => simp at hk
  | cons t ts ih =>
    simp only [tcells, List.flatMap_cons]
    have hl : t.arr.toList.length = 4 := by simp [T4.arr]
    cases k with
    | zero =>
      rw [List.getElem?_append_left (by omega)]
      simpa [tk] using t.cell j hj
    | succ k =>
      rw [List.getElem?_append_right (by omega), hl, show (k + 1) * 4 + j - 4 = k * 4 + j by omega]
      have := ih (k := k) (by simpa using hk)
      simpa [tcells, tk] using this
theorem tcells_snoc (ts : List T4) (t : T4) : tcells (ts ++ [t]) = tcells ts ++ t.arr.toList := by simp [tcells]
def icells (xs : List Int) : List Value := xs.map (.int .i64)
theorem icells_length (xs : List Int) : (icells xs).length = xs.length := by simp [icells]
theorem icells_get {xs : List Int} {k : Nat} (hk : k < xs.length) : (icells xs)[k]? = some (.int .i64 (ik xs k)) := by
  simp [icells, ik, List.getElem?_eq_getElem hk]
/-- v is a row of tiles of the call's own, in a block from base on -/
def OT (w : World) (base : Nat) (E : TypeId) (v : Value) (ts : List T4) : Prop := w.ownsRow base E 4 v ts.length (tcells ts)
def OI (w : World) (base : Nat) (E : TypeId) (v : Value) (xs : List Int) : Prop := w.ownsRow base E 1 v xs.length (icells xs)
theorem own_cell {w : World} {base : Nat} {E : TypeId} {size n : Nat} {b cap : Nat} {xs : List Value} (h : w.ownsRow base E size (.slice (some ⟨b, 0, none⟩) n cap) n xs) {j : Nat} {u : Value} (hj : xs[j]? = some u) : w.cell? ⟨b, j, none⟩ = some u := by
  have := h.cells (g := b) rfl j u hj
  rwa [add_none] at this
theorem OT.reads {w : World} {base : Nat} {E : TypeId} {v : Value} {ts : List T4} (h : OT w base E v ts) : ∃ A c, v = .slice A ts.length c ∧ RT w A ts ∧ ts.length ≤ c := by
  rcases h.2 with ⟨rfl, hn⟩ | ⟨g, cap, cur, rfl, hb, hg, hle, _⟩
  · exact ⟨none, 0, by rw [hn], fun k hk => by omega, by omega⟩
  · refine ⟨_, cap, rfl, fun k hk => ⟨g, 0, rfl, (Array.getElem?_eq_some_iff.1 hg).1, ?_, ?_, ?_, ?_⟩, hle⟩
    · rw [Nat.zero_add]; exact own_cell h (by simpa using tcells_get hk (j := 0) (by omega))
    · rw [Nat.zero_add]; exact own_cell h (tcells_get hk (by omega))
    · rw [Nat.zero_add]; exact own_cell h (tcells_get hk (by omega))
    · rw [Nat.zero_add]; exact own_cell h (tcells_get hk (by omega))
theorem OI.reads {w : World} {base : Nat} {E : TypeId} {v : Value} {xs : List Int} (h : OI w base E v xs) : ∃ A c, v = .slice A xs.length c ∧ RI w A xs ∧ xs.length ≤ c := by
  rcases h.2 with ⟨rfl, hn⟩ | ⟨g, cap, cur, rfl, hb, hg, hle, _⟩
  · exact ⟨none, 0, by rw [hn], fun k hk => by omega, by omega⟩
  · refine ⟨_, cap, rfl, fun k hk => ⟨g, 0, rfl, (Array.getElem?_eq_some_iff.1 hg).1, ?_⟩, hle⟩
    rw [Nat.zero_add]; exact own_cell h (icells_get hk)
theorem own_to {w w' : World} {base : Nat} {E : TypeId} {size n : Nat} {v : Value} {xs : List Value} (h : w.ownsRow base E size v n xs) (hb : Below w.heap.size w w') : w'.ownsRow base E size v n xs :=
  h.kept (row := none) ⟨hb.os, hb.tape, hb.output, hb.size, fun i hi _ => hb.block i hi⟩ (by cases h' : v.ownBlock <;> simp)
theorem own_base {w : World} {base base' : Nat} {E : TypeId} {size n : Nat} {v : Value} {xs : List Value} (h : w.ownsRow base E size v n xs) (hb : base' ≤ base) : w.ownsRow base' E size v n xs := by
  obtain ⟨h1, h2⟩ := h
  refine ⟨h1, ?_⟩
  rcases h2 with h2 | ⟨g, cap, cur, hv, hg, r⟩
  · exact .inl h2
  · exact .inr ⟨g, cap, cur, hv, Nat.le_trans hb hg, r⟩
theorem OT.to {w w' : World} {base : Nat} {E : TypeId} {v : Value} {ts : List T4} (h : OT w base E v ts) (hb : Below w.heap.size w w') : OT w' base E v ts := own_to h hb
theorem OI.to {w w' : World} {base : Nat} {E : TypeId} {v : Value} {xs : List Int} (h : OI w base E v xs) (hb : Below w.heap.size w w') : OI w' base E v xs := own_to h hb
theorem take_eq_of {α : Type} {l xs : List α} {n : Nat} (hx : xs.length = n) (h : ∀ (j : Nat) (u : α), xs[j]? = some u → l[j]? = some u) : l.take n = xs := by
  apply List.ext_getElem?
  intro j
  rw [List.getElem?_take]
  split
  · rename_i hj
    obtain ⟨u, hu⟩ : ∃ u, xs[j]? = some u := ⟨_, List.getElem?_eq_getElem (by omega)⟩
    rw [hu, h j u hu]
  · rw [List.getElem?_eq_none (by omega)]
theorem OT.of_block {w : World} {b base : Nat} {C : Array Value} {E : TypeId} {ts : List T4} {cap : Nat} (h : BK w b C E) (hb : base ≤ b) (hc : C.size = cap * 4) (hl : ts.length ≤ cap) (hm : cap ≤ 9223372036854775807)
    (hall : ∀ k, k < ts.length → ∀ j, j < 4 → C[k * 4 + j]? = some (.int .i64 ((tk ts k).get j))) : OT w base E (.slice (some ⟨b, 0, none⟩) ts.length cap) ts := by
  refine ⟨tcells_length ts, .inr ⟨b, cap, C, rfl, hb, h, hl, by simpa [maxLen] using hm, hc, ?_⟩⟩
  refine take_eq_of (tcells_length ts) (fun j u hu => ?_)
  have hj : j < ts.length * 4 := by
    rw [← tcells_length ts]; exact (List.getElem?_eq_some_iff.1 hu).1
  have e : j = j / 4 * 4 + j % 4 := by omega
  rw [e, tcells_get (by omega) (by omega)] at hu
  rw [e, Array.getElem?_toList, hall _ (by omega) _ (by omega)]
  exact hu
theorem OI.of_block {w : World} {b base : Nat} {C : Array Value} {E : TypeId} {xs : List Int} {cap : Nat} (h : BK w b C E) (hb : base ≤ b) (hc : C.size = cap) (hl : xs.length ≤ cap) (hm : cap ≤ 9223372036854775807)
    (hall : ∀ k, k < xs.length → C[k]? = some (.int .i64 (ik xs k))) : OI w base E (.slice (some ⟨b, 0, none⟩) xs.length cap) xs := by
  refine ⟨by rw [icells_length, Nat.mul_one], .inr ⟨b, cap, C, rfl, hb, h, hl, by simpa [maxLen] using hm, by omega, ?_⟩⟩
  refine take_eq_of (by rw [icells_length, Nat.mul_one]) (fun j u hu => ?_)
  have hj : j < xs.length := by
    rw [← icells_length xs]; exact (List.getElem?_eq_some_iff.1 hu).1
  rw [icells_get hj] at hu
  rw [Array.getElem?_toList, hall _ hj]
  exact hu
theorem make_row {P : Program} (t e : TypeId) (z : Value) (size bytes : Nat) (ht : P.underlying t = some (.slice e)) (hinfo : (P.info? e).map (fun i => (i.zero, i.size, i.bytes)) = some (some z, size, bytes)) (hs : z.cells.size = size) (hb0 : 0 < bytes)
    (m : Nat) (hn : m * bytes ≤ 281474976710656) :
    ∀ W : World, (Instr.makeSlice t (.int .i64 (m : Int)) (.int .i64 (m : Int))).run P W = .ok (.slice (some ⟨W.heap.size, 0, none⟩) m m) (W.alloc (.cells (madeCells z.cells (m * size)) e)) := by
  intro W
  obtain ⟨i, hi, hzz⟩ := Option.map_eq_some_iff.1 hinfo
  simp only [Prod.mk.injEq] at hzz
  obtain ⟨hz0, hz1, hz2⟩ := hzz
  have hm : m ≤ 281474976710656 := Nat.le_trans (Nat.le_mul_of_pos_right _ hb0) hn
  have hb' : (i.bytes : Int) * (m : Int) ≤ 281474976710656 := by
    have h : ((i.bytes * m : Nat) : Int) ≤ 281474976710656 := by rw [hz2, Nat.mul_comm]; omega
    rwa [Int.natCast_mul] at h
  have hr := run_make (P := P) W t e i z ht hi hz0 .i64 .i64 m m (by omega) (Int.le_refl _) hb' (by omega)
  simp only [Int.toNat_natCast] at hr
  rw [hz1] at hr
  exact hr
theorem made_size (z : Array Value) (n : Nat) : (madeCells z n).size = n := size_madeCells z n

/-- four cells from i on are a tile's -/
def setT (C : Array Value) (i : Nat) (t : T4) : Array Value :=
  (((C.setIfInBounds i (.int .i64 (t.get 0))).setIfInBounds (i + 1) (.int .i64 (t.get 1))).setIfInBounds (i + 2) (.int .i64 (t.get 2))).setIfInBounds (i + 3) (.int .i64 (t.get 3))
theorem setT_size (C : Array Value) (i : Nat) (t : T4) : (setT C i t).size = C.size := by simp [setT]
theorem setT_in {C : Array Value} {i j : Nat} {t : T4} (h : i + 3 < C.size) (hj : j < 4) : (setT C i t)[i + j]? = some (.int .i64 (t.get j)) := by
  simp only [setT, Array.getElem?_setIfInBounds, Array.size_setIfInBounds]
  match j, hj with
  | 0, _ => rw [if_neg (by omega), if_neg (by omega), if_neg (by omega), if_pos (by omega), if_pos (by omega)]
  | 1, _ => rw [if_neg (by omega), if_neg (by omega), if_pos (by omega), if_pos (by omega)]
  | 2, _ => rw [if_neg (by omega), if_pos (by omega), if_pos (by omega)]
  | 3, _ => rw [if_pos (by omega), if_pos (by omega)]
theorem setT_out {C : Array Value} {i p : Nat} {t : T4} (h : p < i ∨ i + 4 ≤ p) : (setT C i t)[p]? = C[p]? := by
  simp only [setT, Array.getElem?_setIfInBounds]
  rw [if_neg (by omega), if_neg (by omega), if_neg (by omega), if_neg (by omega)]
theorem BK.setT {w : World} {b : Nat} {C : Array Value} {E : TypeId} (h : BK w b C E) (i : Nat) (t : T4) :
    BK ((((w.setCell ⟨b, i, none⟩ (.int .i64 (t.get 0))).setCell ⟨b, i + 1, none⟩ (.int .i64 (t.get 1))).setCell ⟨b, i + 2, none⟩ (.int .i64 (t.get 2))).setCell ⟨b, i + 3, none⟩ (.int .i64 (t.get 3))) b (setT C i t) E :=
  (((h.set i _).set (i + 1) _).set (i + 2) _).set (i + 3) _
theorem below_set4 {B : Nat} {w0 w : World} (h : Below B w0 w) {b : Nat} (hb : B ≤ b) (i : Nat) (x y z u : Value) :
    Below B w0 ((((w.setCell ⟨b, i, none⟩ x).setCell ⟨b, i + 1, none⟩ y).setCell ⟨b, i + 2, none⟩ z).setCell ⟨b, i + 3, none⟩ u) :=
  (((h.setCell hb x).setCell hb y).setCell hb z).setCell hb u
/-- the first k tiles lie in the block -/
def TilesIn (C : Array Value) (ts : List T4) (k : Nat) : Prop := ∀ k', k' < k → ∀ j, j < 4 → C[k' * 4 + j]? = some (.int .i64 ((tk ts k').get j))
theorem TilesIn.step {C : Array Value} {ts : List T4} {k : Nat} (h : TilesIn C ts k) (hk : k * 4 + 3 < C.size) : TilesIn (setT C (k * 4) (tk ts k)) ts (k + 1) := by
  intro k' hk' j hj
  by_cases e : k' = k
  · subst e; exact setT_in hk hj
  · rw [setT_out (by omega)]; exact h k' (by omega) j hj
theorem eq_of_tk {ts us : List T4} (hl : ts.length = us.length) (h : ∀ j, j < ts.length → tk ts j = tk us j) : ts = us := by
  apply List.ext_getElem hl
  intro j h1 h2
  have := h j h1
  simpa [tk, List.getElem?_eq_getElem h1, List.getElem?_eq_getElem h2] using this
theorem eq_of_ik {xs ys : List Int} (hl : xs.length = ys.length) (h : ∀ j, j < xs.length → ik xs j = ik ys j) : xs = ys := by
  apply List.ext_getElem hl
  intro j h1 h2
  have := h j h1
  simpa [ik, List.getElem?_eq_getElem h1, List.getElem?_eq_getElem h2] using this
/-- The same in front of a call. -/
theorem namec1 {P : Program} {f : FuncId} {args : Array Value} {w : World} {R : Ending → World → Prop} {C1 : Array Value} {E1 : TypeId}
    (h : ∀ W, BK W w.heap.size C1 E1 → W.heap.size = w.heap.size + 1 → Below w.heap.size w W → Calls P f args W R) : Calls P f args (w.alloc (.cells C1 E1)) R :=
  h _ (BK.new _ _ _) (by simp) ((Below.refl _ _).alloc (Nat.le_refl _) _)
theorem namec2 {P : Program} {f : FuncId} {args : Array Value} {w : World} {R : Ending → World → Prop} {C1 C2 : Array Value} {E1 E2 : TypeId}
    (h : ∀ W, BK W w.heap.size C1 E1 → BK W (w.heap.size + 1) C2 E2 → W.heap.size = w.heap.size + 2 → Below w.heap.size w W → Calls P f args W R) : Calls P f args ((w.alloc (.cells C1 E1)).alloc (.cells C2 E2)) R :=
  h _ ((BK.new _ _ _).alloc _) (by simpa using BK.new (w.alloc (.cells C1 E1)) C2 E2) (by simp) (((Below.refl _ _).alloc (Nat.le_refl _) _).alloc (by simp) _)
theorem namec3 {P : Program} {f : FuncId} {args : Array Value} {w : World} {R : Ending → World → Prop} {C1 C2 C3 : Array Value} {E1 E2 E3 : TypeId}
    (h : ∀ W, BK W w.heap.size C1 E1 → BK W (w.heap.size + 1) C2 E2 → BK W (w.heap.size + 2) C3 E3 → W.heap.size = w.heap.size + 3 → Below w.heap.size w W → Calls P f args W R) :
    Calls P f args (((w.alloc (.cells C1 E1)).alloc (.cells C2 E2)).alloc (.cells C3 E3)) R :=
  h _ (((BK.new _ _ _).alloc _).alloc _) (by simpa using (BK.new (w.alloc (.cells C1 E1)) C2 E2).alloc (.cells C3 E3)) (by simpa using BK.new ((w.alloc (.cells C1 E1)).alloc (.cells C2 E2)) C3 E3)
    (by simp) ((((Below.refl _ _).alloc (Nat.le_refl _) _).alloc (by simp) _).alloc (by simp; omega) _)
theorem RT.cellj {w : World} {A : Option Addr} {ts : List T4} (h : RT w A ts) {k : Nat} (hk : k < ts.length) :
    ∃ b o, A = some ⟨b, o, none⟩ ∧ b < w.heap.size ∧ ∀ j, j < 4 → w.cell? ⟨b, o + k * 4 + j, none⟩ = some (.int .i64 ((tk ts k).get j)) := by
  obtain ⟨b, o, e, hb, h0, h1, h2, h3⟩ := h k hk
  refine ⟨b, o, e, hb, fun j hj => ?_⟩
  match j, hj with
  | 0, _ => exact h0
  | 1, _ => exact h1
  | 2, _ => exact h2
  | 3, _ => exact h3
/-- two places of one row -/
theorem RT.cell2 {w : World} {A : Option Addr} {ts : List T4} (h : RT w A ts) {k i : Nat} (hk : k < ts.length) (hi : i < ts.length) :
    ∃ b o, A = some ⟨b, o, none⟩ ∧ b < w.heap.size ∧ (∀ j, j < 4 → w.cell? ⟨b, o + k * 4 + j, none⟩ = some (.int .i64 ((tk ts k).get j))) ∧ (∀ j, j < 4 → w.cell? ⟨b, o + i * 4 + j, none⟩ = some (.int .i64 ((tk ts i).get j))) := by
  obtain ⟨b, o, rfl, hb, h1⟩ := h.cellj hk
  obtain ⟨b', o', e, -, h2⟩ := h.cellj hi
  injection e with e; injection e with e1 e2
  subst e1 e2
  exact ⟨b, o, rfl, hb, h1, h2⟩
def pairV (r : Bool × Int) : Value := .tuple #[.bool r.1, .int .i64 r.2]
theorem ret_pair {b : Bool} {c : Int} {r : Bool × Int} (h : (b, c) = r) : Ending.returned (.tuple #[.bool b, .int .i64 c]) = .returned (pairV r) := by subst h; rfl
def pairI (r : Int × Int) : Value := .tuple #[.int .i64 r.1, .int .i64 r.2]
theorem ret_pairI {b c : Int} {r : Int × Int} (h : (b, c) = r) : Ending.returned (.tuple #[.int .i64 b, .int .i64 c]) = .returned (pairI r) := by subst h; rfl
end Go.Proofs.YtbcnddeelefomaaDoor

/-
  Parts of the proof, in their order: Q0, Base, Own, Own2, Own3, Bridge, Counts, PTab, Tile, Law0, IsSet, IsSet2, Ext, QSpecL01In, QSpecL01Rows, QImplIsTable, QImplWithin, QImplSetIsNumber, QImplSetAreNumbers, QImplIsFilling1, QImplSetCodeAtImplIsFilling1.
-/
import Derived.Test.YtgdmflmglkakgaaProg
import Derived.Below
import Derived.Deep.Draws
import Derived.Deep.AppendLies
import Derived.Maps.AppendAt
import Derived.OwnWalk
import Derived.Laws.BytesArg
import Derived.Laws.MakeOwn
import Derived.Laws.OwnMore
import Derived.Deep.OwnRows
import Derived.Tactics
import Derived.Lib.ConvBytes
import Derived.Laws.Slices
import Derived.WalkKit
import Derived.KernelRfl
import Derived.RowKit3
import Derived.Deep.LoopGhost
import Derived.Deep.QuietTactic
import Derived.BigQuiet
import Derived.WideLaws
import Derived.Deep.DeepCutAuto
import Derived.Deep.CutBlock
import Derived.Deep.RegionHeld3
import Derived.Laws.Rows
import Derived.Lib.AppendStr
import Derived.ArgAppend
import Derived.Laws.IdiomCopy
import Derived.OrdersHeld
import Derived.Laws.BitsLemmas
import Derived.RowKit
import Derived.Test.YtgdmflmglkakgaaWWords
import Derived.Test.YtgdmflmglkakgaaWLast
import Derived.Test.YtgdmflmglkakgaaWTab
import Derived.Test.YtgdmflmglkakgaaWFour
import Derived.Test.YtgdmflmglkakgaaWQPut
import Derived.Test.YtgdmflmglkakgaaWApart
import Derived.Test.YtgdmflmglkakgaaWArr
import Derived.Test.YtgdmflmglkakgaaWZeros
import Derived.Test.YtgdmflmglkakgaaWFoot
import Derived.Test.YtgdmflmglkakgaaWKept
import Derived.Test.YtgdmflmglkakgaaWShare
import Derived.Test.YtgdmflmglkakgaaWN
import Derived.Test.YtgdmflmglkakgaaWFootNe
import Derived.Test.YtgdmflmglkakgaaWAt
import Derived.Test.YtgdmflmglkakgaaWEqStruct
import Derived.Test.YtgdmflmglkakgaaWRepsOne
import Derived.Test.YtgdmflmglkakgaaWInv
import Derived.Test.YtgdmflmglkakgaaWInvWords
import Derived.Test.YtgdmflmglkakgaaWGuard
import Derived.Test.YtgdmflmglkakgaaWNEv
import Derived.Test.YtgdmflmglkakgaaWMore
import Derived.Handy
import Derived.Outline
import Derived.Lib.Hide
import Derived.Shelf.Abstract
import Derived.StillTailTactics
namespace Go.Proofs.Ytgdmflmglkakgaa.Q
open Go.RowKit Go.Proofs.YtgdmflmglkakgaaW.PrintWords Go.Proofs.YtgdmflmglkakgaaW.PrintLast Go.Proofs.YtgdmflmglkakgaaW.PrintMore
attribute [local go_sem] max2_int min2_int max_two min_two max_three min_three max_four min_four
set_option linter.unusedVariables false
set_option linter.unusedSimpArgs false
def errW : Option Int → Value
 | none => .nilIface
 | some c => .iface 0 (.int .i64 c)
theorem errW_none : errW none = .nilIface := rfl
theorem errW_some (c : Int) : errW (some c) = .iface 0 (.int .i64 c) := rfl
theorem info2 : (Try.prog.info? 2).map (fun i => (i.zero, i.size, i.bytes)) = some (some (.int .i64 0), 1, 8) := by kernel_rfl
theorem info46 : (Try.prog.info? 46).map (fun i => (i.zero, i.size, i.bytes)) = some (some (.slice none 0 0), 1, 24) := by kernel_rfl
theorem info63 : (Try.prog.info? 63).map (fun i => (i.zero, i.size, i.bytes)) = some (some (.agg #[(.int .i64 0), (.int .i64 0), (.int .i64 0), (.int .i64 0)]), 4, 32) := by kernel_rfl
def rd_L1 (xs : List (List Int)) (i : Int) : (List Int) := xs.getD i.toNat ([] : List Int)
theorem at_L1 {w : World} {A : Option Addr} {n : Nat} {xs : List (List Int)} (h : Kd.C (Kd.slice 2 (Kd.int .i64)) w A n xs) (i : Int) (h0 : 0 ≤ i) (h1 : i < n) : ∃ ad A0 c0, A = some ad ∧ w.cell? (ad.add i.toNat) = some (.slice A0 (rd_L1 xs i).length c0) ∧ (rd_L1 xs i).length ≤ c0 ∧ (Kd.int .i64).C w A0 (rd_L1 xs i).length (rd_L1 xs i) := by
 obtain ⟨ad, c, e, _, hK, hc0⟩ := Kd.C_get h ([] : List Int) i h0 h1
 have hc : ∀ j u, c[j]? = some u → w.cell? (ad.add (i.toNat * 1 + j)) = some u := hc0
 obtain ⟨A0, c0, rfl, l0, g0⟩ := hK
 exact ⟨ad, A0, c0, e, by have hq := hc 0 _ rfl; rwa [Nat.mul_one, Nat.add_zero] at hq, l0, g0⟩
structure S63 where
 f0 : Int
 f1 : Int
 f2 : Int
 f3 : Int
def z63 : S63 := ⟨(0 : Int), (0 : Int), (0 : Int), (0 : Int)⟩
def k63 : Kd S63 := Kd.iso (Kd.pair (Kd.int .i64) (Kd.pair (Kd.int .i64) (Kd.pair (Kd.int .i64) (Kd.int .i64)))) (fun x : S63 => (x.f0, x.f1, x.f2, x.f3))
theorem k63_open {w : World} {x : S63} {cs : List Value} (h : k63.K w x cs) : cs = [.int .i64 x.f0, .int .i64 x.f1, .int .i64 x.f2, .int .i64 x.f3] := by
 obtain ⟨_, _, rfl, rfl, ⟨_, _, rfl, rfl, ⟨_, _, rfl, rfl, rfl⟩⟩⟩ := h
 exact rfl
theorem k63_mk (w : World) (x : S63)  : k63.K w x [.int .i64 x.f0, .int .i64 x.f1, .int .i64 x.f2, .int .i64 x.f3] := ⟨[.int .i64 x.f0], [.int .i64 x.f1, .int .i64 x.f2, .int .i64 x.f3], rfl, rfl, ⟨[.int .i64 x.f1], [.int .i64 x.f2, .int .i64 x.f3], rfl, rfl, ⟨[.int .i64 x.f2], [.int .i64 x.f3], rfl, rfl, rfl⟩⟩⟩
def rd_T63 (xs : List S63) (i : Int) : S63 := xs.getD i.toNat z63
theorem at_T63 {w : World} {A : Option Addr} {n : Nat} {xs : List S63} (h : Kd.C k63 w A n xs) (i : Int) (h0 : 0 ≤ i) (h1 : i < n) : ∃ ad , A = some ad ∧ w.cell? (ad.add (i.toNat * 4)) = some (.int .i64 (rd_T63 xs i).f0) ∧ w.cell? ⟨(ad.add (i.toNat * 4)).block, (ad.add (i.toNat * 4)).off + 1, none⟩ = some (.int .i64 (rd_T63 xs i).f1) ∧ w.cell? ⟨(ad.add (i.toNat * 4)).block, (ad.add (i.toNat * 4)).off + 2, none⟩ = some (.int .i64 (rd_T63 xs i).f2) ∧ w.cell? ⟨(ad.add (i.toNat * 4)).block, (ad.add (i.toNat * 4)).off + 3, none⟩ = some (.int .i64 (rd_T63 xs i).f3) := by
 obtain ⟨ad, c, e, _, hK, hc0⟩ := Kd.C_get h z63 i h0 h1
 have hc : ∀ j u, c[j]? = some u → w.cell? (ad.add (i.toNat * 4 + j)) = some u := hc0
 obtain rfl := k63_open hK
 exact ⟨ad, e, hc 0 _ rfl, by rw [← add_field _ _ 1 (by omega)]; exact hc 1 _ rfl, by rw [← add_field _ _ 2 (by omega)]; exact hc 2 _ rfl, by rw [← add_field _ _ 3 (by omega)]; exact hc 3 _ rfl⟩
structure S32 where
 f0 : Int
 f1 : (List S63)
end Go.Proofs.Ytgdmflmglkakgaa.Q
namespace Go.Proofs.Ytgdmflmglkakgaa
open Go Go.RowKit Go.Proofs
set_option linter.unusedVariables false
set_option linter.unusedSimpArgs false
structure GP where
  d : Nat
  os : Array Obj
deriving Inhabited
def gro (w : World) (p : GP) : World := { w with heap := w.heap ++ p.os, drawn := p.d }
theorem gro_block (w : World) (p : GP) {b : Nat} (h : b < w.heap.size) : (gro w p).heap[b]? = w.heap[b]? := by
  simp [gro, Array.getElem?_append, h]
@[go_sem] theorem gro_cell (w : World) (p : GP) (b o : Nat) (h : b < w.heap.size) : (gro w p).cell? ⟨b, o, none⟩ = w.cell? ⟨b, o, none⟩ := by
  simp only [World.cell?, gro_block w p h]
@[go_sem] theorem gro_frozen (w : World) (p : GP) (b o : Nat) (h : b < w.heap.size) : (gro w p).frozen? ⟨b, o, none⟩ = w.frozen? ⟨b, o, none⟩ := by
  simp only [World.frozen?, gro_block w p h]
theorem gro_below (w : World) (p : GP) : Below w.heap.size w (gro w p) := ⟨rfl, rfl, rfl, by simp [gro], fun _ h => gro_block w p h⟩
theorem below_gro {w w' : World} (h : Below w.heap.size w w') : ∃ p, w' = gro w p := by
  refine ⟨⟨w'.drawn, w'.heap.extract w.heap.size w'.heap.size⟩, ?_⟩
  have e : w.heap ++ w'.heap.extract w.heap.size w'.heap.size = w'.heap := by
    apply Array.ext_getElem?
    intro i
    rw [Array.getElem?_append]
    split
    · rename_i hi; exact (h.block i hi).symm
    · rename_i hi
      have hs := h.size
      rw [Array.getElem?_extract]
      simp only [Nat.min_self]
      by_cases h2 : i - w.heap.size < w'.heap.size - w.heap.size
      · rw [if_pos h2]; congr 1; omega
      · rw [if_neg h2, Array.getElem?_eq_none (by omega)]
  cases w' with
  | mk hp tp dr os ou =>
    simp only [gro] at *
    have h1 := h.os; have h2 := h.tape; have h3 := h.output
    simp only at h1 h2 h3
    rw [e, h1, h2, h3]
theorem gro_gro (w : World) (p : GP) {w' : World} (h : Below (gro w p).heap.size (gro w p) w') : ∃ q, w' = gro w q :=
  below_gro ((gro_below w p).trans (h.mono (gro_below w p).size))
theorem quiet_call {P : Program} {f : FuncId} {args : Array Value} {w : World} {p : GP} {v : Value}
    (h : Calls P f args (gro w p) fun e w' => e = .returned v ∧ Below (gro w p).heap.size (gro w p) w') : Calls P f args (gro w p) fun e w'' => e = .returned v ∧ ∃ q, w'' = gro w q :=
  h.mono fun _ _ ⟨he, hb⟩ => ⟨he, gro_gro w p hb⟩
theorem quiet_call0 {P : Program} {f : FuncId} {args : Array Value} {w : World} {p : GP} {v : Value}
    (h : Calls P f args (gro w p) fun e w' => e = .returned v ∧ gro w p = w') : Calls P f args (gro w p) fun e w'' => e = .returned v ∧ ∃ q, w'' = gro w q :=
  h.mono fun _ _ ⟨he, hb⟩ => ⟨he, p, hb.symm⟩
theorem wpQuiet_mono {P : Program} {ops : Array Oper} {C : World → Prop} {Q Q' : Act → Prop} (hq : ∀ a, Q a → Q' a) :
    ∀ (l : List Oper) (a : Act), wpQuiet P ops C Q l a → wpQuiet P ops C Q' l a := by
  intro l
  induction l with
  | nil => intro a h; exact hq _ h
  | cons o rest ih =>
    intro a h
    simp only [wpQuiet] at h ⊢
    by_cases hw : Region.wanted o (yielded ops a.tmps) = true
    · rw [if_pos hw] at h ⊢
      obtain ⟨v, h1, h2⟩ := h
      exact ⟨v, h1, ih _ h2⟩
    · rw [if_neg hw] at h ⊢
      exact ih _ h
theorem wp_region_gro {P : Program} {id : Nat} {Q : Exit → Act → World → Prop} {a : Act} {w : World} {l : List Oper} (hm : P.follows .mixedOrders = true) (hB : Region.lexB .any l.toArray = true)
    (h : wpQuiet P l.toArray (fun w' => ∃ p : GP, w' = gro w p) (fun a' => ∀ w', Below w.heap.size w w' → Q .normal a' w') l a) : (Code.region id l.toArray true).wp P Q a w := by
  refine wp_region_quiet (C := fun w' => ∃ p : GP, w' = gro w p) hm hB ⟨⟨w.drawn + 1, #[]⟩, by simp [gro]⟩ ?_
  exact wpQuiet_mono (fun a' h w' ⟨p, hp⟩ => by subst hp; exact h _ (gro_below w p)) _ _ (by simpa using h)
def inB (n lo hi : Int) : Bool := decide (lo ≤ n) && decide (n ≤ hi)
structure T4 where
  a : Int
  b : Int
  c : Int
  d : Int
deriving DecidableEq, Inhabited
def T4.get (t : T4) (k : Nat) : Int := if k = 0 then t.a else if k = 1 then t.b else if k = 2 then t.c else t.d
def T4.arr (t : T4) : Array Value := #[.int .i64 (t.get 0), .int .i64 (t.get 1), .int .i64 (t.get 2), .int .i64 (t.get 3)]
theorem T4.cell (t : T4) (k : Nat) (h : k < 4) : t.arr[k]? = some (.int .i64 (t.get k)) := by
  match k, h with
  | 0, _ => rfl
  | 1, _ => rfl
  | 2, _ => rfl
  | 3, _ => rfl
theorem T4.ext_get {t u : T4} (h : ∀ k, k < 4 → t.get k = u.get k) : t = u := by
  have h0 := h 0 (by omega); have h1 := h 1 (by omega); have h2 := h 2 (by omega); have h3 := h 3 (by omega)
  simp [T4.get] at h0 h1 h2 h3
  cases t; cases u; simp_all
theorem ret_bool {a b : Bool} (h : a = b) : Ending.returned (.bool a) = .returned (.bool b) := by rw [h]
theorem ret_int {k : IntKind} {a b : Int} (h : a = b) : Ending.returned (.int k a) = .returned (.int k b) := by rw [h]
def tk (ts : List T4) (k : Nat) : T4 := ts.getD k default
def RT (w : World) (A : Option Addr) (ts : List T4) : Prop :=
  ∀ k, k < ts.length → ∃ b o, A = some ⟨b, o, none⟩ ∧ b < w.heap.size ∧
    w.cell? ⟨b, o + k * 4, none⟩ = some (.int .i64 ((tk ts k).get 0)) ∧ w.cell? ⟨b, o + k * 4 + 1, none⟩ = some (.int .i64 ((tk ts k).get 1)) ∧
    w.cell? ⟨b, o + k * 4 + 2, none⟩ = some (.int .i64 ((tk ts k).get 2)) ∧ w.cell? ⟨b, o + k * 4 + 3, none⟩ = some (.int .i64 ((tk ts k).get 3))
theorem RT.below {w w' : World} {A : Option Addr} {ts : List T4} (h : RT w A ts) (hb : Below w.heap.size w w') : RT w' A ts := by
  intro k hk
  obtain ⟨b, o, e, hlt, h0, h1, h2, h3⟩ := h k hk
  refine ⟨b, o, e, Nat.lt_of_lt_of_le hlt hb.size, ?_, ?_, ?_, ?_⟩
  · exact (hb.cell (p := ⟨b, _, none⟩) hlt).trans h0
  · exact (hb.cell (p := ⟨b, _, none⟩) hlt).trans h1
  · exact (hb.cell (p := ⟨b, _, none⟩) hlt).trans h2
  · exact (hb.cell (p := ⟨b, _, none⟩) hlt).trans h3
def BK (w : World) (b : Nat) (C : Array Value) (E : TypeId) : Prop := w.heap[b]? = some (.cells C E (0, 0))
theorem BK.lt {w : World} {b : Nat} {C : Array Value} {E : TypeId} (h : BK w b C E) : b < w.heap.size := (Array.getElem?_eq_some_iff.1 h).1
theorem BK.new (w : World) (C : Array Value) (E : TypeId) : BK (w.alloc (.cells C E)) w.heap.size C E := by
  show (w.heap.push _)[w.heap.size]? = _
  simp
theorem BK.alloc {w : World} {b : Nat} {C : Array Value} {E : TypeId} (h : BK w b C E) (o : Obj) : BK (w.alloc o) b C E := (Below.heap_alloc w o b h.lt).trans h
theorem BK.below {w w' : World} {b : Nat} {C : Array Value} {E : TypeId} {B : Nat} (h : BK w b C E) (hb : Below B w w') (hB : b < B) : BK w' b C E := (hb.block b hB).trans h
theorem BK.cell {w : World} {b : Nat} {C : Array Value} {E : TypeId} (h : BK w b C E) {k : Nat} {v : Value} (hc : C[k]? = some v) : w.cell? ⟨b, k, none⟩ = some v := by
  have h' : w.heap[b]? = some (.cells C E (0, 0)) := h
  simp [World.cell?, h', hc]
theorem BK.frozen {w : World} {b : Nat} {C : Array Value} {E : TypeId} (h : BK w b C E) (k : Nat) : w.frozen? ⟨b, k, none⟩ = false := by
  have h' : w.heap[b]? = some (.cells C E (0, 0)) := h
  simp [World.frozen?, h']
theorem BK.set {w : World} {b : Nat} {C : Array Value} {E : TypeId} (h : BK w b C E) (k : Nat) (v : Value) : BK (w.setCell ⟨b, k, none⟩ v) b (C.setIfInBounds k v) E := by
  have h' : w.heap[b]? = some (.cells C E (0, 0)) := h
  simp [BK, World.setCell, Array.getElem?_modify, h']
theorem name1 {P : Program} {c : Code} {Q : Exit → Act → World → Prop} {a : Act} {w : World} {C1 : Array Value} {E1 : TypeId}
    (h : ∀ W, BK W w.heap.size C1 E1 → W.heap.size = w.heap.size + 1 → Below w.heap.size w W → c.wp P Q a W) : c.wp P Q a (w.alloc (.cells C1 E1)) :=
  h _ (BK.new _ _ _) (by simp) ((Below.refl _ _).alloc (Nat.le_refl _) _)
theorem name2 {P : Program} {c : Code} {Q : Exit → Act → World → Prop} {a : Act} {w : World} {C1 C2 : Array Value} {E1 E2 : TypeId}
    (h : ∀ W, BK W w.heap.size C1 E1 → BK W (w.heap.size + 1) C2 E2 → W.heap.size = w.heap.size + 2 → Below w.heap.size w W → c.wp P Q a W) : c.wp P Q a ((w.alloc (.cells C1 E1)).alloc (.cells C2 E2)) :=
  h _ ((BK.new _ _ _).alloc _) (by simpa using BK.new (w.alloc (.cells C1 E1)) C2 E2) (by simp) (((Below.refl _ _).alloc (Nat.le_refl _) _).alloc (by simp) _)
def ik (xs : List Int) (k : Nat) : Int := xs.getD k 0
def RI (w : World) (A : Option Addr) (xs : List Int) : Prop :=
  ∀ k, k < xs.length → ∃ b o, A = some ⟨b, o, none⟩ ∧ b < w.heap.size ∧ w.cell? ⟨b, o + k, none⟩ = some (.int .i64 (ik xs k))
theorem RI.below {w w' : World} {A : Option Addr} {xs : List Int} (h : RI w A xs) (hb : Below w.heap.size w w') : RI w' A xs := by
  intro k hk
  obtain ⟨b, o, e, hlt, h0⟩ := h k hk
  exact ⟨b, o, e, Nat.lt_of_lt_of_le hlt hb.size, (hb.cell (p := ⟨b, _, none⟩) hlt).trans h0⟩
theorem cell_to {w w' : World} {a : Addr} {v : Value} (h : Below w.heap.size w w') (hc : w.cell? a = some v) : w'.cell? a = some v := (h.cell (World.block_lt_of_cell? w a hc)).trans hc
theorem lt_to {w w' : World} {b : Nat} (h : Below w.heap.size w w') (hb : b < w.heap.size) : b < w'.heap.size := Nat.lt_of_lt_of_le hb h.size
theorem below_to {w w1 w2 : World} (h : Below w.heap.size w w1) (h' : Below w1.heap.size w1 w2) : Below w.heap.size w w2 := h.trans (h'.mono h.size)
def tileB (t : T4) (hi : Int) : Bool := inB (t.get 0) 0 hi && inB (t.get 1) 0 hi && inB (t.get 2) 0 hi && inB (t.get 3) 0 hi
theorem tileB_true {t : T4} {hi : Int} {k : Nat} (hk : k ≤ 4) (h4 : ¬ k < 4) (h : ∀ j, j < k → inB (t.get j) 0 hi = true) : true = tileB t hi := by
  simp [tileB, h 0 (by omega), h 1 (by omega), h 2 (by omega), h 3 (by omega)]
theorem tileB_false {t : T4} {hi : Int} {k : Nat} (hk : k < 4) (h : inB (t.get k) 0 hi = false) : false = tileB t hi := by
  have : k = 0 ∨ k = 1 ∨ k = 2 ∨ k = 3 := by omega
  rcases this with rfl | rfl | rfl | rfl <;> simp [tileB, h]
theorem eq_of_get {t u : T4} {k : Nat} (hk : k ≤ 4) (h4 : ¬ k < 4) (h : ∀ j, j < k → t.get j = u.get j) : t = u := T4.ext_get fun j hj => h j (by omega)
def ltT (t u : T4) : Bool :=
  if t.get 0 = u.get 0 then if t.get 1 = u.get 1 then if t.get 2 = u.get 2 then decide (t.get 3 < u.get 3) else decide (t.get 2 < u.get 2) else decide (t.get 1 < u.get 1) else decide (t.get 0 < u.get 0)
theorem ltT_at {t u : T4} {k : Nat} (hk : k < 4) (h : ∀ j, j < k → t.get j = u.get j) (hne : t.get k ≠ u.get k) : decide (t.get k < u.get k) = ltT t u := by
  have : k = 0 ∨ k = 1 ∨ k = 2 ∨ k = 3 := by omega
  rcases this with rfl | rfl | rfl | rfl
  · simp [ltT, hne]
  · simp [ltT, h 0 (by omega), hne]
  · simp [ltT, h 0 (by omega), h 1 (by omega), hne]
  · simp [ltT, h 0 (by omega), h 1 (by omega), h 2 (by omega)]
theorem ltT_self (t : T4) : ltT t t = false := by simp [ltT]
def OkS (c : Int) (ts : List T4) : Prop := ∀ k, k < ts.length → tileB (tk ts k) (c - 1) = true ∧ (0 < k → ltT (tk ts (k - 1)) (tk ts k) = true)
def okB (c : Int) (ts : List T4) : Bool := (List.range ts.length).all fun k => tileB (tk ts k) (c - 1) && (decide (k = 0) || ltT (tk ts (k - 1)) (tk ts k))
theorem okB_iff (c : Int) (ts : List T4) : okB c ts = true ↔ OkS c ts := by
  simp only [okB, List.all_eq_true, List.mem_range, Bool.and_eq_true, Bool.or_eq_true, decide_eq_true_eq, OkS]
  constructor
  · intro h k hk
    obtain ⟨h1, h2⟩ := h k hk
    exact ⟨h1, fun h0 => h2.resolve_left (by omega)⟩
  · intro h k hk
    obtain ⟨h1, h2⟩ := h k hk
    refine ⟨h1, ?_⟩
    by_cases e : k = 0
    · exact .inl e
    · exact .inr (h2 (by omega))
def isS (c : Int) (ts : List T4) : Bool := inB c 1 6 && decide (ts.length ≤ 16) && okB c ts
theorem inB_iff {n lo hi : Int} : inB n lo hi = true ↔ lo ≤ n ∧ n ≤ hi := by simp [inB]
theorem isS_iff {c : Int} {ts : List T4} : isS c ts = true ↔ (1 ≤ c ∧ c ≤ 6) ∧ ts.length ≤ 16 ∧ OkS c ts := by
  simp only [isS, Bool.and_eq_true, inB_iff, decide_eq_true_eq, okB_iff, and_assoc]
def cmpI (x y : Int) : Int := if x < y then -1 else if y < x then 1 else 0
def cmpL : List Int → List Int → Int
  | [], [] => 0
  | [], _ :: _ => -1
  | _ :: _, [] => 1
  | x :: xs, y :: ys => if x < y then -1 else if y < x then 1 else cmpL xs ys
theorem drop_ik {xs : List Int} {k : Nat} (h : k < xs.length) : xs.drop k = ik xs k :: xs.drop (k + 1) := by
  rw [List.drop_eq_getElem_cons h]; simp [ik, List.getD, List.getElem?_eq_getElem h]
theorem cmpL_pre {xs ys : List Int} {k : Nat} (hx : k ≤ xs.length) (hy : k ≤ ys.length) (h : ∀ j, j < k → ik xs j = ik ys j) : cmpL xs ys = cmpL (xs.drop k) (ys.drop k) := by
  induction k with
  | zero => rfl
  | succ k ih =>
    rw [ih (by omega) (by omega) (fun j hj => h j (by omega)), drop_ik (show k < xs.length by omega), drop_ik (show k < ys.length by omega), h k (by omega)]
    simp [cmpL]
theorem cmpL_at {xs ys : List Int} {k : Nat} (hx : k < xs.length) (hy : k < ys.length) (h : ∀ j, j < k → ik xs j = ik ys j) (hne : cmpI (ik xs k) (ik ys k) ≠ 0) : cmpI (ik xs k) (ik ys k) = cmpL xs ys := by
  rw [cmpL_pre (Nat.le_of_lt hx) (Nat.le_of_lt hy) h, drop_ik hx, drop_ik hy]
  simp only [cmpL, cmpI] at *
  split
  · rfl
  · rename_i h1
    rw [if_neg h1] at hne
    split
    · rfl
    · rename_i h2; rw [if_neg h2] at hne; exact absurd rfl hne
theorem cmpI_zero {x y : Int} (h : cmpI x y = 0) : x = y := by
  unfold cmpI at h
  split at h
  · omega
  · split at h <;> omega
theorem cmpL_more {xs ys : List Int} (hlt : ys.length < xs.length) (h : ∀ j, j < ys.length → ik xs j = ik ys j) : 1 = cmpL xs ys := by
  rw [cmpL_pre (k := ys.length) (by omega) (by omega) h, drop_ik hlt]
  simp [cmpL]
theorem cmpL_end {xs ys : List Int} (hle : xs.length ≤ ys.length) (h : ∀ j, j < xs.length → ik xs j = ik ys j) : (if xs.length < ys.length then -1 else 0) = cmpL xs ys := by
  rw [cmpL_pre (k := xs.length) (by omega) hle h, List.drop_length]
  split
  · rename_i hlt; rw [drop_ik hlt]; simp [cmpL]
  · rw [List.drop_eq_nil_of_le (by omega)]; simp [cmpL]
def T4.list (t : T4) : List Int := [t.get 0, t.get 1, t.get 2, t.get 3]
theorem cmp_lt {t u : T4} : cmpL t.list u.list < 0 ↔ ltT t u = true := by
  simp only [T4.list, cmpL, ltT]
  repeat' split
  all_goals simp_all
  all_goals omega
theorem name3 {P : Program} {c : Code} {Q : Exit → Act → World → Prop} {a : Act} {w : World} {C1 C2 C3 : Array Value} {E1 E2 E3 : TypeId}
    (h : ∀ W, BK W w.heap.size C1 E1 → BK W (w.heap.size + 1) C2 E2 → BK W (w.heap.size + 2) C3 E3 → W.heap.size = w.heap.size + 3 → Below w.heap.size w W → c.wp P Q a W) :
    c.wp P Q a (((w.alloc (.cells C1 E1)).alloc (.cells C2 E2)).alloc (.cells C3 E3)) :=
  h _ (((BK.new _ _ _).alloc _).alloc _) (by simpa using (BK.new (w.alloc (.cells C1 E1)) C2 E2).alloc (.cells C3 E3)) (by simpa using BK.new ((w.alloc (.cells C1 E1)).alloc (.cells C2 E2)) C3 E3)
    (by simp) ((((Below.refl _ _).alloc (Nat.le_refl _) _).alloc (by simp) _).alloc (by simp; omega) _)
theorem add_none (g j : Nat) : (⟨g, 0, none⟩ : Addr).add j = ⟨g, j, none⟩ := by unfold Addr.add; split <;> simp_all
def tcells (ts : List T4) : List Value := ts.flatMap fun t => t.arr.toList
theorem tcells_length (ts : List T4) : (tcells ts).length = ts.length * 4 := by
  induction ts with
  | nil => rfl
  | cons t ts ih => simp only [tcells, List.flatMap_cons, List.length_append, List.length_cons] at *; rw [ih]; simp [T4.arr]; omega
theorem tcells_get {ts : List T4} {k j : Nat} (hk : k < ts.length) (hj : j < 4) : (tcells ts)[k * 4 + j]? = some (.int .i64 ((tk ts k).get j)) := by
  induction ts generalizing k with
  | nil => simp at hk
  | cons t ts ih =>
    simp only [tcells, List.flatMap_cons]
    have hl : t.arr.toList.length = 4 := by simp [T4.arr]
    cases k with
    | zero =>
      rw [List.getElem?_append_left (by omega)]
      simpa [tk] using t.cell j hj
    | succ k =>
      rw [List.getElem?_append_right (by omega), hl, show (k + 1) * 4 + j - 4 = k * 4 + j by omega]
      have := ih (k := k) (by simpa using hk)
      simpa [tcells, tk] using this
def icells (xs : List Int) : List Value := xs.map (.int .i64)
theorem icells_length (xs : List Int) : (icells xs).length = xs.length := by simp [icells]
theorem icells_get {xs : List Int} {k : Nat} (hk : k < xs.length) : (icells xs)[k]? = some (.int .i64 (ik xs k)) := by
  simp [icells, ik, List.getElem?_eq_getElem hk]
def OT (w : World) (base : Nat) (E : TypeId) (v : Value) (ts : List T4) : Prop := w.ownsRow base E 4 v ts.length (tcells ts)
def OI (w : World) (base : Nat) (E : TypeId) (v : Value) (xs : List Int) : Prop := w.ownsRow base E 1 v xs.length (icells xs)
theorem own_cell {w : World} {base : Nat} {E : TypeId} {size n : Nat} {b cap : Nat} {xs : List Value} (h : w.ownsRow base E size (.slice (some ⟨b, 0, none⟩) n cap) n xs) {j : Nat} {u : Value} (hj : xs[j]? = some u) : w.cell? ⟨b, j, none⟩ = some u := by
  have := h.cells (g := b) rfl j u hj
  rwa [add_none] at this
theorem OT.reads {w : World} {base : Nat} {E : TypeId} {v : Value} {ts : List T4} (h : OT w base E v ts) : ∃ A c, v = .slice A ts.length c ∧ RT w A ts ∧ ts.length ≤ c := by
  rcases h.2 with ⟨rfl, hn⟩ | ⟨g, cap, cur, rfl, hb, hg, hle, _⟩
  · exact ⟨none, 0, by rw [hn], fun k hk => by omega, by omega⟩
  · refine ⟨_, cap, rfl, fun k hk => ⟨g, 0, rfl, (Array.getElem?_eq_some_iff.1 hg).1, ?_, ?_, ?_, ?_⟩, hle⟩
    · rw [Nat.zero_add]; exact own_cell h (by simpa using tcells_get hk (j := 0) (by omega))
    · rw [Nat.zero_add]; exact own_cell h (tcells_get hk (by omega))
    · rw [Nat.zero_add]; exact own_cell h (tcells_get hk (by omega))
    · rw [Nat.zero_add]; exact own_cell h (tcells_get hk (by omega))
theorem OI.reads {w : World} {base : Nat} {E : TypeId} {v : Value} {xs : List Int} (h : OI w base E v xs) : ∃ A c, v = .slice A xs.length c ∧ RI w A xs ∧ xs.length ≤ c := by
  rcases h.2 with ⟨rfl, hn⟩ | ⟨g, cap, cur, rfl, hb, hg, hle, _⟩
  · exact ⟨none, 0, by rw [hn], fun k hk => by omega, by omega⟩
  · refine ⟨_, cap, rfl, fun k hk => ⟨g, 0, rfl, (Array.getElem?_eq_some_iff.1 hg).1, ?_⟩, hle⟩
    rw [Nat.zero_add]; exact own_cell h (icells_get hk)
theorem own_to {w w' : World} {base : Nat} {E : TypeId} {size n : Nat} {v : Value} {xs : List Value} (h : w.ownsRow base E size v n xs) (hb : Below w.heap.size w w') : w'.ownsRow base E size v n xs :=
  h.kept (row := none) ⟨hb.os, hb.tape, hb.output, hb.size, fun i hi _ => hb.block i hi⟩ (by cases h' : v.ownBlock <;> simp)
theorem own_base {w : World} {base base' : Nat} {E : TypeId} {size n : Nat} {v : Value} {xs : List Value} (h : w.ownsRow base E size v n xs) (hb : base' ≤ base) : w.ownsRow base' E size v n xs := by
  obtain ⟨h1, h2⟩ := h
  refine ⟨h1, ?_⟩
  rcases h2 with h2 | ⟨g, cap, cur, hv, hg, r⟩
  · exact .inl h2
  · exact .inr ⟨g, cap, cur, hv, Nat.le_trans hb hg, r⟩
theorem OT.to {w w' : World} {base : Nat} {E : TypeId} {v : Value} {ts : List T4} (h : OT w base E v ts) (hb : Below w.heap.size w w') : OT w' base E v ts := own_to h hb
theorem OI.to {w w' : World} {base : Nat} {E : TypeId} {v : Value} {xs : List Int} (h : OI w base E v xs) (hb : Below w.heap.size w w') : OI w' base E v xs := own_to h hb
theorem take_eq_of {α : Type} {l xs : List α} {n : Nat} (hx : xs.length = n) (h : ∀ (j : Nat) (u : α), xs[j]? = some u → l[j]? = some u) : l.take n = xs := by
  apply List.ext_getElem?
  intro j
  rw [List.getElem?_take]
  split
  · rename_i hj
    obtain ⟨u, hu⟩ : ∃ u, xs[j]? = some u := ⟨_, List.getElem?_eq_getElem (by omega)⟩
    rw [hu, h j u hu]
  · rw [List.getElem?_eq_none (by omega)]
theorem OT.of_block {w : World} {b base : Nat} {C : Array Value} {E : TypeId} {ts : List T4} {cap : Nat} (h : BK w b C E) (hb : base ≤ b) (hc : C.size = cap * 4) (hl : ts.length ≤ cap) (hm : cap ≤ 9223372036854775807)
    (hall : ∀ k, k < ts.length → ∀ j, j < 4 → C[k * 4 + j]? = some (.int .i64 ((tk ts k).get j))) : OT w base E (.slice (some ⟨b, 0, none⟩) ts.length cap) ts := by
  refine ⟨tcells_length ts, .inr ⟨b, cap, C, rfl, hb, h, hl, by simpa [maxLen] using hm, hc, ?_⟩⟩
  refine take_eq_of (tcells_length ts) (fun j u hu => ?_)
  have hj : j < ts.length * 4 := by
    rw [← tcells_length ts]; exact (List.getElem?_eq_some_iff.1 hu).1
  have e : j = j / 4 * 4 + j % 4 := by omega
  rw [e, tcells_get (by omega) (by omega)] at hu
  rw [e, Array.getElem?_toList, hall _ (by omega) _ (by omega)]
  exact hu
theorem OI.of_block {w : World} {b base : Nat} {C : Array Value} {E : TypeId} {xs : List Int} {cap : Nat} (h : BK w b C E) (hb : base ≤ b) (hc : C.size = cap) (hl : xs.length ≤ cap) (hm : cap ≤ 9223372036854775807)
    (hall : ∀ k, k < xs.length → C[k]? = some (.int .i64 (ik xs k))) : OI w base E (.slice (some ⟨b, 0, none⟩) xs.length cap) xs := by
  refine ⟨by rw [icells_length, Nat.mul_one], .inr ⟨b, cap, C, rfl, hb, h, hl, by simpa [maxLen] using hm, by omega, ?_⟩⟩
  refine take_eq_of (by rw [icells_length, Nat.mul_one]) (fun j u hu => ?_)
  have hj : j < xs.length := by
    rw [← icells_length xs]; exact (List.getElem?_eq_some_iff.1 hu).1
  rw [icells_get hj] at hu
  rw [Array.getElem?_toList, hall _ hj]
  exact hu
theorem make_row {P : Program} (t e : TypeId) (z : Value) (size bytes : Nat) (ht : P.underlying t = some (.slice e)) (hinfo : (P.info? e).map (fun i => (i.zero, i.size, i.bytes)) = some (some z, size, bytes)) (hs : z.cells.size = size) (hb0 : 0 < bytes)
    (m : Nat) (hn : m * bytes ≤ 281474976710656) :
    ∀ W : World, (Instr.makeSlice t (.int .i64 (m : Int)) (.int .i64 (m : Int))).run P W = .ok (.slice (some ⟨W.heap.size, 0, none⟩) m m) (W.alloc (.cells (madeCells z.cells (m * size)) e)) := by
  intro W
  obtain ⟨i, hi, hzz⟩ := Option.map_eq_some_iff.1 hinfo
  simp only [Prod.mk.injEq] at hzz
  obtain ⟨hz0, hz1, hz2⟩ := hzz
  have hm : m ≤ 281474976710656 := Nat.le_trans (Nat.le_mul_of_pos_right _ hb0) hn
  have hb' : (i.bytes : Int) * (m : Int) ≤ 281474976710656 := by
    have h : ((i.bytes * m : Nat) : Int) ≤ 281474976710656 := by rw [hz2, Nat.mul_comm]; omega
    rwa [Int.natCast_mul] at h
  have hr := run_make (P := P) W t e i z ht hi hz0 .i64 .i64 m m (by omega) (Int.le_refl _) hb' (by omega)
  simp only [Int.toNat_natCast] at hr
  rw [hz1] at hr
  exact hr
theorem made_size (z : Array Value) (n : Nat) : (madeCells z n).size = n := size_madeCells z n
def setT (C : Array Value) (i : Nat) (t : T4) : Array Value :=
  (((C.setIfInBounds i (.int .i64 (t.get 0))).setIfInBounds (i + 1) (.int .i64 (t.get 1))).setIfInBounds (i + 2) (.int .i64 (t.get 2))).setIfInBounds (i + 3) (.int .i64 (t.get 3))
theorem setT_size (C : Array Value) (i : Nat) (t : T4) : (setT C i t).size = C.size := by simp [setT]
theorem setT_in {C : Array Value} {i j : Nat} {t : T4} (h : i + 3 < C.size) (hj : j < 4) : (setT C i t)[i + j]? = some (.int .i64 (t.get j)) := by
  simp only [setT, Array.getElem?_setIfInBounds, Array.size_setIfInBounds]
  match j, hj with
  | 0, _ => rw [if_neg (by omega), if_neg (by omega), if_neg (by omega), if_pos (by omega), if_pos (by omega)]
  | 1, _ => rw [if_neg (by omega), if_neg (by omega), if_pos (by omega), if_pos (by omega)]
  | 2, _ => rw [if_neg (by omega), if_pos (by omega), if_pos (by omega)]
  | 3, _ => rw [if_pos (by omega), if_pos (by omega)]
theorem setT_out {C : Array Value} {i p : Nat} {t : T4} (h : p < i ∨ i + 4 ≤ p) : (setT C i t)[p]? = C[p]? := by
  simp only [setT, Array.getElem?_setIfInBounds]
  rw [if_neg (by omega), if_neg (by omega), if_neg (by omega), if_neg (by omega)]
theorem BK.setT {w : World} {b : Nat} {C : Array Value} {E : TypeId} (h : BK w b C E) (i : Nat) (t : T4) :
    BK ((((w.setCell ⟨b, i, none⟩ (.int .i64 (t.get 0))).setCell ⟨b, i + 1, none⟩ (.int .i64 (t.get 1))).setCell ⟨b, i + 2, none⟩ (.int .i64 (t.get 2))).setCell ⟨b, i + 3, none⟩ (.int .i64 (t.get 3))) b (setT C i t) E :=
  (((h.set i _).set (i + 1) _).set (i + 2) _).set (i + 3) _
theorem below_set4 {B : Nat} {w0 w : World} (h : Below B w0 w) {b : Nat} (hb : B ≤ b) (i : Nat) (x y z u : Value) :
    Below B w0 ((((w.setCell ⟨b, i, none⟩ x).setCell ⟨b, i + 1, none⟩ y).setCell ⟨b, i + 2, none⟩ z).setCell ⟨b, i + 3, none⟩ u) :=
  (((h.setCell hb x).setCell hb y).setCell hb z).setCell hb u
def TilesIn (C : Array Value) (ts : List T4) (k : Nat) : Prop := ∀ k', k' < k → ∀ j, j < 4 → C[k' * 4 + j]? = some (.int .i64 ((tk ts k').get j))
theorem TilesIn.step {C : Array Value} {ts : List T4} {k : Nat} (h : TilesIn C ts k) (hk : k * 4 + 3 < C.size) : TilesIn (setT C (k * 4) (tk ts k)) ts (k + 1) := by
  intro k' hk' j hj
  by_cases e : k' = k
  · subst e; exact setT_in hk hj
  · rw [setT_out (by omega)]; exact h k' (by omega) j hj
theorem eq_of_tk {ts us : List T4} (hl : ts.length = us.length) (h : ∀ j, j < ts.length → tk ts j = tk us j) : ts = us := by
  apply List.ext_getElem hl
  intro j h1 h2
  have := h j h1
  simpa [tk, List.getElem?_eq_getElem h1, List.getElem?_eq_getElem h2] using this
theorem eq_of_ik {xs ys : List Int} (hl : xs.length = ys.length) (h : ∀ j, j < xs.length → ik xs j = ik ys j) : xs = ys := by
  apply List.ext_getElem hl
  intro j h1 h2
  have := h j h1
  simpa [ik, List.getElem?_eq_getElem h1, List.getElem?_eq_getElem h2] using this
theorem namec1 {P : Program} {f : FuncId} {args : Array Value} {w : World} {R : Ending → World → Prop} {C1 : Array Value} {E1 : TypeId}
    (h : ∀ W, BK W w.heap.size C1 E1 → W.heap.size = w.heap.size + 1 → Below w.heap.size w W → Calls P f args W R) : Calls P f args (w.alloc (.cells C1 E1)) R :=
  h _ (BK.new _ _ _) (by simp) ((Below.refl _ _).alloc (Nat.le_refl _) _)
theorem namec2 {P : Program} {f : FuncId} {args : Array Value} {w : World} {R : Ending → World → Prop} {C1 C2 : Array Value} {E1 E2 : TypeId}
    (h : ∀ W, BK W w.heap.size C1 E1 → BK W (w.heap.size + 1) C2 E2 → W.heap.size = w.heap.size + 2 → Below w.heap.size w W → Calls P f args W R) : Calls P f args ((w.alloc (.cells C1 E1)).alloc (.cells C2 E2)) R :=
  h _ ((BK.new _ _ _).alloc _) (by simpa using BK.new (w.alloc (.cells C1 E1)) C2 E2) (by simp) (((Below.refl _ _).alloc (Nat.le_refl _) _).alloc (by simp) _)
theorem namec3 {P : Program} {f : FuncId} {args : Array Value} {w : World} {R : Ending → World → Prop} {C1 C2 C3 : Array Value} {E1 E2 E3 : TypeId}
    (h : ∀ W, BK W w.heap.size C1 E1 → BK W (w.heap.size + 1) C2 E2 → BK W (w.heap.size + 2) C3 E3 → W.heap.size = w.heap.size + 3 → Below w.heap.size w W → Calls P f args W R) :
    Calls P f args (((w.alloc (.cells C1 E1)).alloc (.cells C2 E2)).alloc (.cells C3 E3)) R :=
  h _ (((BK.new _ _ _).alloc _).alloc _) (by simpa using (BK.new (w.alloc (.cells C1 E1)) C2 E2).alloc (.cells C3 E3)) (by simpa using BK.new ((w.alloc (.cells C1 E1)).alloc (.cells C2 E2)) C3 E3)
    (by simp) ((((Below.refl _ _).alloc (Nat.le_refl _) _).alloc (by simp) _).alloc (by simp; omega) _)
theorem RT.cellj {w : World} {A : Option Addr} {ts : List T4} (h : RT w A ts) {k : Nat} (hk : k < ts.length) :
    ∃ b o, A = some ⟨b, o, none⟩ ∧ b < w.heap.size ∧ ∀ j, j < 4 → w.cell? ⟨b, o + k * 4 + j, none⟩ = some (.int .i64 ((tk ts k).get j)) := by
  obtain ⟨b, o, e, hb, h0, h1, h2, h3⟩ := h k hk
  refine ⟨b, o, e, hb, fun j hj => ?_⟩
  match j, hj with
  | 0, _ => exact h0
  | 1, _ => exact h1
  | 2, _ => exact h2
  | 3, _ => exact h3
def pairV (r : Bool × Int) : Value := .tuple #[.bool r.1, .int .i64 r.2]
end Go.Proofs.Ytgdmflmglkakgaa
namespace Go.Proofs.Ytgdmflmglkakgaa
open Go Go.RowKit Go.Proofs
set_option linter.unusedVariables false
set_option linter.unusedSimpArgs false
structure Only (lo hi : Nat) (w w' : World) : Prop where
  os : w'.os = w.os
  tape : w'.tape = w.tape
  output : w'.output = w.output
  size : w.heap.size ≤ w'.heap.size
  block : ∀ i, i < w.heap.size → i < lo ∨ hi ≤ i → w'.heap[i]? = w.heap[i]?
theorem only_of {w w' : World} (h : Below w.heap.size w w') (lo hi : Nat) : Only lo hi w w' := ⟨h.os, h.tape, h.output, h.size, fun i hi' _ => h.block i hi'⟩
theorem Only.refl (lo hi : Nat) (w : World) : Only lo hi w w := ⟨rfl, rfl, rfl, Nat.le_refl _, fun _ _ _ => rfl⟩
theorem Only.trans {lo hi : Nat} {a b c : World} (h : Only lo hi a b) (k : Only lo hi b c) : Only lo hi a c :=
  ⟨k.os.trans h.os, k.tape.trans h.tape, k.output.trans h.output, Nat.le_trans h.size k.size, fun i hi' hd => (k.block i (Nat.lt_of_lt_of_le hi' h.size) hd).trans (h.block i hi' hd)⟩
theorem Only.below {lo hi B : Nat} {w w' : World} (h : Only lo hi w w') (hB : B ≤ lo) (hs : B ≤ w.heap.size) : Below B w w' :=
  ⟨h.os, h.tape, h.output, h.size, fun i hi' => h.block i (by omega) (.inl (by omega))⟩
theorem Only.setCell {lo hi : Nat} {a w : World} (h : Only lo hi a w) {b : Nat} (h1 : lo ≤ b) (h2 : b < hi) (o : Nat) (u : Value) : Only lo hi a (w.setCell ⟨b, o, none⟩ u) :=
  h.trans ⟨rfl, rfl, rfl, by simp [World.setCell], fun k hk hd => Below.heap_setCell _ _ _ _ (by show k ≠ b; omega)⟩
theorem BK.only {w w' : World} {b lo hi : Nat} {C : Array Value} {E : TypeId} (h : BK w b C E) (k : Only lo hi w w') (hd : b < lo ∨ hi ≤ b) : BK w' b C E := (k.block b h.lt hd).trans h
theorem cell_only {w w' : World} {lo hi : Nat} {b o : Nat} {v : Value} (k : Only lo hi w w') (hd : b < lo ∨ hi ≤ b) (hc : w.cell? ⟨b, o, none⟩ = some v) : w'.cell? ⟨b, o, none⟩ = some v :=
  (World.cell?_of_block (w := w) (a := ⟨b, o, none⟩) (k.block b (World.block_lt_of_cell? w _ hc) hd)).trans hc
structure OW (w : World) (lo hi : Nat) (E : TypeId) (size : Nat) (v : Value) (n : Nat) (cells : List Value) : Prop where
  own : w.ownsRow lo E size v n cells
  up : ∀ b, v.ownBlock = some b → b < hi
  top : hi ≤ w.heap.size
theorem OW.of {w : World} {lo : Nat} {E : TypeId} {size n : Nat} {v : Value} {cells : List Value} (h : w.ownsRow lo E size v n cells) : OW w lo w.heap.size E size v n cells :=
  ⟨h, fun b hb => (h.lt b hb).2, Nat.le_refl _⟩
theorem OW.only {w w' : World} {lo hi lo' hi' : Nat} {E : TypeId} {size n : Nat} {v : Value} {cells : List Value} (h : OW w lo hi E size v n cells) (k : Only lo' hi' w w') (hd : hi ≤ lo' ∨ hi' ≤ lo) : OW w' lo hi E size v n cells := by
  refine ⟨?_, h.up, Nat.le_trans h.top k.size⟩
  obtain ⟨h1, h2⟩ := h.own
  refine ⟨h1, ?_⟩
  rcases h2 with h2 | ⟨g, cap, cur, hv, hg, hh, r⟩
  · exact .inl h2
  · refine .inr ⟨g, cap, cur, hv, hg, ?_, r⟩
    have hu := h.up g (by rw [hv]; rfl)
    exact (k.block g (Nat.lt_of_lt_of_le hu h.top) (by omega)).trans hh
theorem OW.to {w w' : World} {lo hi : Nat} {E : TypeId} {size n : Nat} {v : Value} {cells : List Value} (h : OW w lo hi E size v n cells) (k : Below w.heap.size w w') : OW w' lo hi E size v n cells :=
  h.only (only_of k w.heap.size w.heap.size) (.inl h.top)
theorem OW.form {w : World} {lo hi : Nat} {E : TypeId} {size n : Nat} {v : Value} {cells : List Value} (h : OW w lo hi E size v n cells) :
    ∃ A c, v = .slice A n c ∧ ((A = none ∧ n = 0 ∧ c = 0) ∨ ∃ g cur, A = some ⟨g, 0, none⟩ ∧ lo ≤ g ∧ g < hi ∧ BK w g cur E ∧ n ≤ c ∧ c ≤ 9223372036854775807 ∧ cur.size = c * size) := by
  rcases h.own.2 with ⟨rfl, hn⟩ | ⟨g, cap, cur, rfl, hb, hg, hle, hm, hsz, -⟩
  · exact ⟨none, 0, by rw [hn], .inl ⟨rfl, hn, rfl⟩⟩
  · exact ⟨_, cap, rfl, .inr ⟨g, cur, rfl, hb, h.up g rfl, hg, hle, by simpa [maxLen] using hm, hsz⟩⟩
theorem OW.nil (w : World) (lo hi : Nat) (E : TypeId) (size : Nat) (ht : hi ≤ w.heap.size) : OW w lo hi E size (.slice none 0 0) 0 [] := ⟨w.ownsRow_nil lo E size, fun b hb => by simp [Value.ownBlock] at hb, ht⟩
theorem OW.readsI {w : World} {lo hi : Nat} {E : TypeId} {v : Value} {xs : List Int} (h : OW w lo hi E 1 v xs.length (icells xs)) : ∃ A c, v = .slice A xs.length c ∧ RI w A xs ∧ xs.length ≤ c := OI.reads h.own
theorem OW.readsT {w : World} {lo hi : Nat} {E : TypeId} {v : Value} {ts : List T4} (h : OW w lo hi E 4 v ts.length (tcells ts)) : ∃ A c, v = .slice A ts.length c ∧ RT w A ts ∧ ts.length ≤ c := OT.reads h.own
theorem OW.cell {w : World} {lo hi : Nat} {E : TypeId} {size n c : Nat} {g : Nat} {cells : List Value} (h : OW w lo hi E size (.slice (some ⟨g, 0, none⟩) n c) n cells) {j : Nat} {u : Value} (hj : cells[j]? = some u) : w.cell? ⟨g, j, none⟩ = some u := own_cell h.own hj
theorem rt_of {w : World} {lo hi : Nat} {E : TypeId} {A : Option Addr} {n c : Nat} {ts : List T4} (h : OW w lo hi E 4 (.slice A n c) n (tcells ts)) (hn : n = ts.length) : RT w A ts := by
  subst hn
  obtain ⟨A', c', e, hr, -⟩ := h.readsT
  injection e with e1 e2 e3
  subst e1; exact hr
theorem le_of {w : World} {lo hi : Nat} {E : TypeId} {size : Nat} {A : Option Addr} {n c : Nat} {cells : List Value} (h : OW w lo hi E size (.slice A n c) n cells) : n ≤ c := by
  obtain ⟨A', c', e, hf⟩ := h.form
  injection e with e1 e2 e3
  subst e3
  rcases hf with ⟨-, h0, -⟩ | ⟨g, cur, -, -, -, -, hle, -⟩
  · omega
  · exact hle
section
variable {P : Program} {ops : Array Oper} {rest : List Oper} {o : Oper} {a : Act} {Q : Exit → Act → World → Prop}
end
theorem BK.grown {w w' : World} {b : Nat} {C : Array Value} {E : TypeId} {row : Option Nat} (h : BK w b C E) (hg : w.grownBy w' row) (hne : some b ≠ row) : BK w' b C E := (hg.block b h.lt hne).trans h
theorem OI.nil (w : World) (base : Nat) (E : TypeId) : OI w base E (.slice none 0 0) [] := w.ownsRow_nil base E 1
theorem OI.lit0 (w : World) (base : Nat) (E : TypeId) (hb : base ≤ w.heap.size) : OI (w.alloc (.cells #[] E)) base E (.slice (some ⟨w.heap.size, 0, none⟩) 0 0) [] := by
  have h := OI.of_block (BK.new w #[] E) (base := base) (xs := []) (cap := 0) hb rfl (Nat.le_refl _) (by omega) (fun k hk => by simp at hk)
  simpa using h
theorem OT.empty {w : World} {b base : Nat} {E : TypeId} (h : BK w b #[] E) (hb : base ≤ b) : OT w base E (.slice (some ⟨b, 0, none⟩) 0 0) [] := by
  have h := OT.of_block h (base := base) (ts := []) (cap := 0) hb rfl (Nat.le_refl _) (by omega) (fun k hk => by simp at hk)
  simpa using h
theorem OI.empty {w : World} {b base : Nat} {E : TypeId} (h : BK w b #[] E) (hb : base ≤ b) : OI w base E (.slice (some ⟨b, 0, none⟩) 0 0) [] := by
  have h := OI.of_block h (base := base) (xs := []) (cap := 0) hb rfl (Nat.le_refl _) (by omega) (fun k hk => by simp at hk)
  simpa using h
theorem OT.lit0 (w : World) (base : Nat) (E : TypeId) (hb : base ≤ w.heap.size) : OT (w.alloc (.cells #[] E)) base E (.slice (some ⟨w.heap.size, 0, none⟩) 0 0) [] := by
  have h := OT.of_block (BK.new w #[] E) (base := base) (ts := []) (cap := 0) hb rfl (Nat.le_refl _) (by omega) (fun k hk => by simp at hk)
  simpa using h
end Go.Proofs.Ytgdmflmglkakgaa
namespace Go.Proofs.Ytgdmflmglkakgaa
open Go Go.RowKit Go.Proofs
set_option linter.unusedVariables false
set_option linter.unusedSimpArgs false
section
variable {P : Program} {ops : Array Oper} {rest : List Oper} {o : Oper} {a : Act} {Q : Exit → Act → World → Prop}
end
end Go.Proofs.Ytgdmflmglkakgaa
namespace Go.Proofs.Ytgdmflmglkakgaa
open Go Go.RowKit Go.Proofs
set_option linter.unusedVariables false
set_option linter.unusedSimpArgs false
theorem add_off (b o j : Nat) : (⟨b, o, none⟩ : Addr).add j = ⟨b, o + j, none⟩ := by unfold Addr.add; split <;> simp_all
theorem RT.news {w : World} {ad : Addr} {us : List T4} (h : RT w (some ad) us) : ∀ (j : Nat) (u : Value), (tcells us)[j]? = some u → w.cell? (ad.add j) = some u := by
  intro j u hu
  have hj : j < us.length * 4 := by rw [← tcells_length us]; exact (List.getElem?_eq_some_iff.1 hu).1
  have hk : j / 4 < us.length := by omega
  obtain ⟨b, o, e, hb, hc⟩ := h.cellj hk
  injection e with e
  subst e
  have hr : j % 4 < 4 := by omega
  have hc' := hc (j % 4) hr
  have ej : j = j / 4 * 4 + j % 4 := by omega
  rw [ej, tcells_get hk hr] at hu
  rw [add_off, ← hu, ← hc', ej]
  congr 2; omega
theorem RI.news {w : World} {ad : Addr} {us : List Int} (h : RI w (some ad) us) : ∀ (j : Nat) (u : Value), (icells us)[j]? = some u → w.cell? (ad.add j) = some u := by
  intro j u hu
  have hj : j < us.length := by rw [← icells_length us]; exact (List.getElem?_eq_some_iff.1 hu).1
  obtain ⟨b, o, e, hb, hc⟩ := h j hj
  injection e with e
  subst e
  rw [icells_get hj] at hu
  rw [add_off, ← hu, ← hc]
theorem OT.one {w : World} {b base : Nat} {E : TypeId} {t : T4} (h : BK w b t.arr E) (hb : base ≤ b) : OT w base E (.slice (some ⟨b, 0, none⟩) 1 1) [t] := by
  have h := OT.of_block h (base := base) (ts := [t]) (cap := 1) hb rfl (Nat.le_refl _) (by omega) (fun k hk j hj => by
    obtain rfl : k = 0 := by simp at hk; omega
    simpa [tk] using t.cell j hj)
  simpa using h
theorem OI.one {w : World} {b base : Nat} {E : TypeId} {x : Int} (h : BK w b #[.int .i64 x] E) (hb : base ≤ b) : OI w base E (.slice (some ⟨b, 0, none⟩) 1 1) [x] := by
  have h := OI.of_block h (base := base) (xs := [x]) (cap := 1) hb rfl (Nat.le_refl _) (by omega) (fun k hk => by
    obtain rfl : k = 0 := by simp at hk; omega
    simp [ik])
  simpa using h
section
variable {P : Program} {ops : Array Oper} {rest : List Oper} {o : Oper} {a : Act} {Q : Exit → Act → World → Prop} {K : Act → World → Prop} {W : World}
end
theorem RT.drop {w : World} {b o : Nat} {ts : List T4} (h : RT w (some ⟨b, o, none⟩) ts) (i : Nat) : RT w (some ⟨b, o + i * 4, none⟩) (ts.drop i) := by
  intro k hk
  rw [List.length_drop] at hk
  obtain ⟨b', o', e, hb, h0, h1, h2, h3⟩ := h (i + k) (by omega)
  injection e with e; injection e with e1 e2; subst e1 e2
  have et : tk (ts.drop i) k = tk ts (i + k) := by simp [tk, List.getD, List.getElem?_drop]
  have eo : o + i * 4 + k * 4 = o + (i + k) * 4 := by omega
  refine ⟨b, _, rfl, hb, ?_, ?_, ?_, ?_⟩ <;> rw [et, eo] <;> assumption
theorem RT.take {w : World} {A : Option Addr} {ts : List T4} (h : RT w A ts) (i : Nat) : RT w A (ts.take i) := by
  intro k hk
  rw [List.length_take] at hk
  have et : tk (ts.take i) k = tk ts k := by simp [tk, List.getD, List.getElem?_take, show k < i by omega]
  rw [et]
  exact h k (by omega)
end Go.Proofs.Ytgdmflmglkakgaa
namespace Go.Proofs.Ytgdmflmglkakgaa
open Go Go.RowKit Go.Proofs Go.Proofs.YtgdmflmglkakgaaW.PrintWords Go.Proofs.Ytgdmflmglkakgaa.Q
set_option linter.unusedVariables false
set_option linter.unusedSimpArgs false
abbrev STile := Q.S63
def toT (s : STile) : T4 := ⟨s.f0, s.f1, s.f2, s.f3⟩
def toS (t : T4) : STile := ⟨t.a, t.b, t.c, t.d⟩
theorem toT_toS (t : T4) : toT (toS t) = t := rfl
theorem toS_toT (s : STile) : toS (toT s) = s := rfl
theorem map_toTS (l : List T4) : (l.map toS).map toT = l := by simp [List.map_map, Function.comp_def, toT_toS]
theorem map_toST (l : List STile) : (l.map toT).map toS = l := by simp [List.map_map, Function.comp_def, toS_toT]
theorem spot_none {w : World} {a : Addr} {v : Value} (h : w.cell? a = some v) : a.spot = none := by
  unfold World.cell? at h
  split at h
  · split at h
    · exact absurd h (by simp)
    · rename_i hn
      cases hs : a.spot with
      | none => rfl
      | some x => rw [hs] at hn; simp at hn
  · exact absurd h (by simp)
theorem tk_map (l : List STile) (k : Nat) (h : k < l.length) : tk (l.map toT) k = toT l[k] := by
  simp [tk, List.getD, List.getElem?_map, List.getElem?_eq_getElem h]
theorem rt_of_C {w : World} {A : Option Addr} {l : List STile} (h : Kd.C k63 w A l.length l) : RT w A (l.map toT) := by
  intro k hk
  rw [List.length_map] at hk
  obtain ⟨ad, e, hc⟩ := h.2.2 (by omega)
  have g : ∀ j (hj : j < l.length) i v, ([.int .i64 l[j].f0, .int .i64 l[j].f1, .int .i64 l[j].f2, .int .i64 l[j].f3] : List Value)[i]? = some v → w.cell? (ad.add (j * 4 + i)) = some v := by
    intro j hj i v hv
    obtain ⟨c, hcl, hK, hcell⟩ := hc j l[j] (List.getElem?_eq_getElem hj)
    rw [k63_open hK] at hcell
    exact hcell i v hv
  have h0 := g 0 (by omega) 0 _ rfl
  have hs : ad.spot = none := by
    have := spot_none h0
    simpa [Addr.add] using this
  obtain ⟨b, o, s⟩ := ad
  simp only at hs
  subst hs
  have hb : b < w.heap.size := by
    have := World.block_lt_of_cell? w _ h0
    simpa [Addr.add] using this
  refine ⟨b, o, e, hb, ?_, ?_, ?_, ?_⟩ <;> rw [tk_map _ _ hk]
  · have := g k hk 0 _ rfl; rwa [add_off] at this
  · have := g k hk 1 _ rfl; rwa [add_off, ← Nat.add_assoc] at this
  · have := g k hk 2 _ rfl; rwa [add_off, ← Nat.add_assoc] at this
  · have := g k hk 3 _ rfl; rwa [add_off, ← Nat.add_assoc] at this
theorem C_of_rt {w : World} {A : Option Addr} {ts : List T4} (h : RT w A ts) (hl : ts.length ≤ 9223372036854775807) : Kd.C k63 w A (ts.map toS).length (ts.map toS) := by
  refine ⟨rfl, by simpa using hl, fun hn => ?_⟩
  rw [List.length_map] at hn
  obtain ⟨b, o, e, hb, -⟩ := h 0 hn
  refine ⟨_, e, fun j p hj => ?_⟩
  have hjl : j < ts.length := by have := (List.getElem?_eq_some_iff.1 hj).1; simpa using this
  have hp : p = toS (tk ts j) := by
    rw [List.getElem?_map, List.getElem?_eq_getElem hjl] at hj
    simp only [Option.map_some, Option.some.injEq] at hj
    rw [← hj]; simp [tk, List.getD, List.getElem?_eq_getElem hjl]
  subst hp
  obtain ⟨b', o', e', -, c0, c1, c2, c3⟩ := h j hjl
  rw [e] at e'
  injection e' with e'; injection e' with e1 e2; subst e1 e2
  refine ⟨_, rfl, k63_mk w (toS (tk ts j)), fun i u hu => ?_⟩
  rw [add_off, ← Nat.add_assoc]
  match i, hu with
  | 0, hu => simp at hu; subst hu; exact c0
  | 1, hu => simp at hu; subst hu; exact c1
  | 2, hu => simp at hu; subst hu; exact c2
  | 3, hu => simp at hu; subst hu; exact c3
  | i + 4, hu => simp at hu
theorem ri_of_C {w : World} {A : Option Addr} {l : List Int} (h : Kd.C (Kd.int .i64) w A l.length l) : RI w A l := by
  intro k hk
  obtain ⟨ad, e, hc⟩ := h.2.2 (by omega)
  have g : ∀ j (hj : j < l.length), w.cell? (ad.add j) = some (.int .i64 l[j]) := by
    intro j hj
    obtain ⟨c, hcl, hK, hcell⟩ := hc j l[j] (List.getElem?_eq_getElem hj)
    have hK' : c = [.int .i64 l[j]] := hK
    subst hK'
    have := hcell 0 _ rfl
    have e1 : (Kd.int IntKind.i64).sz = 1 := rfl
    rwa [e1, Nat.mul_one, Nat.add_zero] at this
  have h0 := g 0 (by omega)
  have hs : ad.spot = none := by
    have := spot_none h0
    simpa [Addr.add] using this
  obtain ⟨b, o, s⟩ := ad
  simp only at hs
  subst hs
  have hb : b < w.heap.size := by
    have := World.block_lt_of_cell? w _ h0
    simpa [Addr.add] using this
  refine ⟨b, o, e, hb, ?_⟩
  have := g k hk
  rw [add_off] at this
  rw [this]
  simp [ik, List.getD, List.getElem?_eq_getElem hk]
theorem C_of_ri {w : World} {A : Option Addr} {xs : List Int} (h : RI w A xs) (hl : xs.length ≤ 9223372036854775807) : Kd.C (Kd.int .i64) w A xs.length xs := by
  refine ⟨rfl, hl, fun hn => ?_⟩
  obtain ⟨b, o, e, hb, -⟩ := h 0 hn
  refine ⟨_, e, fun j p hj => ?_⟩
  have hjl := (List.getElem?_eq_some_iff.1 hj).1
  have hp : p = ik xs j := by
    rw [List.getElem?_eq_getElem hjl] at hj
    simp only [Option.some.injEq] at hj
    rw [← hj]; simp [ik, List.getD, List.getElem?_eq_getElem hjl]
  subst hp
  obtain ⟨b', o', e', -, c0⟩ := h j hjl
  rw [e] at e'
  injection e' with e'; injection e' with e1 e2; subst e1 e2
  refine ⟨[.int .i64 (ik xs j)], rfl, rfl, fun i u hu => ?_⟩
  have e1 : (Kd.int IntKind.i64).sz = 1 := rfl
  match i, hu with
  | 0, hu => simp at hu; subst hu; rw [e1, Nat.mul_one, Nat.add_zero, add_off]; exact c0
  | i + 1, hu => simp at hu
theorem ow_of_R {w : World} {base : Nat} {e : TypeId} {v : Value} {xs : List Int} {ok : Nat → Prop} (h : Kd.R (Kd.int .i64) e w base ok v xs) : OW w base w.heap.size e 1 v xs.length (icells xs) := by
  obtain ⟨-, inner, ho, hr⟩ := h
  have e1 : (Kd.int IntKind.i64).sz = 1 := rfl
  have : inner = icells xs := by
    apply List.ext_getElem?
    intro j
    by_cases hj : j < xs.length
    · have h2 := hr.2 j _ (List.getElem?_eq_getElem hj)
      have hl : j < inner.length := by rw [hr.1, e1]; omega
      rw [e1, Nat.mul_one, List.drop_eq_getElem_cons hl, List.take_succ_cons, List.take_zero] at h2
      have h3 : [inner[j]] = [Value.int .i64 xs[j]] := h2
      rw [List.getElem?_eq_getElem hl, icells, List.getElem?_map, List.getElem?_eq_getElem hj]
      simpa using h3
    · rw [List.getElem?_eq_none (by rw [hr.1, e1]; omega), List.getElem?_eq_none (by rw [icells_length]; omega)]
  subst this
  exact OW.of ho
end Go.Proofs.Ytgdmflmglkakgaa
namespace Go.Proofs.Ytgdmflmglkakgaa
open Go Go.RowKit Go.Proofs Go.Proofs.YtgdmflmglkakgaaW.PrintWords Go.Proofs.YtgdmflmglkakgaaW.PrintMore Go.Proofs.Ytgdmflmglkakgaa.Q
set_option linter.unusedVariables false
set_option linter.unusedSimpArgs false
def cap (x : Int) : Int := if x ≤ 1000000000000000 then x else 1000000000000001
theorem cap_add {x y : Int} (hx : 0 ≤ x) (hy : 0 ≤ y) : cap (cap x + cap y) = cap (x + y) := by unfold cap; split <;> split <;> split <;> (try split) <;> omega
theorem rd_nat (xs : List Int) (i : Nat) : rd xs (i : Int) = xs.getD i 0 := by simp [rd]
def addT (now acc : List Int) (t : STile) : List Int := acc.set t.f2.toNat (rd acc t.f2 + rd now t.f0)
def capT (now acc : List Int) (t : STile) : List Int := acc.set t.f2.toNat (cap (rd acc t.f2 + rd now t.f0))
theorem addT_len (now acc : List Int) (t : STile) : (addT now acc t).length = acc.length := by simp [addT]
theorem capT_len (now acc : List Int) (t : STile) : (capT now acc t).length = acc.length := by simp [capT]
theorem rd_at {xs : List Int} {i : Int} (h : 0 ≤ i) : rd xs i = xs.getD i.toNat 0 := by simp [rd]
def Cut (u v : List Int) : Prop := u.length = v.length ∧ (∀ i, 0 ≤ v.getD i 0) ∧ ∀ i, u.getD i 0 = cap (v.getD i 0)
theorem getD_set (v : List Int) (e i : Nat) (x : Int) (h : e < v.length) : (v.set e x).getD i 0 = if i = e then x else v.getD i 0 := by
  simp only [List.getD_eq_getElem?_getD, List.getElem?_set]
  by_cases hi : e = i
  · subst hi; simp [h]
  · simp [hi, Ne.symm hi]
theorem Cut.step {c : Nat} {u v a b : List Int} (hn : Cut u v) (ha : Cut a b) (hu : u.length = c) (hb : a.length = c) {t : STile} (ht : 0 ≤ t.f0 ∧ t.f0 < c ∧ 0 ≤ t.f2 ∧ t.f2 < c) : Cut (capT u a t) (addT v b t) := by
  obtain ⟨h0, h1, h2, h3⟩ := ht
  have hl := ha.1
  refine ⟨by rw [capT_len, addT_len]; exact ha.1, fun i => ?_, fun i => ?_⟩
  · rw [addT, getD_set _ _ _ _ (by omega)]
    split
    · rw [rd_at h2, rd_at h0]; have := ha.2.1 t.f2.toNat; have := hn.2.1 t.f0.toNat; omega
    · exact ha.2.1 i
  · rw [capT, addT, getD_set _ _ _ _ (by omega), getD_set _ _ _ _ (by omega)]
    split
    · rw [rd_at h2, rd_at h0, rd_at h2, rd_at h0, ha.2.2, hn.2.2, cap_add (ha.2.1 _) (hn.2.1 _)]
    · exact ha.2.2 i
end Go.Proofs.Ytgdmflmglkakgaa
namespace Go.Proofs.Ytgdmflmglkakgaa
open Go Go.RowKit Go.Proofs Go.Proofs.YtgdmflmglkakgaaW.PrintWords Go.Proofs.YtgdmflmglkakgaaW.PrintMore Go.Proofs.Ytgdmflmglkakgaa.Q
set_option linter.unusedVariables false
set_option linter.unusedSimpArgs false
def cell (xs : List (List Int)) (y x : Nat) : Int := (xs.getD y []).getD x 0
def numB (n : Nat) (x : Int) : Bool := inB x 0 ((n : Int) - 1)
def rowOk (w : Nat) (r : List Int) : Bool := decide (r.length = w ∧ 1 ≤ r.length ∧ r.length ≤ 8)
def width (xs : List (List Int)) : Nat := (xs.getD 0 []).length
def shapeB (xs : List (List Int)) : Bool := decide (1 ≤ xs.length ∧ xs.length ≤ 8) && xs.all (rowOk (width xs))
def numsB (n : Nat) (xs : List (List Int)) : Bool := xs.all fun r => r.all (numB n)
def tabB (n : Nat) (xs : List (List Int)) : Bool := numsB n xs && shapeB xs
structure Tab (n : Nat) (xs : List (List Int)) : Prop where
  h1 : 1 ≤ xs.length
  h8 : xs.length ≤ 8
  w1 : 1 ≤ width xs
  w8 : width xs ≤ 8
  len : ∀ y, y < xs.length → (xs.getD y []).length = width xs
  lo : ∀ y x, y < xs.length → x < width xs → 0 ≤ cell xs y x
  up : ∀ y x, y < xs.length → x < width xs → cell xs y x < n
theorem inB_iff' {x lo hi : Int} : inB x lo hi = true ↔ lo ≤ x ∧ x ≤ hi := by simp [inB]
theorem tab_of {n : Nat} {xs : List (List Int)} (h : tabB n xs = true) : Tab n xs := by
  simp only [tabB, shapeB, Bool.and_eq_true, decide_eq_true_eq] at h
  obtain ⟨hn, ⟨h1, h8⟩, hr⟩ := h
  rw [List.all_eq_true] at hr
  have hlen : ∀ y, y < xs.length → (xs.getD y []).length = width xs ∧ 1 ≤ (xs.getD y []).length ∧ (xs.getD y []).length ≤ 8 := by
    intro y hy
    have := hr xs[y] (List.getElem_mem hy)
    simp only [rowOk, decide_eq_true_eq] at this
    rw [List.getD_eq_getElem?_getD, List.getElem?_eq_getElem hy]
    exact this
  have hw := hlen 0 (by omega)
  have hnum : ∀ y x, y < xs.length → x < width xs → numB n (cell xs y x) = true := by
    intro y x hy hx
    have h2 := (hlen y hy).1
    rw [numsB, List.all_eq_true] at hn
    have h3 := hn xs[y] (List.getElem_mem hy)
    rw [List.all_eq_true] at h3
    have e : xs.getD y [] = xs[y] := by rw [List.getD_eq_getElem?_getD, List.getElem?_eq_getElem hy]; rfl
    rw [e] at h2
    have h4 := h3 (xs[y][x]'(by omega)) (List.getElem_mem _)
    unfold cell
    rw [e, List.getD_eq_getElem?_getD, List.getElem?_eq_getElem (show x < xs[y].length by omega)]
    exact h4
  refine ⟨h1, h8, by unfold width; omega, by unfold width; omega, fun y hy => (hlen y hy).1, fun y x hy hx => ?_, fun y x hy hx => ?_⟩
  · exact (inB_iff'.1 (hnum y x hy hx)).1
  · have := (inB_iff'.1 (hnum y x hy hx)).2; omega
def tileAt (l : List STile) (i : Int) : STile := rd_T63 l i
def cellB (l : List STile) (xs : List (List Int)) (y x : Nat) : Bool :=
  (decide (x = 0) || decide ((tileAt l (cell xs y (x - 1))).f2 = (tileAt l (cell xs y x)).f0)) && (decide (y = 0) || decide ((tileAt l (cell xs (y - 1) x)).f3 = (tileAt l (cell xs y x)).f1))
def allN (p : Nat → Bool) : Nat → Nat → Bool
  | 0, _ => true
  | d + 1, i => p i && allN p d (i + 1)
theorem allN_false {p : Nat → Bool} {d i j : Nat} (h1 : i ≤ j) (h2 : j < i + d) (h : p j = false) : allN p d i = false := by
  induction d generalizing i with
  | zero => omega
  | succ d ih =>
    rw [allN]
    by_cases e : i = j
    · subst e; rw [h]; rfl
    · rw [ih (by omega) (by omega), Bool.and_false]
theorem allN_true {p : Nat → Bool} {d i : Nat} (h : ∀ j, i ≤ j → j < i + d → p j = true) : allN p d i = true := by
  induction d generalizing i with
  | zero => rfl
  | succ d ih => rw [allN, h i (Nat.le_refl _) (by omega), ih fun j h1 h2 => h j (by omega) (by omega)]; rfl
def rowB (l : List STile) (xs : List (List Int)) (y : Nat) : Bool := allN (cellB l xs y) (width xs) 0
def goodB (l : List STile) (xs : List (List Int)) : Bool := allN (rowB l xs) xs.length 0
def fillR (C : Int) (ts : List T4) (xs : List (List Int)) : Bool × Int := if isS C ts = true then if tabB ts.length xs = true then (goodB (ts.map toS) xs, 0) else (false, 2) else (false, 1)
end Go.Proofs.Ytgdmflmglkakgaa
namespace Go.Proofs.Ytgdmflmglkakgaa
open Go Go.RowKit Go.Proofs
set_option linter.unusedVariables false
set_option linter.unusedSimpArgs false
set_option maxHeartbeats 400000 in
theorem l01In_any (n lo hi : Int) (w : World) :
    Calls Try.prog 54 #[.int .i64 n, .int .i64 lo, .int .i64 hi] w fun e w' => e = .returned (.bool (inB n lo hi)) ∧ w = w' := by
  go_enter Try.func54, Try.ntmps54
  go_wp2
  all_goals (go_ret; exact ⟨ret_bool (by simp [inB, *] <;> omega), rfl⟩)
set_option maxHeartbeats 400000 in
theorem within_any (n lo hi : Int) (w : World) :
    Calls Try.prog 64 #[.int .i64 n, .int .i64 lo, .int .i64 hi] w fun e w' => e = .returned (.bool (inB n lo hi)) ∧ w = w' := by
  go_enter Try.func64, Try.ntmps64
  go_wp2
  all_goals (go_ret; exact ⟨ret_bool (by simp [inB, *] <;> omega), rfl⟩)
set_option maxHeartbeats 400000 in
theorem l01Tile_any (n : Int) (t : T4) (w : World) :
    Calls Try.prog 59 #[.int .i64 n, .agg t.arr] w fun e w' => e = .returned (.bool (tileB t (wrap64 (n-1)))) ∧ Below w.heap.size w w' := by
  go_enter Try.func59, Try.ntmps59
  go_wp2
  go_loop [5] (fun i => ∃ k : Nat, k ≤ 4 ∧ i = .int .i64 k ∧ ∀ j, j < k → inB (t.get j) 0 (wrap64 (n-1)) = true) (fun i => 4 - (intOf i).toNat)
  case atStart => exact ⟨0, by omega, rfl, fun j h => by omega⟩
  case round =>
    obtain ⟨k, hk, rfl, hall⟩ := hrel
    have HA := Lib.hid hall
    clear hall
    by_cases hlt : k < 4
    · have hcell := t.cell k hlt
      cases hb : inB (t.get k) 0 (wrap64 (n-1))
      · have HB := Lib.hid hb; clear hb
        go_wp2_with (go_at_call 54; refine (l01In_any _ _ _ _).mono ?_; rintro e w' ⟨rfl, rfl⟩; rw [HB.out])
        go_ret
        exact ⟨ret_bool (tileB_false hlt HB.out), by simpa using (Below.refl _ _).alloc (Nat.le_refl _) _⟩
      · have HB := Lib.hid hb; clear hb
        go_wp2_with (go_at_call 54; refine (l01In_any _ _ _ _).mono ?_; rintro e w' ⟨rfl, rfl⟩; rw [HB.out])
        go_round
        case rel => exact ⟨k + 1, by omega, by go_num, fun j hj => by
          by_cases e : j = k
          · subst e; exact HB.out
          · exact HA.out j (by omega)⟩
        case measure => simp [intOf]; omega
    · go_wp2
      go_ret
      exact ⟨ret_bool (tileB_true hk hlt HA.out), by simpa using (Below.refl _ _).alloc (Nat.le_refl _) _⟩
set_option maxHeartbeats 400000 in
theorem l01Before_any (t u : T4) (w : World) :
    Calls Try.prog 60 #[.agg t.arr, .agg u.arr] w fun e w' => e = .returned (.bool (ltT t u)) ∧ Below w.heap.size w w' := by
  go_enter Try.func60, Try.ntmps60
  go_wp2
  refine name2 ?_
  intro W1 b1 b2 hz hb0
  have HB0 := Lib.hid hb0; have HZ := Lib.hid hz; clear hb0 hz
  go_loopw [5] (fun i wr => Below W1.heap.size W1 wr ∧ ∃ k : Nat, k ≤ 4 ∧ i = .int .i64 k ∧ ∀ j, j < k → t.get j = u.get j) (fun i _ => 4 - (intOf i).toNat)
  case atStart => exact ⟨Below.refl _ _, 0, by omega, rfl, fun j h => by omega⟩
  case round =>
    obtain ⟨hB, k, hk, rfl, hall⟩ := hrel
    have HB := Lib.hid hB; have HA := Lib.hid hall; clear hB hall
    have HE := Lib.hid (HB0.out.trans (HB.out.mono (by rw [HZ.out]; omega)))
    by_cases hlt : k < 4
    · have hI : (k : Int) < 4 := by omega
      have c1 := (b1.below HB.out b1.lt).cell (t.cell k hlt)
      have c2 := (b2.below HB.out b2.lt).cell (u.cell k hlt)
      have l1 := (b1.below HB.out b1.lt).lt
      have l2 := (b2.below HB.out b2.lt).lt
      by_cases hne : t.get k = u.get k
      · have HN := Lib.hid hne; clear hne
        have hn' : (t.get k != u.get k) = false := by simp [HN.out]
        go_wp2
        refine wp_region_gro (by kernel_rfl) (by kernel_rfl) ?_
        repeat (first | go_big_quiet_step (fail) | quiet_step (fail))
        refine wpQuiet_nil ?_
        intro w1 hB1
        have HB1 := Lib.hid hB1; clear hB1
        go_wp2
        go_roundw
        case rel => exact ⟨HB.out.trans (HB1.out.mono HB.out.size), k + 1, by omega, by go_num, fun j hj => by
            by_cases e : j = k
            · subst e; exact HN.out
            · exact HA.out j (by omega)⟩
        case measure => simp [intOf]; omega
      · have HN := Lib.hid hne; clear hne
        have hn' : (t.get k != u.get k) = true := by simpa using HN.out
        go_wp2
        refine wp_region_gro (by kernel_rfl) (by kernel_rfl) ?_
        repeat (first | go_big_quiet_step (fail) | quiet_step (fail))
        refine wpQuiet_nil ?_
        intro w1 hB1
        have c1' := cell_to hB1 c1
        have c2' := cell_to hB1 c2
        have l1' := lt_to hB1 l1
        have l2' := lt_to hB1 l2
        have HB1 := Lib.hid hB1; clear hB1
        go_wp2
        refine wp_region_gro (by kernel_rfl) (by kernel_rfl) ?_
        repeat (first | go_big_quiet_step (fail) | quiet_step (fail))
        refine wpQuiet_nil ?_
        intro w2 hB2
        have HB2 := Lib.hid hB2; clear hB2
        go_wp2
        go_ret
        exact ⟨ret_bool (ltT_at hlt HA.out HN.out), HE.out.trans ((HB1.out.trans (HB2.out.mono HB1.out.size)).mono HE.out.size)⟩
    · go_wp2
      go_ret
      exact ⟨ret_bool (by rw [eq_of_get hk hlt HA.out, ltT_self]), HE.out⟩
set_option maxHeartbeats 400000 in
theorem eqTile_any (t u : T4) (w : World) :
    Calls Try.prog 58 #[.agg t.arr, .agg u.arr] w fun e w' => e = .returned (.bool (decide (t = u))) ∧ Below w.heap.size w w' := by
  go_enter Try.func58, Try.ntmps58
  go_wp2
  refine name2 ?_
  intro W1 b1 b2 hz hb0
  have HB0 := Lib.hid hb0; have HZ := Lib.hid hz; clear hb0 hz
  go_loopw [5] (fun i wr => Below W1.heap.size W1 wr ∧ ∃ k : Nat, k ≤ 4 ∧ i = .int .i64 k ∧ ∀ j, j < k → t.get j = u.get j) (fun i _ => 4 - (intOf i).toNat)
  case atStart => exact ⟨Below.refl _ _, 0, by omega, rfl, fun j h => by omega⟩
  case round =>
    obtain ⟨hB, k, hk, rfl, hall⟩ := hrel
    have HB := Lib.hid hB; have HA := Lib.hid hall; clear hB hall
    have HE := Lib.hid (HB0.out.trans (HB.out.mono (by rw [HZ.out]; omega)))
    by_cases hlt : k < 4
    · have hI : (k : Int) < 4 := by omega
      have c1 := (b1.below HB.out b1.lt).cell (t.cell k hlt)
      have c2 := (b2.below HB.out b2.lt).cell (u.cell k hlt)
      have l1 := (b1.below HB.out b1.lt).lt
      have l2 := (b2.below HB.out b2.lt).lt
      by_cases hne : t.get k = u.get k
      · have HN := Lib.hid hne; clear hne
        have hn' : (t.get k != u.get k) = false := by simp [HN.out]
        go_wp2
        refine wp_region_gro (by kernel_rfl) (by kernel_rfl) ?_
        repeat (first | go_big_quiet_step (fail) | quiet_step (fail))
        refine wpQuiet_nil ?_
        intro w1 hB1
        have HB1 := Lib.hid hB1; clear hB1
        go_wp2
        go_roundw
        case rel => exact ⟨HB.out.trans (HB1.out.mono HB.out.size), k + 1, by omega, by go_num, fun j hj => by
            by_cases e : j = k
            · subst e; exact HN.out
            · exact HA.out j (by omega)⟩
        case measure => simp [intOf]; omega
      · have HN := Lib.hid hne; clear hne
        have hn' : (t.get k != u.get k) = true := by simpa using HN.out
        go_wp2
        refine wp_region_gro (by kernel_rfl) (by kernel_rfl) ?_
        repeat (first | go_big_quiet_step (fail) | quiet_step (fail))
        refine wpQuiet_nil ?_
        intro w1 hB1
        have HB1 := Lib.hid hB1; clear hB1
        go_wp2
        go_ret
        exact ⟨ret_bool (by have : t ≠ u := fun e => HN.out (by rw [e])
                            simp [this]), HE.out.trans (HB1.out.mono HE.out.size)⟩
    · go_wp2
      go_ret
      exact ⟨ret_bool (by simp [eq_of_get hk hlt HA.out]), HE.out⟩
set_option maxHeartbeats 400000 in
theorem isNaN_any (x : Int) (w : World) : Calls Try.prog 71 #[.int .i64 x] w fun e w' => e = .returned (.bool false) ∧ w = w' := by
  have h : (x != x) = false := by simp
  go_enter Try.func71, Try.ntmps71
  go_wp2
  go_ret
  exact ⟨ret_bool (by simp), rfl⟩
set_option maxHeartbeats 400000 in
theorem cmpCompare_any (x y : Int) (w : World) : Calls Try.prog 70 #[.int .i64 x, .int .i64 y] w fun e w' => e = .returned (.int .i64 (cmpI x y)) ∧ w = w' := by
  by_cases h1 : x < y
  · go_enter Try.func70, Try.ntmps70
    go_wp2_with (go_at_call 71; refine (isNaN_any _ _).mono ?_; rintro e w' ⟨rfl, rfl⟩)
    go_ret
    exact ⟨ret_int (by simp [cmpI, h1]), rfl⟩
  · by_cases h2 : y < x
    · go_enter Try.func70, Try.ntmps70
      go_wp2_with (go_at_call 71; refine (isNaN_any _ _).mono ?_; rintro e w' ⟨rfl, rfl⟩)
      go_ret
      exact ⟨ret_int (by simp [cmpI, h1, h2]), rfl⟩
    · go_enter Try.func70, Try.ntmps70
      go_wp2_with (go_at_call 71; refine (isNaN_any _ _).mono ?_; rintro e w' ⟨rfl, rfl⟩)
      go_ret
      exact ⟨ret_int (by unfold cmpI; rw [if_neg (by omega), if_neg (by omega)]), rfl⟩
set_option maxHeartbeats 1000000 in
theorem slicesCompare_any (A A' : Option Addr) (xs ys : List Int) (n m c c' : Nat) (w : World) (hn : n = xs.length) (hm : m = ys.length) (hA : RI w A xs) (hA' : RI w A' ys) (hx : xs.length ≤ 35184372088832) (hy : ys.length ≤ 35184372088832) :
    Calls Try.prog 68 #[.slice A n c, .slice A' m c'] w fun e w' => e = .returned (.int .i64 (cmpL xs ys)) ∧ w = w' := by
  subst hn hm
  have HA := Lib.hid hA; have HA' := Lib.hid hA'; clear hA hA'
  go_enter Try.func68, Try.ntmps68
  go_wp2
  go_loop [11] (fun i => ∃ k : Nat, k ≤ xs.length ∧ k ≤ ys.length ∧ i = .int .i64 k ∧ ∀ j, j < k → ik xs j = ik ys j) (fun i => xs.length - (intOf i).toNat)
  case atStart => exact ⟨0, by omega, by omega, rfl, fun j h => by omega⟩
  case round =>
    obtain ⟨k, hk, hk', rfl, hall⟩ := hrel
    have HALL := Lib.hid hall
    clear hall
    by_cases hlt : k < xs.length
    · obtain ⟨b, o, rfl, hb, h0⟩ := HA.out k hlt
      by_cases hlt' : k < ys.length
      · obtain ⟨b', o', rfl, hb', h0'⟩ := HA'.out k hlt'
        by_cases hc : cmpI (ik xs k) (ik ys k) = 0
        · have HC := Lib.hid hc; clear hc
          go_wp2_with (go_at_call 70; refine (cmpCompare_any _ _ _).mono ?_; rintro e w' ⟨rfl, rfl⟩; rw [HC.out])
          go_round
          case rel => exact ⟨k + 1, by omega, by omega, by go_num, fun j hj => by
            by_cases e : j = k
            · subst e; exact cmpI_zero HC.out
            · exact HALL.out j (by omega)⟩
          case measure => simp [intOf]; omega
        · have HC := Lib.hid hc; clear hc
          have hc1 : (cmpI (ik xs k) (ik ys k) != 0) = true := by simpa using HC.out
          go_wp2_with (go_at_call 70; refine (cmpCompare_any _ _ _).mono ?_; rintro e w' ⟨rfl, rfl⟩)
          go_ret
          exact ⟨ret_int (cmpL_at hlt hlt' HALL.out HC.out), rfl⟩
      · go_wp2
        go_ret
        exact ⟨ret_int (cmpL_more (by omega) fun j hj => HALL.out j (by omega)), rfl⟩
    · by_cases hlt' : xs.length < ys.length
      · go_wp2
        go_ret
        exact ⟨ret_int (by rw [← cmpL_end (by omega) fun j hj => HALL.out j (by omega), if_pos hlt']), rfl⟩
      · go_wp2
        go_ret
        exact ⟨ret_int (by rw [← cmpL_end (by omega) fun j hj => HALL.out j (by omega), if_neg hlt']), rfl⟩
theorem tile_reads {w : World} {t : T4} {b : Nat} {E : TypeId} (h : BK w b t.arr E) : RI w (some ⟨b, 0, none⟩) t.list := by
  intro k hk
  refine ⟨b, 0, rfl, h.lt, ?_⟩
  rw [Nat.zero_add]
  refine h.cell ?_
  have hk4 : k < 4 := by simpa [T4.list] using hk
  rw [t.cell k hk4]
  match k, hk4 with
  | 0, _ => rfl
  | 1, _ => rfl
  | 2, _ => rfl
  | 3, _ => rfl
set_option maxHeartbeats 1000000 in
theorem compare_any (t u : T4) (w : World) :
    Calls Try.prog 63 #[.agg t.arr, .agg u.arr] w fun e w' => e = .returned (.int .i64 (cmpL t.list u.list)) ∧ Below w.heap.size w w' := by
  go_enter Try.func63, Try.ntmps63
  go_wp2
  refine name2 ?_
  intro W1 b1 b2 hz hb0
  have HB0 := Lib.hid hb0; have HZ := Lib.hid hz; clear hb0 hz
  refine wp_region_gro (by kernel_rfl) (by kernel_rfl) ?_
  repeat (first | go_big_quiet_step (((go_at_call 68; exact quiet_call0 (slicesCompare_any _ _ t.list u.list _ _ _ _ _ rfl rfl (tile_reads (b1.below (gro_below _ _) b1.lt)) (tile_reads (b2.below (gro_below _ _) b2.lt)) (by simp [T4.list]) (by simp [T4.list]))))) | quiet_step (((go_at_call 68; exact quiet_call0 (slicesCompare_any _ _ t.list u.list _ _ _ _ _ rfl rfl (tile_reads (b1.below (gro_below _ _) b1.lt)) (tile_reads (b2.below (gro_below _ _) b2.lt)) (by simp [T4.list]) (by simp [T4.list]))))))
  refine wpQuiet_nil ?_
  intro w1 hB1
  have HB1 := Lib.hid hB1; clear hB1
  go_wp2
  go_ret
  exact ⟨rfl, below_to HB0.out HB1.out⟩
end Go.Proofs.Ytgdmflmglkakgaa
namespace Go.Proofs.Ytgdmflmglkakgaa
open Go Go.RowKit Go.Proofs
set_option linter.unusedVariables false
set_option linter.unusedSimpArgs false
set_option maxHeartbeats 400000 in
theorem szTileS_any (A : Option Addr) (n c : Nat) (left : Int) (w : World) (hn : n ≤ 35184372088832) (h0 : 0 ≤ left) (hl : left ≤ 1048576) :
    Calls Try.prog 25 #[.slice A n c, .int .i64 left] w fun e w' => e = .returned (.int .i64 (if left < n then -1 else left - n)) ∧ w = w' := by
  by_cases h : (n : Int) ≤ left
  · have h' : ¬ left - n < 0 := by omega
    go_enter Try.func25, Try.ntmps25
    go_wp2
    go_ret
    exact ⟨rfl, rfl⟩
  · have h' : left - n < 0 := by omega
    go_enter Try.func25, Try.ntmps25
    go_wp2
    go_ret
    exact ⟨rfl, rfl⟩
set_option maxHeartbeats 400000 in
theorem szSet_any (C : Int) (A : Option Addr) (n c : Nat) (left : Int) (w : World) (hn : n ≤ 35184372088832) (h0 : 0 ≤ left) (hl : left ≤ 1048576) :
    Calls Try.prog 7 #[.agg #[.int .i64 C, .slice A n c], .int .i64 left] w fun e w' => e = .returned (.int .i64 (if left < n then -1 else left - n)) ∧ Below w.heap.size w w' := by
  by_cases h : (n : Int) ≤ left
  · have h' : ¬ left - n < 0 := by omega
    go_enter Try.func7, Try.ntmps7
    go_wp2_with fail
    refine (szTileS_any _ _ _ _ _ hn h0 hl).mono ?_
    rintro e w' ⟨rfl, rfl⟩
    rw [if_neg (show ¬ left < (n : Int) by omega)]
    go_wp2
    go_ret
    exact ⟨rfl, by simpa using (Below.refl _ _).alloc (Nat.le_refl _) _⟩
  · have h' : left - n < 0 := by omega
    go_enter Try.func7, Try.ntmps7
    go_wp2_with fail
    refine (szTileS_any _ _ _ _ _ hn h0 hl).mono ?_
    rintro e w' ⟨rfl, rfl⟩
    rw [if_pos (show left < (n : Int) by omega)]
    go_wp2
    go_ret
    exact ⟨rfl, by simpa using (Below.refl _ _).alloc (Nat.le_refl _) _⟩
set_option maxHeartbeats 400000 in
theorem toTile_any (t : T4) (w : World) :
    Calls Try.prog 55 #[.agg t.arr] w fun e w' => e = .returned (.agg t.arr) ∧ Below w.heap.size w w' := by
  go_enter Try.func55, Try.ntmps55
  go_wp2
  refine name3 ?_
  intro W1 b1 b2 b3 hz hb0
  have HB0 := Lib.hid hb0; have HZ := Lib.hid hz; clear hb0 hz
  go_loopw [4] (fun i wr => Below (w.heap.size + 2) W1 wr ∧ ∃ k : Nat, k ≤ 4 ∧ i = .int .i64 k ∧ ∃ C, BK wr (w.heap.size + 2) C 63 ∧ C.size = 4 ∧ ∀ j, j < k → C[j]? = some (.int .i64 (t.get j))) (fun i _ => 4 - (intOf i).toNat)
  case atStart => exact ⟨Below.refl _ _, 0, by omega, rfl, _, b3, rfl, fun j h => by omega⟩
  case round =>
    obtain ⟨hB, k, hk, rfl, C, b3', hsz, hall⟩ := hrel
    have HB := Lib.hid hB; have HA := Lib.hid hall; have HS := Lib.hid hsz; clear hB hall hsz
    by_cases hlt : k < 4
    · have hI : (k : Int) < 4 := by omega
      have c1 := (b1.below HB.out (by omega)).cell (t.cell k hlt)
      obtain ⟨x, hx⟩ : ∃ x, C[k]? = some x := ⟨_, Array.getElem?_eq_getElem (by rw [HS.out]; exact hlt)⟩
      have c3 := b3'.cell hx
      have f3 := b3'.frozen k
      go_wp2
      go_roundw
      case rel => exact ⟨HB.out.setCell (by simp) _, k + 1, by omega, by go_num, _, b3'.set k _, by rw [Array.size_setIfInBounds, HS.out], fun j hj => by
          rw [Array.getElem?_setIfInBounds, HS.out]
          by_cases e : k = j
          · subst e; rw [if_pos rfl, if_pos hlt]
          · rw [if_neg e]; exact HA.out j (by omega)⟩
      case measure => simp [intOf]; omega
    · have e4 : k = 4 := by omega
      have a0 := b3'.cell (HA.out 0 (by omega)); have a1 := b3'.cell (HA.out 1 (by omega)); have a2 := b3'.cell (HA.out 2 (by omega)); have a3 := b3'.cell (HA.out 3 (by omega))
      have b2' := b2.below HB.out (by omega)
      have z0 := b2'.cell (k := 0) rfl; have z1 := b2'.cell (k := 1) rfl; have z2 := b2'.cell (k := 2) rfl; have z3 := b2'.cell (k := 3) rfl
      have f0 := b2'.frozen 0; have f1 := b2'.frozen 1; have f2 := b2'.frozen 2; have f3 := b2'.frozen 3
      have HE := Lib.hid e4; clear e4
      go_wp2
      refine bodyPost_ret (v := .agg t.arr) ?_ rfl ⟨rfl, ?_⟩
      · simp [results, Try.results55, go_sem, *, T4.arr]
      · exact ((((HB0.out.trans (HB.out.mono (by omega))).setCell (by simp) _).setCell (by simp) _).setCell (by simp) _).setCell (by simp) _
theorem info63 : (Try.prog.info? 63).map (fun i => (i.zero, i.size, i.bytes)) = some (some (.agg #[.int .i64 0, .int .i64 0, .int .i64 0, .int .i64 0]), 4, 32) := by kernel_rfl
set_option maxHeartbeats 1000000 in
theorem toTileS_any (A : Option Addr) (ts : List T4) (c : Nat) (w : World) (hA : RT w A ts) (hl : ts.length ≤ 1048576) :
    Calls Try.prog 29 #[.slice A ts.length c] w fun e w' => ∃ v, e = .returned v ∧ OT w' w.heap.size 63 v ts ∧ Below w.heap.size w w' := by
  have hmk := make_row (P := Try.prog) 30 63 _ 4 32 Try.underlying30 info63 rfl (by decide) ts.length (by omega)
  have HA := Lib.hid hA; clear hA
  go_enter Try.func29, Try.ntmps29
  go_wp2
  refine name1 ?_
  intro W1 b1 hz hb0
  have HB0 := Lib.hid hb0; have HZ := Lib.hid hz; clear hb0 hz
  go_loopw [4] (fun i wr => Below w.heap.size w wr ∧ ∃ k : Nat, k ≤ ts.length ∧ i = .int .i64 k ∧ ∃ C, BK wr w.heap.size C 63 ∧ C.size = ts.length * 4 ∧ TilesIn C ts k) (fun i _ => ts.length - (intOf i).toNat)
  case atStart => exact ⟨HB0.out, 0, by omega, rfl, _, b1, made_size _ _, fun j h => absurd h (by omega)⟩
  case round =>
    obtain ⟨hB, k, hk, rfl, C, b3, hsz, hall⟩ := hrel
    have hT := HA.out.below hB
    have HB := Lib.hid hB; have HC := Lib.hid hall; have HS := Lib.hid hsz; clear hB hall hsz
    by_cases hlt : k < ts.length
    · obtain ⟨b, o, rfl, hb, h0, h1, h2, h3⟩ := hT k hlt
      clear hT
      go_wp2_with fail
      refine (toTile_any (tk ts k) _).mono ?_
      rintro e w1 ⟨rfl, hB1⟩
      have b3' := b3.below hB1 b3.lt
      have get (j : Nat) (hj : j < 4) : ∃ x, w1.cell? ⟨w.heap.size, k * 4 + j, none⟩ = some x := ⟨_, b3'.cell (Array.getElem?_eq_getElem (by rw [HS.out]; omega))⟩
      obtain ⟨x0, c0⟩ := get 0 (by omega); obtain ⟨x1, c1⟩ := get 1 (by omega); obtain ⟨x2, c2⟩ := get 2 (by omega); obtain ⟨x3, c3⟩ := get 3 (by omega)
      have f0 := b3'.frozen (k * 4); have f1 := b3'.frozen (k * 4 + 1); have f2 := b3'.frozen (k * 4 + 2); have f3 := b3'.frozen (k * 4 + 3)
      have HB1 := Lib.hid hB1; clear hB1 get
      simp only [Nat.add_zero] at c0
      simp only [T4.arr]
      go_wp2
      go_roundw
      case rel => exact ⟨below_set4 (HB.out.trans (HB1.out.mono HB.out.size)) (Nat.le_refl _) _ _ _ _ _, k + 1, by omega, by go_num, _, b3'.setT _ _, by rw [setT_size, HS.out], HC.out.step (by rw [HS.out]; omega)⟩
      case measure => simp [intOf]; omega
    · go_wp2
      go_ret
      exact ⟨_, rfl, OT.of_block b3 (Nat.le_refl _) HS.out (Nat.le_refl _) (by omega) fun k' h' => HC.out k' (by omega), HB.out⟩
set_option maxHeartbeats 1000000 in
theorem toSet_any (C : Int) (A : Option Addr) (ts : List T4) (n c : Nat) (w : World) (hn : n = ts.length) (hA : RT w A ts) (hl : ts.length ≤ 1048576) :
    Calls Try.prog 10 #[.agg #[.int .i64 C, .slice A n c]] w fun e w' => ∃ v, e = .returned (.agg #[.int .i64 C, v]) ∧ OT w' w.heap.size 63 v ts ∧ Below w.heap.size w w' := by
  subst hn
  have HA := Lib.hid hA; clear hA
  go_enter Try.func10, Try.ntmps10
  go_wp2_with fail
  refine namec3 ?_
  intro W1 b1 b2 b3 hz hb0
  refine (toTileS_any A ts c W1 (HA.out.below hb0) hl).mono ?_
  rintro e w1 ⟨v, rfl, hO, hB1⟩
  have b2' := b2.below hB1 b2.lt; have b3' := b3.below hB1 b3.lt
  have HB0 := Lib.hid hb0; have HZ := Lib.hid hz; have HB1 := Lib.hid hB1; have HO := Lib.hid hO; clear hb0 hz hB1 hO
  obtain ⟨A', c', rfl, -, -⟩ := HO.out.reads
  have a0 := b3'.cell (k := 0) rfl; have a1 := b3'.cell (k := 1) rfl
  have z0 := b2'.cell (k := 0) rfl; have z1 := b2'.cell (k := 1) rfl
  have f0 := b2'.frozen 0; have f1 := b2'.frozen 1; have g1 := b3'.frozen 1
  go_wp2
  refine bodyPost_ret (v := .agg #[.int .i64 C, .slice A' ts.length c']) ?_ rfl ⟨_, rfl, ?_, ?_⟩
  · simp [results, Try.results10, go_sem, z0, z1, f0, f1]
  · have hz := HZ.out
    exact own_base (ownsRow_setCell_below (ownsRow_setCell_below (ownsRow_setCell_below HO.out (by simp; omega) _) (by simp; omega) _) (by simp; omega) _) (by omega)
  · exact (((HB0.out.trans (HB1.out.mono HB0.out.size)).setCell (by simp; omega) _).setCell (by simp) _).setCell (by simp) _
set_option maxHeartbeats 1000000 in
theorem eqTileS_any (A A' : Option Addr) (ts us : List T4) (n m c c' : Nat) (w : World) (hn : n = ts.length) (hm : m = us.length) (hA : RT w A ts) (hA' : RT w A' us) (hl : ts.length ≤ 35184372088832) (hl' : us.length ≤ 35184372088832) :
    Calls Try.prog 35 #[.slice A n c, .slice A' m c'] w fun e w' => e = .returned (.bool (decide (ts = us))) ∧ Below w.heap.size w w' := by
  have HA := Lib.hid hA; have HA' := Lib.hid hA'; clear hA hA'
  by_cases hlen : n = m
  · have HL := Lib.hid (show ts.length = us.length by omega); have HN := Lib.hid hn; have HM := Lib.hid hlen
    have h1 : ((n : Int) != m) = false := by simp [hlen]
    have hn0 : n ≤ 35184372088832 := by omega
    clear hlen hn hm
    go_enter Try.func35, Try.ntmps35
    go_wp2
    go_loopw [5] (fun i wr => Below w.heap.size w wr ∧ ∃ k : Nat, k ≤ n ∧ i = .int .i64 k ∧ ∀ j, j < k → tk ts j = tk us j) (fun i _ => n - (intOf i).toNat)
    case atStart => exact ⟨Below.refl _ _, 0, by omega, rfl, fun j h => absurd h (by omega)⟩
    case round =>
      obtain ⟨hB, k, hk, rfl, hall⟩ := hrel
      have hT := HA.out.below hB
      have hT' := HA'.out.below hB
      have HB := Lib.hid hB; have HALL := Lib.hid hall; clear hB hall
      by_cases hlt : k < n
      · obtain ⟨b, o, rfl, hb, h0, h1, h2, h3⟩ := hT k (by have := HN.out; omega)
        obtain ⟨b', o', rfl, hb', h0', h1', h2', h3'⟩ := hT' k (by have := HN.out; have := HL.out; omega)
        have i1 : (k : Int) < n := by omega
        have i2 : (k : Int) < m := by have := HM.out; omega
        clear hT hT'
        by_cases he : tk ts k = tk us k
        · have HE := Lib.hid (show decide (tk ts k = tk us k) = true by simpa using he); clear he
          go_wp2
          refine wp_region_gro (by kernel_rfl) (by kernel_rfl) ?_
          repeat (first | go_big_quiet_step (((go_at_call 58; exact quiet_call (by have h := eqTile_any (tk ts k) (tk us k) (gro wr ‹GP›); rw [HE.out] at h; exact h)))) | quiet_step (((go_at_call 58; exact quiet_call (by have h := eqTile_any (tk ts k) (tk us k) (gro wr ‹GP›); rw [HE.out] at h; exact h)))))
          refine wpQuiet_nil ?_
          intro w1 hB1
          have HB1 := Lib.hid hB1; clear hB1
          go_wp2
          go_roundw
          case rel => exact ⟨HB.out.trans (HB1.out.mono HB.out.size), k + 1, by omega, by go_num, fun j hj => by
            by_cases e : j = k
            · subst e; exact of_decide_eq_true HE.out
            · exact HALL.out j (by omega)⟩
          case measure => simp [intOf]; omega
        · have HE := Lib.hid (show decide (tk ts k = tk us k) = false by simpa using he); clear he
          go_wp2
          refine wp_region_gro (by kernel_rfl) (by kernel_rfl) ?_
          repeat (first | go_big_quiet_step (((go_at_call 58; exact quiet_call (by have h := eqTile_any (tk ts k) (tk us k) (gro wr ‹GP›); rw [HE.out] at h; exact h)))) | quiet_step (((go_at_call 58; exact quiet_call (by have h := eqTile_any (tk ts k) (tk us k) (gro wr ‹GP›); rw [HE.out] at h; exact h)))))
          refine wpQuiet_nil ?_
          intro w1 hB1
          have HB1 := Lib.hid hB1; clear hB1
          go_wp2
          go_ret
          exact ⟨ret_bool (by have : ts ≠ us := fun e => of_decide_eq_false HE.out (by rw [e])
                              simp [this]), HB.out.trans (HB1.out.mono HB.out.size)⟩
      · go_wp2
        go_ret
        exact ⟨ret_bool (by have : ts = us := eq_of_tk HL.out fun j hj => HALL.out j (by have := HN.out; omega)
                            simp [this]), HB.out⟩
  · have h1 : ((n : Int) != m) = true := by simp; omega
    have HL := Lib.hid (show ts.length ≠ us.length by omega); clear hlen hn hm
    go_enter Try.func35, Try.ntmps35
    go_wp2
    go_ret
    exact ⟨ret_bool (by have : ts ≠ us := fun e => HL.out (by rw [e])
                        simp [this]), Below.refl _ _⟩
set_option maxHeartbeats 1000000 in
theorem eqSet_any (C D : Int) (A A' : Option Addr) (ts us : List T4) (n m c c' : Nat) (w : World) (hn : n = ts.length) (hm : m = us.length) (hA : RT w A ts) (hA' : RT w A' us) (hl : ts.length ≤ 35184372088832) (hl' : us.length ≤ 35184372088832) :
    Calls Try.prog 13 #[.agg #[.int .i64 C, .slice A n c], .agg #[.int .i64 D, .slice A' m c']] w fun e w' => e = .returned (.bool (decide (C = D) && decide (ts = us))) ∧ Below w.heap.size w w' := by
  have HA := Lib.hid hA; have HA' := Lib.hid hA'; clear hA hA'
  by_cases hC : C = D
  · have HC := Lib.hid hC; clear hC
    have h1 : (C != D) = false := by simp [HC.out]
    have HN := Lib.hid hn; have HM := Lib.hid hm; clear hn hm
    cases hb : decide (ts = us)
    all_goals
      have HT := Lib.hid hb; clear hb
      go_enter Try.func13, Try.ntmps13
      go_wp2_with fail
      refine namec2 ?_
      intro W1 b1 b2 hz hb0
      refine (eqTileS_any A A' ts us n m c c' W1 HN.out HM.out (HA.out.below hb0) (HA'.out.below hb0) hl hl').mono ?_
      rintro e w1 ⟨rfl, hB1⟩
      rw [HT.out]
      have HB0 := Lib.hid hb0; have HB1 := Lib.hid hB1; clear hb0 hB1 hz b1 b2
      go_wp2
      go_ret
      exact ⟨ret_bool (by simp [HC.out]), below_to HB0.out HB1.out⟩
  · have HC := Lib.hid hC; clear hC
    have h1 : (C != D) = true := by simpa using HC.out
    clear hn hm
    go_enter Try.func13, Try.ntmps13
    go_wp2
    go_ret
    exact ⟨ret_bool (by simp [HC.out]), ((Below.refl _ _).alloc (Nat.le_refl _) _).alloc (by simp) _⟩
end Go.Proofs.Ytgdmflmglkakgaa
namespace Go.Proofs.Ytgdmflmglkakgaa
open Go Go.RowKit Go.Proofs
set_option linter.unusedVariables false
set_option linter.unusedSimpArgs false
theorem isS_of {c : Int} {ts : List T4} (h1 : inB c 1 6 = true) (h2 : ts.length ≤ 16) (h3 : OkS c ts) : isS c ts = true := isS_iff.2 ⟨inB_iff.1 h1, h2, h3⟩
theorem isS_c {c : Int} {ts : List T4} (h1 : inB c 1 6 = false) : isS c ts = false := by simp [isS, h1]
theorem isS_len {c : Int} {ts : List T4} (h1 : 16 < ts.length) : isS c ts = false := by
  have : decide (ts.length ≤ 16) = false := by simp; omega
  simp [isS, this]
theorem isS_ok {c : Int} {ts : List T4} (h : ¬ OkS c ts) : isS c ts = false := by
  have : okB c ts = false := by rw [← Bool.not_eq_true, okB_iff]; exact h
  simp [isS, this]
set_option maxHeartbeats 2000000 in
theorem l01Is_any (C : Int) (A : Option Addr) (ts : List T4) (n c : Nat) (w : World) (hn : n = ts.length) (hA : RT w A ts) (hl : n ≤ 35184372088832) :
    Calls Try.prog 43 #[.agg #[.int .i64 C, .slice A n c]] w fun e w' => e = .returned (.bool (isS C ts)) ∧ Below w.heap.size w w' := by
  have HA := Lib.hid hA; have HN := Lib.hid hn; clear hA hn
  cases hC : inB C 1 6
  · have HC := Lib.hid hC; clear hC
    go_enter Try.func43, Try.ntmps43
    go_wp2_with (go_at_call 54; refine (l01In_any _ _ _ _).mono ?_; rintro e w' ⟨rfl, rfl⟩; rw [HC.out])
    go_ret
    exact ⟨ret_bool (isS_c HC.out).symm, by simpa using (Below.refl _ _).alloc (Nat.le_refl _) _⟩
  · have HC := Lib.hid hC; clear hC
    obtain ⟨hc1, hc2⟩ := inB_iff.1 HC.out
    by_cases h16 : n ≤ 16
    · go_enter Try.func43, Try.ntmps43
      go_wp2_with (go_at_call 54; refine (l01In_any _ _ _ _).mono ?_; rintro e w' ⟨rfl, rfl⟩; rw [HC.out])
      refine name1 ?_
      intro W1 b1 hz hb0
      have HB0 := Lib.hid hb0; have HZ := Lib.hid hz; clear hb0 hz
      go_loopw [3] (fun i wr => Below W1.heap.size W1 wr ∧ ∃ k : Nat, k ≤ n ∧ i = .int .i64 k ∧ ∀ j, j < k → tileB (tk ts j) (C - 1) = true ∧ (0 < j → ltT (tk ts (j - 1)) (tk ts j) = true)) (fun i _ => n - (intOf i).toNat)
      case atStart => exact ⟨Below.refl _ _, 0, by omega, rfl, fun j h => absurd h (by omega)⟩
      case round =>
        obtain ⟨hB, k, hk, rfl, hall⟩ := hrel
        have b1' := b1.below hB b1.lt
        have HE := Lib.hid (below_to HB0.out hB)
        have hT := HA.out.below HE.out
        have HB := Lib.hid hB; have HALL := Lib.hid hall; clear hB hall
        have a0 : wr.cell? ⟨w.heap.size, 0, none⟩ = some (.int .i64 C) := b1'.cell rfl
        have a1 : wr.cell? ⟨w.heap.size, 1, none⟩ = some (.slice A n c) := b1'.cell rfl
        have l1 := b1'.lt
        have hw1 : wrap64 (C - 1) = C - 1 := by unfold wrap64; omega
        by_cases hlt : k < n
        · have i1 : (k : Int) < n := by omega
          have HK := Lib.hid (show k < ts.length by have := HN.out; omega)
          cases ht : tileB (tk ts k) (C - 1)
          · have HT := Lib.hid (show tileB (tk ts k) (wrap64 (C - 1)) = false by rw [hw1]; exact ht); clear ht hw1
            obtain ⟨b, o, rfl, hb, h0, h1, h2, h3⟩ := hT k HK.out
            clear hT
            go_wp2_with fail
            refine wp_region_gro (by kernel_rfl) (by kernel_rfl) ?_
            repeat (first | go_big_quiet_step (((go_at_call 59; exact quiet_call (by have h := l01Tile_any C (tk ts k) (gro wr ‹GP›); rw [HT.out] at h; exact h)))) | quiet_step (((go_at_call 59; exact quiet_call (by have h := l01Tile_any C (tk ts k) (gro wr ‹GP›); rw [HT.out] at h; exact h)))))
            refine wpQuiet_nil ?_
            intro w1 hB1
            have HB1 := Lib.hid hB1; clear hB1
            go_wp2
            go_ret
            exact ⟨ret_bool (isS_ok fun h => by have := (h k HK.out).1; have h2 := HT.out; rw [show wrap64 (C - 1) = C - 1 by unfold wrap64; omega] at h2; rw [h2] at this; cases this).symm, below_to HE.out HB1.out⟩
          · have HT := Lib.hid (show tileB (tk ts k) (wrap64 (C - 1)) = true by rw [hw1]; exact ht)
            have HT2 := Lib.hid ht
            clear ht hw1
            cases k with
            | zero =>
              obtain ⟨b, o, rfl, hb, h0, h1, h2, h3⟩ := hT 0 HK.out
              simp only [Nat.zero_mul, Nat.add_zero] at h0 h1 h2 h3
              clear hT
              go_wp2_with fail
              refine wp_region_gro (by kernel_rfl) (by kernel_rfl) ?_
              repeat (first | go_big_quiet_step (((go_at_call 59; exact quiet_call (by have h := l01Tile_any C (tk ts 0) (gro wr ‹GP›); rw [HT.out] at h; exact h)))) | quiet_step (((go_at_call 59; exact quiet_call (by have h := l01Tile_any C (tk ts 0) (gro wr ‹GP›); rw [HT.out] at h; exact h)))))
              refine wpQuiet_nil ?_
              intro w1 hB1
              have HB1 := Lib.hid hB1; clear hB1
              go_wp2
              go_roundw
              case rel => exact ⟨below_to HB.out HB1.out, 0 + 1, by omega, by go_num, fun j hj => by
                  obtain rfl : j = 0 := by omega
                  exact ⟨HT2.out, fun h => absurd h (by omega)⟩⟩
              case measure => simp [intOf]; omega
            | succ k =>
              obtain ⟨b, o, hA', hb, h0, h1, h2, h3⟩ := hT (k + 1) HK.out
              obtain ⟨b', o', hA'', hb', h0', h1', h2', h3'⟩ := hT k (by have := HK.out; omega)
              subst hA'
              obtain ⟨rfl, rfl⟩ : b = b' ∧ o = o' := by injection hA'' with e; injection e with e1 e2; exact ⟨e1, e2⟩
              clear hT hA''
              have i0 : (k : Int) < n := by omega
              cases hlT : ltT (tk ts k) (tk ts (k + 1))
              · have HL := Lib.hid hlT; clear hlT
                go_wp2_with fail
                refine wp_region_gro (by kernel_rfl) (by kernel_rfl) ?_
                repeat (first | go_big_quiet_step (((first | (go_at_call 59; exact quiet_call (by have h := l01Tile_any C (tk ts (k + 1)) (gro wr ‹GP›); rw [HT.out] at h; exact h)) | (go_at_call 60; exact quiet_call (by have h := l01Before_any (tk ts k) (tk ts (k + 1)) (gro wr ‹GP›); rw [HL.out] at h; exact h))))) | quiet_step (((first | (go_at_call 59; exact quiet_call (by have h := l01Tile_any C (tk ts (k + 1)) (gro wr ‹GP›); rw [HT.out] at h; exact h)) | (go_at_call 60; exact quiet_call (by have h := l01Before_any (tk ts k) (tk ts (k + 1)) (gro wr ‹GP›); rw [HL.out] at h; exact h))))))
                refine wpQuiet_nil ?_
                intro w1 hB1
                have HB1 := Lib.hid hB1; clear hB1
                go_wp2
                go_ret
                exact ⟨ret_bool (isS_ok fun h => by have := (h (k + 1) HK.out).2 (by omega); rw [Nat.add_sub_cancel, HL.out] at this; cases this).symm, below_to HE.out HB1.out⟩
              · have HL := Lib.hid hlT; clear hlT
                go_wp2_with fail
                refine wp_region_gro (by kernel_rfl) (by kernel_rfl) ?_
                repeat (first | go_big_quiet_step (((first | (go_at_call 59; exact quiet_call (by have h := l01Tile_any C (tk ts (k + 1)) (gro wr ‹GP›); rw [HT.out] at h; exact h)) | (go_at_call 60; exact quiet_call (by have h := l01Before_any (tk ts k) (tk ts (k + 1)) (gro wr ‹GP›); rw [HL.out] at h; exact h))))) | quiet_step (((first | (go_at_call 59; exact quiet_call (by have h := l01Tile_any C (tk ts (k + 1)) (gro wr ‹GP›); rw [HT.out] at h; exact h)) | (go_at_call 60; exact quiet_call (by have h := l01Before_any (tk ts k) (tk ts (k + 1)) (gro wr ‹GP›); rw [HL.out] at h; exact h))))))
                refine wpQuiet_nil ?_
                intro w1 hB1
                have HB1 := Lib.hid hB1; clear hB1
                go_wp2
                go_roundw
                case rel => exact ⟨below_to HB.out HB1.out, k + 1 + 1, by omega, by go_num, fun j hj => by
                    by_cases e : j = k + 1
                    · subst e; exact ⟨HT2.out, fun _ => by rw [Nat.add_sub_cancel]; exact HL.out⟩
                    · exact HALL.out j (by omega)⟩
                case measure => simp [intOf]; omega
        · go_wp2_with fail
          go_ret
          exact ⟨ret_bool (isS_of HC.out (by have := HN.out; omega) fun j hj => HALL.out j (by have := HN.out; omega)).symm, HE.out⟩
    · go_enter Try.func43, Try.ntmps43
      go_wp2_with (go_at_call 54; refine (l01In_any _ _ _ _).mono ?_; rintro e w' ⟨rfl, rfl⟩; rw [HC.out])
      go_ret
      exact ⟨ret_bool (isS_len (by have := HN.out; omega)).symm, by simpa using (Below.refl _ _).alloc (Nat.le_refl _) _⟩
set_option maxHeartbeats 400000 in
theorem isTile1_any (x c : Int) (B : Nat) (w : World) (hc : w.cell? ⟨B, 0, none⟩ = some (.int .i64 c)) :
    Calls Try.prog 67 #[.int .i64 x, .pointer (some ⟨B, 0, none⟩)] w fun e w' => e = .returned (.bool (!inB x 0 (wrap64 (c-1)))) ∧ w = w' := by
  go_enter Try.func67, Try.ntmps67
  go_wp2_with (go_at_call 64; refine (within_any _ _ _ _).mono ?_; rintro e w' ⟨rfl, rfl⟩)
  all_goals go_ret
  all_goals exact ⟨rfl, rfl⟩
def PredI (P : Program) (g : FuncId) (cap : Array Value) (p : Int → Bool) (w : World) : Prop :=
  ∀ (W : World) (x : Int), Below w.heap.size w W → Calls P g (#[.int .i64 x] ++ cap) W fun e w' => e = .returned (.bool (p x)) ∧ Below W.heap.size W w'
def idxL {α : Type} (p : α → Bool) (xs : List α) : Int := match xs.findIdx? p with | some i => i | none => -1
theorem idxL_at {α : Type} {p : α → Bool} {xs : List α} {k : Nat} (hk : k < xs.length) (h : ∀ j (hj : j < xs.length), j < k → p xs[j] = false) (hp : p xs[k] = true) : (k : Int) = idxL p xs := by
  have : xs.findIdx? p = some k := by
    rw [List.findIdx?_eq_some_iff_getElem]
    exact ⟨hk, hp, fun j hj => by simp [h j (by omega) hj]⟩
  simp [idxL, this]
theorem idxL_none {α : Type} {p : α → Bool} {xs : List α} (h : ∀ j (hj : j < xs.length), p xs[j] = false) : (-1 : Int) = idxL p xs := by
  have : xs.findIdx? p = none := by
    rw [List.findIdx?_eq_none_iff]
    intro x hx
    obtain ⟨j, hj, rfl⟩ := List.getElem_of_mem hx
    exact h j hj
  simp [idxL, this]
theorem idxL_any {α : Type} {p : α → Bool} {xs : List α} : decide (0 ≤ idxL p xs) = xs.any p := by
  unfold idxL
  cases h : xs.findIdx? p with
  | none =>
    rw [List.findIdx?_eq_none_iff] at h
    have : xs.any p = false := by rw [List.any_eq_false]; simpa using h
    simp [this]
  | some i =>
    rw [List.findIdx?_eq_some_iff_getElem] at h
    have : xs.any p = true := List.any_eq_true.2 ⟨_, List.getElem_mem h.1, h.2.1⟩
    simp [this]
theorem ik_get {xs : List Int} {k : Nat} (h : k < xs.length) : xs[k] = ik xs k := by simp [ik, h]
end Go.Proofs.Ytgdmflmglkakgaa
namespace Go.Proofs.Ytgdmflmglkakgaa
open Go Go.RowKit Go.Proofs
set_option linter.unusedVariables false
set_option linter.unusedSimpArgs false
set_option maxHeartbeats 1000000 in
theorem IndexFuncI_any (A : Option Addr) (xs : List Int) (n c : Nat) (g : FuncId) (cap : Array Value) (p : Int → Bool) (w : World) (hn : n = xs.length) (hA : RI w A xs) (hl : n ≤ 35184372088832)
    (eg : ∀ args w, (callFunc g args).run Try.prog w = .ok (.enter g args) w) (hp : PredI Try.prog g cap p w) :
    Calls Try.prog 69 #[.slice A n c, .func (.func g) #[] cap] w fun e w' => e = .returned (.int .i64 (idxL p xs)) ∧ Below w.heap.size w w' := by
  have HA := Lib.hid hA; have HN := Lib.hid hn; have HP := Lib.hid hp; clear hA hn hp
  go_enter Try.func69, Try.ntmps69
  go_wp2_with fail
  go_loopw [8] (fun i wr => Below w.heap.size w wr ∧ ∃ k : Nat, k ≤ n ∧ i = .int .i64 k ∧ ∀ j (hj : j < xs.length), j < k → p xs[j] = false) (fun i _ => n - (intOf i).toNat)
  case atStart => exact ⟨Below.refl _ _, 0, by omega, rfl, fun j _ h => absurd h (by omega)⟩
  case round =>
    obtain ⟨hB, k, hk, rfl, hall⟩ := hrel
    have hT := HA.out.below hB
    have HB := Lib.hid hB; have HALL := Lib.hid hall; clear hB hall
    by_cases hlt : k < n
    · have i1 : (k : Int) < n := by omega
      have HK := Lib.hid (show k < xs.length by have := HN.out; omega)
      obtain ⟨b, o, rfl, hb, h0⟩ := hT k HK.out
      clear hT
      cases hpk : p (ik xs k)
      · have HX := Lib.hid hpk; clear hpk
        go_wp2_with fail
        refine (HP.out wr (ik xs k) HB.out).mono ?_
        rintro e w1 ⟨rfl, hB1⟩
        rw [HX.out]
        have HB1 := Lib.hid hB1; clear hB1
        go_wp2_with fail
        go_roundw
        case rel => exact ⟨below_to HB.out HB1.out, k + 1, by omega, by go_num, fun j hj hj' => by
            by_cases e : j = k
            · subst e; rw [ik_get]; exact HX.out
            · exact HALL.out j hj (by omega)⟩
        case measure => simp [intOf]; omega
      · have HX := Lib.hid hpk; clear hpk
        go_wp2_with fail
        refine (HP.out wr (ik xs k) HB.out).mono ?_
        rintro e w1 ⟨rfl, hB1⟩
        rw [HX.out]
        have HB1 := Lib.hid hB1; clear hB1
        go_wp2_with fail
        go_ret
        exact ⟨ret_int (idxL_at HK.out HALL.out (by rw [ik_get]; exact HX.out)), below_to HB.out HB1.out⟩
    · go_wp2_with fail
      go_ret
      exact ⟨ret_int (idxL_none fun j hj => HALL.out j hj (by have := HN.out; omega)), HB.out⟩
set_option maxHeartbeats 1000000 in
theorem ContainsFuncI_any (A : Option Addr) (xs : List Int) (n c : Nat) (g : FuncId) (cap : Array Value) (p : Int → Bool) (w : World) (hn : n = xs.length) (hA : RI w A xs) (hl : n ≤ 35184372088832)
    (eg : ∀ args w, (callFunc g args).run Try.prog w = .ok (.enter g args) w) (hp : PredI Try.prog g cap p w) :
    Calls Try.prog 66 #[.slice A n c, .func (.func g) #[] cap] w fun e w' => e = .returned (.bool (xs.any p)) ∧ Below w.heap.size w w' := by
  have EG := Lib.hid eg; clear eg
  have HA := Lib.hid hA; have HN := Lib.hid hn; have HP := Lib.hid hp; clear hA hn hp
  go_enter Try.func66, Try.ntmps66
  go_wp2_with fail
  refine (IndexFuncI_any A xs n c g cap p w HN.out HA.out hl EG.out HP.out).mono ?_
  rintro e w1 ⟨rfl, hB1⟩
  have HB1 := Lib.hid hB1; clear hB1
  go_wp2_with fail
  go_ret
  exact ⟨ret_bool idxL_any, HB1.out⟩
theorem any_tile {t : T4} {hi : Int} : (!t.list.any fun x => !inB x 0 hi) = tileB t hi := by
  simp [T4.list, tileB, Bool.not_or, Bool.and_assoc]
theorem isTile_any (t : T4) (c : Int) (w : World) :
    Calls Try.prog 62 #[.agg t.arr, .int .i64 c] w fun e w' => e = .returned (.bool (tileB t (wrap64 (c-1)))) ∧ Below w.heap.size w w' := by
  go_enter Try.func62, Try.ntmps62
  go_wp2_with fail
  refine namec2 ?_
  intro W1 b1 b2 hz hb0
  refine (ContainsFuncI_any _ t.list 4 4 67 #[.pointer (some ⟨w.heap.size + 1, 0, none⟩)] (fun x => !inB x 0 (wrap64 (c - 1))) W1 rfl (tile_reads b1) (by omega) (enters_of Try.func67 (by kernel_rfl) rfl) ?_).mono ?_
  · intro W x hW
    refine (isTile1_any x c _ W (cell_to hW (b2.cell rfl))).mono ?_
    rintro e w' ⟨rfl, rfl⟩
    exact ⟨rfl, Below.refl _ _⟩
  rintro e w1 ⟨rfl, hB1⟩
  have HB0 := Lib.hid hb0; have HB1 := Lib.hid hB1; clear hb0 hB1 hz b1 b2
  go_wp2_with fail
  go_ret
  exact ⟨ret_bool any_tile, below_to HB0.out HB1.out⟩
theorem wrap_m1 (c : Int) (h : inB c 1 6 = true) : wrap64 (c - 1) = c - 1 := by
  obtain ⟨h1, h2⟩ := inB_iff.1 h
  unfold wrap64; omega
def OkW (c : Int) (ts : List T4) (k : Nat) : Prop := ∀ j, j < k → tileB (tk ts j) (wrap64 (c - 1)) = true ∧ (0 < j → ltT (tk ts (j - 1)) (tk ts j) = true)
theorem isS_notOk {c : Int} {ts : List T4} {k : Nat} (hk : k < ts.length) (h : tileB (tk ts k) (wrap64 (c - 1)) = false ∨ (0 < k ∧ ltT (tk ts (k - 1)) (tk ts k) = false)) : isS c ts = false := by
  by_cases hc : inB c 1 6 = true
  · refine isS_ok fun ho => ?_
    obtain ⟨h1, h2⟩ := ho k hk
    rw [wrap_m1 c hc] at h
    rcases h with h | ⟨h0, h⟩
    · rw [h] at h1; cases h1
    · rw [h2 h0] at h; cases h
  · exact isS_c (by simpa using hc)
theorem isS_end {c : Int} {ts : List T4} (h : OkW c ts ts.length) : (inB c 1 6 && decide (ts.length ≤ 16)) = isS c ts := by
  by_cases hc : inB c 1 6 = true
  · have : okB c ts = true := (okB_iff c ts).2 fun k hk => by have := h k hk; rwa [wrap_m1 c hc] at this
    simp [isS, this]
  · simp [isS, hc]
set_option maxHeartbeats 2000000 in
theorem IsSet_any (C : Int) (A : Option Addr) (ts : List T4) (n c : Nat) (w : World) (hn : n = ts.length) (hA : RT w A ts) (hl : n ≤ 35184372088832) :
    Calls Try.prog 45 #[.agg #[.int .i64 C, .slice A n c]] w fun e w' => e = .returned (.bool (isS C ts)) ∧ Below w.heap.size w w' := by
  have HA := Lib.hid hA; have HN := Lib.hid hn; clear hA hn
  go_enter Try.func45, Try.ntmps45
  go_wp2_with fail
  refine name1 ?_
  intro W1 b1 hz hb0
  have HB0 := Lib.hid hb0; have HZ := Lib.hid hz; clear hb0 hz
  go_loopw [8] (fun i wr => Below W1.heap.size W1 wr ∧ ∃ k : Nat, k ≤ n ∧ i = .int .i64 k ∧ OkW C ts k) (fun i _ => n - (intOf i).toNat)
  case atStart => exact ⟨Below.refl _ _, 0, by omega, rfl, fun j h => absurd h (by omega)⟩
  case round =>
    obtain ⟨hB, k, hk, rfl, hall⟩ := hrel
    have b1' := b1.below hB b1.lt
    have HE := Lib.hid (below_to HB0.out hB)
    have hT := HA.out.below HE.out
    have HB := Lib.hid hB; have HALL := Lib.hid hall; clear hB hall
    have a0 : wr.cell? ⟨w.heap.size, 0, none⟩ = some (.int .i64 C) := b1'.cell rfl
    have a1 : wr.cell? ⟨w.heap.size, 1, none⟩ = some (.slice A n c) := b1'.cell rfl
    have l1 := b1'.lt
    by_cases hlt : k < n
    · have i1 : (k : Int) < n := by omega
      have HK := Lib.hid (show k < ts.length by have := HN.out; omega)
      cases ht : tileB (tk ts k) (wrap64 (C - 1))
      · have HT := Lib.hid ht; clear ht
        obtain ⟨b, o, hA', hb, h0, h1, h2, h3⟩ := hT k HK.out
        subst hA'
        clear hT
        go_wp2_with fail
        refine name1 ?_
        intro W2 b2 hz2 hb2
        have A0 := cell_to hb2 a0; have A1 := cell_to hb2 a1; have L1 := lt_to hb2 l1; have L2 := lt_to hb2 hb
        have H0 := cell_to hb2 h0; have H1 := cell_to hb2 h1; have H2 := cell_to hb2 h2; have H3 := cell_to hb2 h3
        have c0 : W2.cell? ⟨wr.heap.size, 0, none⟩ = some (.int .i64 ((tk ts k).get 0)) := b2.cell rfl
        have c1 : W2.cell? ⟨wr.heap.size, 1, none⟩ = some (.int .i64 ((tk ts k).get 1)) := b2.cell rfl
        have c2 : W2.cell? ⟨wr.heap.size, 2, none⟩ = some (.int .i64 ((tk ts k).get 2)) := b2.cell rfl
        have c3 : W2.cell? ⟨wr.heap.size, 3, none⟩ = some (.int .i64 ((tk ts k).get 3)) := b2.cell rfl
        have L3 := b2.lt
        have HE2 := Lib.hid (below_to HE.out hb2); have HB2 := Lib.hid (below_to HB.out hb2)
        clear hb2 hz2 b2 a0 a1 l1 h0 h1 h2 h3 hb
        refine wp_region_gro (by kernel_rfl) (by kernel_rfl) ?_
        repeat (first | go_big_quiet_step (((go_at_call 62; exact quiet_call (by have h := isTile_any (tk ts k) C (gro W2 ‹GP›); rw [HT.out] at h; exact h)))) | quiet_step (((go_at_call 62; exact quiet_call (by have h := isTile_any (tk ts k) C (gro W2 ‹GP›); rw [HT.out] at h; exact h)))))
        refine wpQuiet_nil ?_
        intro w1 hB1
        have HB1 := Lib.hid hB1; clear hB1
        go_wp2_with fail
        go_ret
        exact ⟨ret_bool (isS_notOk HK.out (.inl HT.out)).symm, below_to HE2.out HB1.out⟩
      · have HT := Lib.hid ht; clear ht
        cases k with
        | zero =>
          obtain ⟨b, o, hA', hb, h0, h1, h2, h3⟩ := hT 0 HK.out
          simp only [Nat.zero_mul, Nat.add_zero] at h0 h1 h2 h3
          subst hA'
          clear hT
          go_wp2_with fail
          refine name1 ?_
          intro W2 b2 hz2 hb2
          have A0 := cell_to hb2 a0; have A1 := cell_to hb2 a1; have L1 := lt_to hb2 l1; have L2 := lt_to hb2 hb
          have H0 := cell_to hb2 h0; have H1 := cell_to hb2 h1; have H2 := cell_to hb2 h2; have H3 := cell_to hb2 h3
          have c0 : W2.cell? ⟨wr.heap.size, 0, none⟩ = some (.int .i64 ((tk ts 0).get 0)) := b2.cell rfl
          have c1 : W2.cell? ⟨wr.heap.size, 1, none⟩ = some (.int .i64 ((tk ts 0).get 1)) := b2.cell rfl
          have c2 : W2.cell? ⟨wr.heap.size, 2, none⟩ = some (.int .i64 ((tk ts 0).get 2)) := b2.cell rfl
          have c3 : W2.cell? ⟨wr.heap.size, 3, none⟩ = some (.int .i64 ((tk ts 0).get 3)) := b2.cell rfl
          have L3 := b2.lt
          have HE2 := Lib.hid (below_to HE.out hb2); have HB2 := Lib.hid (below_to HB.out hb2)
          clear hb2 hz2 b2 a0 a1 l1 h0 h1 h2 h3 hb
          refine wp_region_gro (by kernel_rfl) (by kernel_rfl) ?_
          repeat (first | go_big_quiet_step (((go_at_call 62; exact quiet_call (by have h := isTile_any (tk ts 0) C (gro W2 ‹GP›); rw [HT.out] at h; exact h)))) | quiet_step (((go_at_call 62; exact quiet_call (by have h := isTile_any (tk ts 0) C (gro W2 ‹GP›); rw [HT.out] at h; exact h)))))
          refine wpQuiet_nil ?_
          intro w1 hB1
          have HB1 := Lib.hid hB1; clear hB1
          go_wp2_with fail
          go_roundw
          case rel => exact ⟨below_to HB2.out HB1.out, 0 + 1, by omega, by go_num, fun j hj => by
              obtain rfl : j = 0 := by omega
              exact ⟨HT.out, fun h => absurd h (by omega)⟩⟩
          case measure => simp [intOf]; omega
        | succ k =>
          obtain ⟨b, o, hA', hb, h0, h1, h2, h3⟩ := hT (k + 1) HK.out
          obtain ⟨b', o', hA'', hb', h0', h1', h2', h3'⟩ := hT k (by have := HK.out; omega)
          subst hA'
          obtain ⟨rfl, rfl⟩ : b = b' ∧ o = o' := by injection hA'' with e; injection e with e1 e2; exact ⟨e1, e2⟩
          clear hT hA'' hb'
          have i0 : (k : Int) < n := by omega
          cases hlT : ltT (tk ts k) (tk ts (k + 1))
          · have HL := Lib.hid hlT
            have hge : 0 ≤ cmpL (tk ts k).list (tk ts (k + 1)).list := by
              have : ¬ cmpL (tk ts k).list (tk ts (k + 1)).list < 0 := fun h => by rw [cmp_lt.1 h] at hlT; cases hlT
              omega
            clear hlT
            go_wp2_with fail
            refine name1 ?_
            intro W2 b2 hz2 hb2
            have A0 := cell_to hb2 a0; have A1 := cell_to hb2 a1; have L1 := lt_to hb2 l1; have L2 := lt_to hb2 hb
            have H0' := cell_to hb2 h0'; have H1' := cell_to hb2 h1'; have H2' := cell_to hb2 h2'; have H3' := cell_to hb2 h3'
            have H0 := cell_to hb2 h0; have H1 := cell_to hb2 h1; have H2 := cell_to hb2 h2; have H3 := cell_to hb2 h3
            have c0 : W2.cell? ⟨wr.heap.size, 0, none⟩ = some (.int .i64 ((tk ts (k + 1)).get 0)) := b2.cell rfl
            have c1 : W2.cell? ⟨wr.heap.size, 1, none⟩ = some (.int .i64 ((tk ts (k + 1)).get 1)) := b2.cell rfl
            have c2 : W2.cell? ⟨wr.heap.size, 2, none⟩ = some (.int .i64 ((tk ts (k + 1)).get 2)) := b2.cell rfl
            have c3 : W2.cell? ⟨wr.heap.size, 3, none⟩ = some (.int .i64 ((tk ts (k + 1)).get 3)) := b2.cell rfl
            have L3 := b2.lt
            have HE2 := Lib.hid (below_to HE.out hb2); have HB2 := Lib.hid (below_to HB.out hb2)
            clear hb2 hz2 b2 a0 a1 l1 h0 h1 h2 h3 hb h0' h1' h2' h3'
            refine wp_region_gro (by kernel_rfl) (by kernel_rfl) ?_
            repeat (first | go_big_quiet_step (((first | (go_at_call 62; exact quiet_call (by have h := isTile_any (tk ts (k + 1)) C (gro W2 ‹GP›); rw [HT.out] at h; exact h)) | (go_at_call 63; exact quiet_call (by have h := compare_any (tk ts k) (tk ts (k + 1)) (gro W2 ‹GP›); exact h))))) | quiet_step (((first | (go_at_call 62; exact quiet_call (by have h := isTile_any (tk ts (k + 1)) C (gro W2 ‹GP›); rw [HT.out] at h; exact h)) | (go_at_call 63; exact quiet_call (by have h := compare_any (tk ts k) (tk ts (k + 1)) (gro W2 ‹GP›); exact h))))))
            refine wpQuiet_nil ?_
            intro w1 hB1
            have HB1 := Lib.hid hB1; clear hB1
            go_wp2_with fail
            go_ret
            exact ⟨ret_bool (isS_notOk HK.out (.inr ⟨by omega, by rw [Nat.add_sub_cancel]; exact HL.out⟩)).symm, below_to HE2.out HB1.out⟩
          · have HL := Lib.hid hlT
            have hge : cmpL (tk ts k).list (tk ts (k + 1)).list < 0 := cmp_lt.2 hlT
            clear hlT
            go_wp2_with fail
            refine name1 ?_
            intro W2 b2 hz2 hb2
            have A0 := cell_to hb2 a0; have A1 := cell_to hb2 a1; have L1 := lt_to hb2 l1; have L2 := lt_to hb2 hb
            have H0' := cell_to hb2 h0'; have H1' := cell_to hb2 h1'; have H2' := cell_to hb2 h2'; have H3' := cell_to hb2 h3'
            have H0 := cell_to hb2 h0; have H1 := cell_to hb2 h1; have H2 := cell_to hb2 h2; have H3 := cell_to hb2 h3
            have c0 : W2.cell? ⟨wr.heap.size, 0, none⟩ = some (.int .i64 ((tk ts (k + 1)).get 0)) := b2.cell rfl
            have c1 : W2.cell? ⟨wr.heap.size, 1, none⟩ = some (.int .i64 ((tk ts (k + 1)).get 1)) := b2.cell rfl
            have c2 : W2.cell? ⟨wr.heap.size, 2, none⟩ = some (.int .i64 ((tk ts (k + 1)).get 2)) := b2.cell rfl
            have c3 : W2.cell? ⟨wr.heap.size, 3, none⟩ = some (.int .i64 ((tk ts (k + 1)).get 3)) := b2.cell rfl
            have L3 := b2.lt
            have HE2 := Lib.hid (below_to HE.out hb2); have HB2 := Lib.hid (below_to HB.out hb2)
            clear hb2 hz2 b2 a0 a1 l1 h0 h1 h2 h3 hb h0' h1' h2' h3'
            refine wp_region_gro (by kernel_rfl) (by kernel_rfl) ?_
            repeat (first | go_big_quiet_step (((first | (go_at_call 62; exact quiet_call (by have h := isTile_any (tk ts (k + 1)) C (gro W2 ‹GP›); rw [HT.out] at h; exact h)) | (go_at_call 63; exact quiet_call (by have h := compare_any (tk ts k) (tk ts (k + 1)) (gro W2 ‹GP›); exact h))))) | quiet_step (((first | (go_at_call 62; exact quiet_call (by have h := isTile_any (tk ts (k + 1)) C (gro W2 ‹GP›); rw [HT.out] at h; exact h)) | (go_at_call 63; exact quiet_call (by have h := compare_any (tk ts k) (tk ts (k + 1)) (gro W2 ‹GP›); exact h))))))
            refine wpQuiet_nil ?_
            intro w1 hB1
            have HB1 := Lib.hid hB1; clear hB1
            go_wp2_with fail
            go_roundw
            case rel => exact ⟨below_to HB2.out HB1.out, k + 1 + 1, by omega, by go_num, fun j hj => by
                by_cases e : j = k + 1
                · subst e; exact ⟨HT.out, fun _ => by rw [Nat.add_sub_cancel]; exact HL.out⟩
                · exact HALL.out j (by omega)⟩
            case measure => simp [intOf]; omega
    · have HK := Lib.hid (show k = ts.length by have := HN.out; omega)
      cases hC : inB C 1 6
      · have HC := Lib.hid hC; clear hC
        go_wp2_with fail
        refine (within_any _ _ _ _).mono ?_
        rintro e w' ⟨rfl, rfl⟩
        rw [HC.out]
        go_wp2_with fail
        go_ret
        exact ⟨ret_bool (isS_c HC.out).symm, HE.out⟩
      · have HC := Lib.hid hC; clear hC
        have HF := Lib.hid (isS_end (c := C) (ts := ts) (by rw [← HK.out]; exact HALL.out))
        by_cases h16 : n ≤ 16
        all_goals
          go_wp2_with fail
          refine (within_any _ _ _ _).mono ?_
          rintro e w' ⟨rfl, rfl⟩
          rw [HC.out]
          go_wp2_with fail
          go_ret
          refine ⟨ret_bool ?_, HE.out⟩
          rw [← HF.out, HC.out, ← HN.out]
          simp; omega
end Go.Proofs.Ytgdmflmglkakgaa
namespace Go.Proofs.Ytgdmflmglkakgaa.Q
open Go Go.RowKit Go.Proofs Go.Proofs.YtgdmflmglkakgaaW.PrintWords Go.Proofs.Ytgdmflmglkakgaa
set_option linter.unusedVariables false
set_option linter.unusedSimpArgs false
def inLim (n : Nat) : Bool := decide (n ≤ 35184372088832)
def spec_l01Tile.f (a0 a1_0 a1_1 a1_2 a1_3 : Int) : Option Bool := some (tileB ⟨a1_0, a1_1, a1_2, a1_3⟩ (wrap64 (a0 - 1)))
theorem spec_l01Tile.calls (a0 a1_0 a1_1 a1_2 a1_3 : Int) (r : Bool) (w : World) (h : spec_l01Tile.f a0 a1_0 a1_1 a1_2 a1_3 = some r) :
    Calls Try.prog 59 #[.int .i64 a0, .agg #[.int .i64 a1_0, .int .i64 a1_1, .int .i64 a1_2, .int .i64 a1_3]] w fun e w' => e = .returned (.bool r) ∧ Below w.heap.size w w' := by
  obtain rfl := Option.some.inj h
  exact l01Tile_any a0 ⟨a1_0, a1_1, a1_2, a1_3⟩ w
def spec_l01Before.f (a0_0 a0_1 a0_2 a0_3 a1_0 a1_1 a1_2 a1_3 : Int) : Option Bool := some (ltT ⟨a0_0, a0_1, a0_2, a0_3⟩ ⟨a1_0, a1_1, a1_2, a1_3⟩)
theorem spec_l01Before.calls (a0_0 a0_1 a0_2 a0_3 a1_0 a1_1 a1_2 a1_3 : Int) (r : Bool) (w : World) (h : spec_l01Before.f a0_0 a0_1 a0_2 a0_3 a1_0 a1_1 a1_2 a1_3 = some r) :
    Calls Try.prog 60 #[.agg #[.int .i64 a0_0, .int .i64 a0_1, .int .i64 a0_2, .int .i64 a0_3], .agg #[.int .i64 a1_0, .int .i64 a1_1, .int .i64 a1_2, .int .i64 a1_3]] w fun e w' => e = .returned (.bool r) ∧ Below w.heap.size w w' := by
  obtain rfl := Option.some.inj h
  exact l01Before_any ⟨a0_0, a0_1, a0_2, a0_3⟩ ⟨a1_0, a1_1, a1_2, a1_3⟩ w
def spec_l01Is.f (a0_0 : Int) (l0_1 : List STile) : Option Bool := if inLim l0_1.length = true then some (isS a0_0 (l0_1.map toT)) else none
theorem spec_l01Is.calls (a0_0 : Int) (A0_1 : Option Addr) (c0_1 : Nat) (l0_1 : List STile) (r : Bool) (w : World) (hr0_1 : Kd.C k63 w A0_1 l0_1.length l0_1) (hc0_1 : l0_1.length ≤ c0_1) (h : spec_l01Is.f a0_0 l0_1 = some r) :
    Calls Try.prog 43 #[.agg #[.int .i64 a0_0, .slice A0_1 l0_1.length c0_1]] w fun e w' => e = .returned (.bool r) ∧ Below w.heap.size w w' := by
  unfold spec_l01Is.f at h
  split at h
  · rename_i hl
    obtain rfl := Option.some.inj h
    exact l01Is_any a0_0 A0_1 (l0_1.map toT) _ c0_1 w (by simp) (rt_of_C hr0_1) (by simpa [inLim] using hl)
  · cases h
def impl_isTile.f (a0_0 a0_1 a0_2 a0_3 a1 : Int) : Option Bool := some (tileB ⟨a0_0, a0_1, a0_2, a0_3⟩ (wrap64 (a1 - 1)))
theorem impl_isTile.calls (a0_0 a0_1 a0_2 a0_3 a1 : Int) (r : Bool) (w : World) (h : impl_isTile.f a0_0 a0_1 a0_2 a0_3 a1 = some r) :
    Calls Try.prog 62 #[.agg #[.int .i64 a0_0, .int .i64 a0_1, .int .i64 a0_2, .int .i64 a0_3], .int .i64 a1] w fun e w' => e = .returned (.bool r) ∧ Below w.heap.size w w' := by
  obtain rfl := Option.some.inj h
  exact isTile_any ⟨a0_0, a0_1, a0_2, a0_3⟩ a1 w
def impl_IsSet.f (a0_0 : Int) (l0_1 : List STile) : Option Bool := if inLim l0_1.length = true then some (isS a0_0 (l0_1.map toT)) else none
theorem impl_IsSet.calls (a0_0 : Int) (A0_1 : Option Addr) (c0_1 : Nat) (l0_1 : List STile) (r : Bool) (w : World) (hr0_1 : Kd.C k63 w A0_1 l0_1.length l0_1) (hc0_1 : l0_1.length ≤ c0_1) (h : impl_IsSet.f a0_0 l0_1 = some r) :
    Calls Try.prog 45 #[.agg #[.int .i64 a0_0, .slice A0_1 l0_1.length c0_1]] w fun e w' => e = .returned (.bool r) ∧ Below w.heap.size w w' := by
  unfold impl_IsSet.f at h
  split at h
  · rename_i hl
    obtain rfl := Option.some.inj h
    exact IsSet_any a0_0 A0_1 (l0_1.map toT) _ c0_1 w (by simp) (rt_of_C hr0_1) (by simpa [inLim] using hl)
  · cases h
end Go.Proofs.Ytgdmflmglkakgaa.Q
namespace Go.Proofs.Ytgdmflmglkakgaa.Q
open Go.RowKit Go.Proofs.YtgdmflmglkakgaaW.PrintWords Go.Proofs.YtgdmflmglkakgaaW.PrintLast Go.Proofs.YtgdmflmglkakgaaW.PrintMore
attribute [local go_sem] max2_int min2_int max_two min_two max_three min_three max_four min_four
set_option linter.unusedVariables false
set_option linter.unusedSimpArgs false
def spec_l01In.f (a0 : Int) (a1 : Int) (a2 : Int) : Option (Bool) := if a0 ≥ a1 then (some (decide (a0 ≤ a2))) else (some false)
set_option maxHeartbeats 8000000 in
set_option maxRecDepth 100000 in
theorem spec_l01In.calls (a0 : Int) (a1 : Int) (a2 : Int) (r : Bool) (w : World) (h : spec_l01In.f a0 a1 a2 = some r) :
  Calls Try.prog 54 #[.int .i64 a0, .int .i64 a1, .int .i64 a2] w fun e w' => e = .returned (.bool r) ∧ Drawn0 w w' := by
 have H : (if a0 ≥ a1 then (some (decide (a0 ≤ a2))) else (some false)) = some r := h
 clear h
 by_cases c4 : a0 ≥ a1
 ·rw [if_pos c4] at H
  have c4b0 : decide (a1 ≤ a0) = true := decide_eq_true c4
  clear c4
  obtain rfl := Option.some.inj H
  go_enter Try.func54, Try.ntmps54
  go_wp2
  go_ret
  exact ⟨by first | rfl | (simp; done) | (simp [*]; done), by repeat (first | exact Drawn0.refl _ | apply Drawn0.step)⟩
 ·rw [if_neg c4] at H
  have c4b0 : decide (a1 ≤ a0) = false := decide_eq_false c4
  clear c4
  obtain rfl := Option.some.inj H
  go_enter Try.func54, Try.ntmps54
  go_wp2
  go_ret
  exact ⟨by first | rfl | (simp; done) | (simp [*]; done), by repeat (first | exact Drawn0.refl _ | apply Drawn0.step)⟩
end Go.Proofs.Ytgdmflmglkakgaa.Q
namespace Go.Proofs.Ytgdmflmglkakgaa.Q
open Go.RowKit Go.Proofs.YtgdmflmglkakgaaW.PrintWords Go.Proofs.YtgdmflmglkakgaaW.PrintLast Go.Proofs.YtgdmflmglkakgaaW.PrintMore
attribute [local go_sem] max2_int min2_int max_two min_two max_three min_three max_four min_four
set_option linter.unusedVariables false
set_option linter.unusedSimpArgs false
mutual
def spec_l01Rows.j0 : Nat → List (List Int) → Bool → Int → List (S63) → Option (Int)
 | 0, _, _, _, _ => none
 | k + 1, x1, x31, x104000, x104001 => if x31 = true then (some 2) else (spec_l01Rows.l0 k x1 0 x104000 x104001)
def spec_l01Rows.l0 : Nat → List (List Int) → Int → Int → List (S63) → Option (Int)
 | 0, _, _, _, _ => none
 | k + 1, x1, x5, x104000, x104001 => if x5 < (x1.length : Int) then (if 0 ≤ x5 then (if 0 < (x1.length : Int) then (if ((rd_L1 x1 x5).length : Int) = ((rd_L1 x1 0).length : Int) then (spec_l01Rows.l1 k x1 x5 0 x104000 x104001) else (some 2)) else (none)) else (none)) else (some 0)
def spec_l01Rows.l1 : Nat → List (List Int) → Int → Int → Int → List (S63) → Option (Int)
 | 0, _, _, _, _, _ => none
 | k + 1, x1, x5, x6, x104000, x104001 => if 0 ≤ x5 then (if x5 < (x1.length : Int) then (if x6 < ((rd_L1 x1 x5).length : Int) then (if 0 ≤ x6 then ((spec_l01In.f (rd (rd_L1 x1 x5) x6) 0 (wrap64 ((x104001.length : Int) - 1))).bind fun t112 => (if t112 = true then (spec_l01Rows.l1 k x1 x5 (wrap64 (x6 + 1)) x104000 x104001) else (some 2))) else (none)) else (spec_l01Rows.l0 k x1 (wrap64 (x5 + 1)) x104000 x104001)) else (none)) else (none)
end
def spec_l01Rows.f (k : Nat) (a0_0 : Int) (l0_1 : List (S63)) (l1 : List (List Int)) : Option (Int) := (spec_l01Is.f a0_0 l0_1).bind fun t104 => (if t104 = true then (if (l1.length : Int) < 1 then (spec_l01Rows.j0 k l1 true a0_0 l0_1) else (if (l1.length : Int) > 8 then (spec_l01Rows.j0 k l1 true a0_0 l0_1) else (if 0 < (l1.length : Int) then (if ((rd_L1 l1 0).length : Int) < 1 then (spec_l01Rows.j0 k l1 true a0_0 l0_1) else (spec_l01Rows.j0 k l1 (decide (((rd_L1 l1 0).length : Int) > 8)) a0_0 l0_1)) else (none)))) else (some 1))
theorem spec_l01Rows.mono_l : ∀ k, (∀ y0 y1 y2 y3, LeO (spec_l01Rows.j0 k y0 y1 y2 y3) (spec_l01Rows.j0 (k + 1) y0 y1 y2 y3)) ∧ (∀ y0 y1 y2 y3, LeO (spec_l01Rows.l0 k y0 y1 y2 y3) (spec_l01Rows.l0 (k + 1) y0 y1 y2 y3)) ∧ (∀ y0 y1 y2 y3 y4, LeO (spec_l01Rows.l1 k y0 y1 y2 y3 y4) (spec_l01Rows.l1 (k + 1) y0 y1 y2 y3 y4))
 | 0 => ⟨fun _ _ _ _ r h => by simp [spec_l01Rows.j0] at h, fun _ _ _ _ r h => by simp [spec_l01Rows.l0] at h, fun _ _ _ _ _ r h => by simp [spec_l01Rows.l1] at h⟩
 | k + 1 => by
  obtain ⟨ih0, ih1, ih2⟩ := spec_l01Rows.mono_l k
  refine ⟨?_, ?_, ?_⟩
  ·intro y0 y1 y2 y3
   unfold spec_l01Rows.j0
   repeat' first
   | (with_reducible exact ih0 _ _ _ _)
   | (with_reducible exact ih1 _ _ _ _)
   | (with_reducible exact ih2 _ _ _ _ _)
   | (with_reducible exact LeO.refl _)
   | (with_reducible exact LeO.none _)
   | (with_reducible refine LeO.ite ?_ ?_)
   | (with_reducible refine LeO.bind ?_ (fun _ => ?_))
   | exact ih0 _ _ _ _
   | exact ih1 _ _ _ _
   | exact ih2 _ _ _ _ _
   | exact LeO.none _
   | refine LeO.ite ?_ ?_
   | refine LeO.bind ?_ (fun _ => ?_)
  ·intro y0 y1 y2 y3
   unfold spec_l01Rows.l0
   repeat' first
   | (with_reducible exact ih0 _ _ _ _)
   | (with_reducible exact ih1 _ _ _ _)
   | (with_reducible exact ih2 _ _ _ _ _)
   | (with_reducible exact LeO.refl _)
   | (with_reducible exact LeO.none _)
   | (with_reducible refine LeO.ite ?_ ?_)
   | (with_reducible refine LeO.bind ?_ (fun _ => ?_))
   | exact ih0 _ _ _ _
   | exact ih1 _ _ _ _
   | exact ih2 _ _ _ _ _
   | exact LeO.none _
   | refine LeO.ite ?_ ?_
   | refine LeO.bind ?_ (fun _ => ?_)
  ·intro y0 y1 y2 y3 y4
   unfold spec_l01Rows.l1
   repeat' first
   | (with_reducible exact ih0 _ _ _ _)
   | (with_reducible exact ih1 _ _ _ _)
   | (with_reducible exact ih2 _ _ _ _ _)
   | (with_reducible exact LeO.refl _)
   | (with_reducible exact LeO.none _)
   | (with_reducible refine LeO.ite ?_ ?_)
   | (with_reducible refine LeO.bind ?_ (fun _ => ?_))
   | exact ih0 _ _ _ _
   | exact ih1 _ _ _ _
   | exact ih2 _ _ _ _ _
   | exact LeO.none _
   | refine LeO.ite ?_ ?_
   | refine LeO.bind ?_ (fun _ => ?_)
theorem spec_l01Rows.mono : ∀ a0 a1 a2 k, LeO (spec_l01Rows.f k a0 a1 a2) (spec_l01Rows.f (k + 1) a0 a1 a2) := by
 intro a0 a1 a2 k
 obtain ⟨ih0, ih1, ih2⟩ := spec_l01Rows.mono_l k
 unfold spec_l01Rows.f
 repeat' first
   | (with_reducible exact ih0 _ _ _ _)
   | (with_reducible exact ih1 _ _ _ _)
   | (with_reducible exact ih2 _ _ _ _ _)
   | (with_reducible exact LeO.refl _)
   | (with_reducible exact LeO.none _)
   | (with_reducible refine LeO.ite ?_ ?_)
   | (with_reducible refine LeO.bind ?_ (fun _ => ?_))
   | exact ih0 _ _ _ _
   | exact ih1 _ _ _ _
   | exact ih2 _ _ _ _ _
   | exact LeO.none _
   | refine LeO.ite ?_ ?_
   | refine LeO.bind ?_ (fun _ => ?_)
set_option maxHeartbeats 8000000 in
set_option maxRecDepth 100000 in
theorem spec_l01Rows.calls (k : Nat) (a0_0 : Int) (A0_1 : Option Addr) (c0_1 : Nat) (l0_1 : List (S63)) (A1 : Option Addr) (c1 : Nat) (l1 : List (List Int)) (r : Int) (w : World) (hr0_1 : Kd.C k63 w A0_1 l0_1.length l0_1) (hc0_1 : l0_1.length ≤ c0_1) (hr1 : Kd.C (Kd.slice 2 (Kd.int .i64)) w A1 l1.length l1) (hc1 : l1.length ≤ c1) (h : spec_l01Rows.f k a0_0 l0_1 l1 = some r) :
  Calls Try.prog 27 #[.agg #[.int .i64 a0_0, .slice A0_1 l0_1.length c0_1], .slice A1 l1.length c1] w fun e w' => e = .returned (.int .i64 r) ∧ Below w.heap.size w w' := by
 have hu32 := Try.underlying32
 have HR0_1 := Aside0.mk hr0_1
 have HC0_1 := Aside0.mk hc0_1
 clear hr0_1 hc0_1
 have HR1 := Aside0.mk hr1
 have HC1 := Aside0.mk hc1
 clear hr1 hc1
 have HB := Aside0.mk (Below.refl w.heap.size w)
 have H : ((spec_l01Is.f a0_0 l0_1).bind fun t104 => (if t104 = true then (if (l1.length : Int) < 1 then (spec_l01Rows.j0 k l1 true a0_0 l0_1) else (if (l1.length : Int) > 8 then (spec_l01Rows.j0 k l1 true a0_0 l0_1) else (if 0 < (l1.length : Int) then (if ((rd_L1 l1 0).length : Int) < 1 then (spec_l01Rows.j0 k l1 true a0_0 l0_1) else (spec_l01Rows.j0 k l1 (decide (((rd_L1 l1 0).length : Int) > 8)) a0_0 l0_1)) else (none)))) else (some 1))) = some r := h
 clear h
 replace H := Option.bind_eq_some_iff.mp H
 obtain ⟨t104, A30, H⟩ := H
 replace H : (if t104 = true then (if (l1.length : Int) < 1 then (spec_l01Rows.j0 k l1 true a0_0 l0_1) else (if (l1.length : Int) > 8 then (spec_l01Rows.j0 k l1 true a0_0 l0_1) else (if 0 < (l1.length : Int) then (if ((rd_L1 l1 0).length : Int) < 1 then (spec_l01Rows.j0 k l1 true a0_0 l0_1) else (spec_l01Rows.j0 k l1 (decide (((rd_L1 l1 0).length : Int) > 8)) a0_0 l0_1)) else (none)))) else (some 1)) = some r := H
 have A3 := Aside0.mk A30
 clear A30
 by_cases c4 : t104 = true
 ·subst c4
  have H1 : (if (l1.length : Int) < 1 then (spec_l01Rows.j0 k l1 true a0_0 l0_1) else (if (l1.length : Int) > 8 then (spec_l01Rows.j0 k l1 true a0_0 l0_1) else (if 0 < (l1.length : Int) then (if ((rd_L1 l1 0).length : Int) < 1 then (spec_l01Rows.j0 k l1 true a0_0 l0_1) else (spec_l01Rows.j0 k l1 (decide (((rd_L1 l1 0).length : Int) > 8)) a0_0 l0_1)) else (none)))) = some r := by rw [if_pos rfl] at H; exact H
  clear H
  have H := H1
  clear H1
  have HC5 := Aside0.mk H
  clear H
  go_enter Try.func27, Try.ntmps27
  go_upto_region 3 with (first | ((with_reducible refine gate_dst (N := 2) rfl ?_); (try (refine gate_guard (by rfl) ?_; dsimp only)); refine box_event ?hg (N := 2) ?hd (cs := #[.int .i64 a0_0, .slice A0_1 l0_1.length c0_1]) (t := 32) ?hr ?_; (case hd => rfl); (case hg => rfl); (case hr => first | (go_simp; done) | (go_simp; rfl)); intro gb103 hg w6 hbox hb; have n0_ := Aside0.mk (below_step (by repeat (first | (with_reducible first | exact HB.out | apply below_alloc | apply pw_below_drewN | apply below_drew1) | exact HB.out)) hb); have n1_ := Aside0.mk (hbox); have n2_ := Aside0.mk ((by rw [hg]; exact (below_size (by repeat (first | (with_reducible first | exact HB.out | apply below_alloc | apply pw_below_drewN | apply below_drew1) | exact HB.out))) : w.heap.size ≤ gb103)); have n3_ := Aside0.mk ((by rw [hg]; exact (below_size (by repeat (first | (with_reducible first | exact HB.out | apply below_alloc | apply pw_below_drewN | apply below_drew1) | exact HB.out))) : w.heap.size ≤ gb103)); clear HB; have HB := n0_; have BK103 := n1_; have GW103 := n2_; have GE103 := n3_; clear n0_ n1_ n2_ n3_; clear hb hbox hg; have hcz7_0 : w6.cell? ⟨gb103, 0, none⟩ = some (.int .i64 a0_0) := (blk_cell BK103.out 0).trans rfl; have hcz7_1 : w6.cell? ⟨gb103, 1, none⟩ = some (.slice A0_1 l0_1.length c0_1) := (blk_cell BK103.out 1).trans rfl; have hfz7_0 := blk_frozen BK103.out 0; have hfz7_1 := blk_frozen BK103.out 1) | (go_at_call 43; (with_reducible refine (spec_l01Is.calls a0_0 _ _ l0_1 true _ ?side1 ?side2 A3.out).mono ?_); (case side1 => repeat (first | exact (Kd.C_below HR0_1.out HB.out) | (with_reducible refine Kd.C_alloc ?_ _) | (with_reducible refine Kd.C_drewN ?_ _) | (with_reducible refine Kd.C_drew ?_))); (case side2 => exact HC0_1.out); rintro e w8 ⟨rfl, hb⟩; have n0_ := Aside0.mk (blk_below (g := gb103) (o := .cells #[.int .i64 a0_0, .slice A0_1 l0_1.length c0_1] 32 (0, 0)) (by (with_reducible repeat (first | refine blk_drewN ?_ _ | refine blk_drew ?_ | refine blk_alloc ?_ _)); exact BK103.out) hb); have n1_ := Aside0.mk (below_step (by repeat (first | (with_reducible first | exact HB.out | apply below_alloc | apply pw_below_drewN | apply below_drew1 | refine below_set ?_ GE103.out) | exact HB.out)) hb); clear BK103; clear HB; have BK103 := n0_; have HB := n1_; clear n0_ n1_; (try clear hb); (try clear hb2); (try clear hk); (try clear hi)))
  repeat (go_quiet (first | ((with_reducible refine gate_dst (N := 2) rfl ?_); (try (refine gate_guard (by rfl) ?_; dsimp only)); refine box_event ?hg (N := 2) ?hd (cs := #[.int .i64 a0_0, .slice A0_1 l0_1.length c0_1]) (t := 32) ?hr ?_; (case hd => rfl); (case hg => rfl); (case hr => first | (go_simp; done) | (go_simp; rfl)); intro gb103 hg w6 hbox hb; have n0_ := Aside0.mk (below_step (by repeat (first | (with_reducible first | exact HB.out | apply below_alloc | apply pw_below_drewN | apply below_drew1) | exact HB.out)) hb); have n1_ := Aside0.mk (hbox); have n2_ := Aside0.mk ((by rw [hg]; exact (below_size (by repeat (first | (with_reducible first | exact HB.out | apply below_alloc | apply pw_below_drewN | apply below_drew1) | exact HB.out))) : w.heap.size ≤ gb103)); have n3_ := Aside0.mk ((by rw [hg]; exact (below_size (by repeat (first | (with_reducible first | exact HB.out | apply below_alloc | apply pw_below_drewN | apply below_drew1) | exact HB.out))) : w.heap.size ≤ gb103)); clear HB; have HB := n0_; have BK103 := n1_; have GW103 := n2_; have GE103 := n3_; clear n0_ n1_ n2_ n3_; clear hb hbox hg; have hcz7_0 : w6.cell? ⟨gb103, 0, none⟩ = some (.int .i64 a0_0) := (blk_cell BK103.out 0).trans rfl; have hcz7_1 : w6.cell? ⟨gb103, 1, none⟩ = some (.slice A0_1 l0_1.length c0_1) := (blk_cell BK103.out 1).trans rfl; have hfz7_0 := blk_frozen BK103.out 0; have hfz7_1 := blk_frozen BK103.out 1) | (go_at_call 43; (with_reducible refine (spec_l01Is.calls a0_0 _ _ l0_1 true _ ?side1 ?side2 A3.out).mono ?_); (case side1 => repeat (first | exact (Kd.C_below HR0_1.out HB.out) | (with_reducible refine Kd.C_alloc ?_ _) | (with_reducible refine Kd.C_drewN ?_ _) | (with_reducible refine Kd.C_drew ?_))); (case side2 => exact HC0_1.out); rintro e w8 ⟨rfl, hb⟩; have n0_ := Aside0.mk (blk_below (g := gb103) (o := .cells #[.int .i64 a0_0, .slice A0_1 l0_1.length c0_1] 32 (0, 0)) (by (with_reducible repeat (first | refine blk_drewN ?_ _ | refine blk_drew ?_ | refine blk_alloc ?_ _)); exact BK103.out) hb); have n1_ := Aside0.mk (below_step (by repeat (first | (with_reducible first | exact HB.out | apply below_alloc | apply pw_below_drewN | apply below_drew1 | refine below_set ?_ GE103.out) | exact HB.out)) hb); clear BK103; clear HB; have BK103 := n0_; have HB := n1_; clear n0_ n1_; (try clear hb); (try clear hb2); (try clear hk); (try clear hi))); go_upto_region 3 with (first | ((with_reducible refine gate_dst (N := 2) rfl ?_); (try (refine gate_guard (by rfl) ?_; dsimp only)); refine box_event ?hg (N := 2) ?hd (cs := #[.int .i64 a0_0, .slice A0_1 l0_1.length c0_1]) (t := 32) ?hr ?_; (case hd => rfl); (case hg => rfl); (case hr => first | (go_simp; done) | (go_simp; rfl)); intro gb103 hg w6 hbox hb; have n0_ := Aside0.mk (below_step (by repeat (first | (with_reducible first | exact HB.out | apply below_alloc | apply pw_below_drewN | apply below_drew1) | exact HB.out)) hb); have n1_ := Aside0.mk (hbox); have n2_ := Aside0.mk ((by rw [hg]; exact (below_size (by repeat (first | (with_reducible first | exact HB.out | apply below_alloc | apply pw_below_drewN | apply below_drew1) | exact HB.out))) : w.heap.size ≤ gb103)); have n3_ := Aside0.mk ((by rw [hg]; exact (below_size (by repeat (first | (with_reducible first | exact HB.out | apply below_alloc | apply pw_below_drewN | apply below_drew1) | exact HB.out))) : w.heap.size ≤ gb103)); clear HB; have HB := n0_; have BK103 := n1_; have GW103 := n2_; have GE103 := n3_; clear n0_ n1_ n2_ n3_; clear hb hbox hg; have hcz7_0 : w6.cell? ⟨gb103, 0, none⟩ = some (.int .i64 a0_0) := (blk_cell BK103.out 0).trans rfl; have hcz7_1 : w6.cell? ⟨gb103, 1, none⟩ = some (.slice A0_1 l0_1.length c0_1) := (blk_cell BK103.out 1).trans rfl; have hfz7_0 := blk_frozen BK103.out 0; have hfz7_1 := blk_frozen BK103.out 1) | (go_at_call 43; (with_reducible refine (spec_l01Is.calls a0_0 _ _ l0_1 true _ ?side1 ?side2 A3.out).mono ?_); (case side1 => repeat (first | exact (Kd.C_below HR0_1.out HB.out) | (with_reducible refine Kd.C_alloc ?_ _) | (with_reducible refine Kd.C_drewN ?_ _) | (with_reducible refine Kd.C_drew ?_))); (case side2 => exact HC0_1.out); rintro e w8 ⟨rfl, hb⟩; have n0_ := Aside0.mk (blk_below (g := gb103) (o := .cells #[.int .i64 a0_0, .slice A0_1 l0_1.length c0_1] 32 (0, 0)) (by (with_reducible repeat (first | refine blk_drewN ?_ _ | refine blk_drew ?_ | refine blk_alloc ?_ _)); exact BK103.out) hb); have n1_ := Aside0.mk (below_step (by repeat (first | (with_reducible first | exact HB.out | apply below_alloc | apply pw_below_drewN | apply below_drew1 | refine below_set ?_ GE103.out) | exact HB.out)) hb); clear BK103; clear HB; have BK103 := n0_; have HB := n1_; clear n0_ n1_; (try clear hb); (try clear hb2); (try clear hk); (try clear hi))))
  (try simp only [Act.put, List.setIfInBounds_toArray, List.set_cons_zero, List.set_cons_succ])
  go_cut [31] (fun v31 wc => ∃ (kq : Nat) (x31_4 : Bool), v31 = .bool x31_4 ∧ Aside0 (spec_l01Rows.j0 kq l1 x31_4 a0_0 l0_1 = some r) ∧ Aside0 (kq ≤ k) ∧ Aside0 (wc.heap[gb103]? = some (.cells #[.int .i64 a0_0, (.slice A0_1 l0_1.length c0_1)] 32 (0, 0))) ∧ Aside0 (Below w.heap.size w wc))
  case first =>
   have H := HC5.out
   clear HC5
   by_cases c9 : (l1.length : Int) < 1
   ·rw [if_pos c9] at H
    have c9b0 : decide ((l1.length : Int) < 1) = true := decide_eq_true c9
    have c9b1 : decide (l1.length < 1) = true := decide_eq_true (by omega)
    clear c9
    (first | rw [c9b0] | (simp only [i64_w, i32_w]; rw [c9b0]) | skip)
    have H' := Aside0.mk H
    clear H
    go_wp2
    repeat (go_quiet (fail); try go_wp2)
    go_meet
    case rel => exact ⟨_, (true), (by first | rfl | (simp; done) | (simp [*]; done)), H', ⟨by first | omega | exact Nat.le_refl _⟩, ⟨by (with_reducible repeat (first | refine blk_drewN ?_ _ | refine blk_drew ?_ | refine blk_alloc ?_ _)); exact BK103.out⟩, ⟨by repeat (first | (with_reducible first | exact HB.out | apply below_alloc | apply pw_below_drewN | apply below_drew1 | refine below_set ?_ GE103.out) | exact HB.out)⟩⟩
   ·rw [if_neg c9] at H
    have c9b0 : decide ((l1.length : Int) < 1) = false := decide_eq_false c9
    have c9b1 : decide (l1.length < 1) = false := decide_eq_false (by omega)
    clear c9
    (first | rw [c9b0] | (simp only [i64_w, i32_w]; rw [c9b0]) | skip)
    by_cases c10 : (l1.length : Int) > 8
    ·rw [if_pos c10] at H
     have c10b0 : decide (8 < (l1.length : Int)) = true := decide_eq_true c10
     have c10b1 : decide (8 < l1.length) = true := decide_eq_true (by omega)
     clear c10
     have H' := Aside0.mk H
     clear H
     go_wp2
     repeat (go_quiet (fail); try go_wp2)
     go_meet
     case rel => exact ⟨_, (true), (by first | rfl | (simp; done) | (simp [*]; done)), H', ⟨by first | omega | exact Nat.le_refl _⟩, ⟨by (with_reducible repeat (first | refine blk_drewN ?_ _ | refine blk_drew ?_ | refine blk_alloc ?_ _)); exact BK103.out⟩, ⟨by repeat (first | (with_reducible first | exact HB.out | apply below_alloc | apply pw_below_drewN | apply below_drew1 | refine below_set ?_ GE103.out) | exact HB.out)⟩⟩
    ·rw [if_neg c10] at H
     have c10b0 : decide (8 < (l1.length : Int)) = false := decide_eq_false c10
     have c10b1 : decide (8 < l1.length) = false := decide_eq_false (by omega)
     clear c10
     by_cases c11 : 0 < (l1.length : Int)
     ·rw [if_pos c11] at H
      have c11b0 : decide (0 < (l1.length : Int)) = true := decide_eq_true c11
      have c11b1 : decide (0 < l1.length) = true := decide_eq_true (by omega)
      clear c11
      by_cases c12 : ((rd_L1 l1 0).length : Int) < 1
      ·rw [if_pos c12] at H
       have c12b0 : decide (((rd_L1 l1 0).length : Int) < 1) = true := decide_eq_true c12
       have c12b1 : decide ((rd_L1 l1 0).length < 1) = true := decide_eq_true (by omega)
       clear c12
       have H' := Aside0.mk H
       clear H
       have p105 : 0 ≤ (0 : Int) := (by omega)
       have q105 : 0 < (l1.length : Int) := of_decide_eq_true (by first | (with_reducible assumption) | assumption)
       obtain ⟨ad105, A105_0, c105_0, e105, hx105_0, hl105_0, hi105_0⟩ := at_L1 HR1.out 0 p105 q105
       cases e105
       have qi105 : (0 < l1.length) = True := eq_true (by omega)
       (try rw [show ((0 : Int)).toNat = 0 from rfl] at hx105_0)
       (try rw [Addr.add_zero'] at hx105_0)
       replace hx105_0 := (HB.out.cell (World.block_lt_of_cell? w _ hx105_0)).trans hx105_0
       have HR105_0 := Aside0.mk hi105_0
       have HC105_0 := Aside0.mk hl105_0
       clear hi105_0 hl105_0
       replace p105 := eq_true p105
       replace q105 := eq_true q105
       go_wp2
       repeat (go_quiet (fail); try go_wp2)
       go_meet
       case rel => exact ⟨_, (true), (by first | rfl | (simp; done) | (simp [*]; done)), H', ⟨by first | omega | exact Nat.le_refl _⟩, ⟨by (with_reducible repeat (first | refine blk_drewN ?_ _ | refine blk_drew ?_ | refine blk_alloc ?_ _)); exact BK103.out⟩, ⟨by repeat (first | (with_reducible first | exact HB.out | apply below_alloc | apply pw_below_drewN | apply below_drew1 | refine below_set ?_ GE103.out) | exact HB.out)⟩⟩
      ·rw [if_neg c12] at H
       have c12b0 : decide (((rd_L1 l1 0).length : Int) < 1) = false := decide_eq_false c12
       have c12b1 : decide ((rd_L1 l1 0).length < 1) = false := decide_eq_false (by omega)
       clear c12
       have H' := Aside0.mk H
       clear H
       have p105 : 0 ≤ (0 : Int) := (by omega)
       have q105 : 0 < (l1.length : Int) := of_decide_eq_true (by first | (with_reducible assumption) | assumption)
       obtain ⟨ad105, A105_0, c105_0, e105, hx105_0, hl105_0, hi105_0⟩ := at_L1 HR1.out 0 p105 q105
       cases e105
       have qi105 : (0 < l1.length) = True := eq_true (by omega)
       (try rw [show ((0 : Int)).toNat = 0 from rfl] at hx105_0)
       (try rw [Addr.add_zero'] at hx105_0)
       replace hx105_0 := (HB.out.cell (World.block_lt_of_cell? w _ hx105_0)).trans hx105_0
       have HR105_0 := Aside0.mk hi105_0
       have HC105_0 := Aside0.mk hl105_0
       clear hi105_0 hl105_0
       replace p105 := eq_true p105
       replace q105 := eq_true q105
       have p106 : 0 ≤ (0 : Int) := (by omega)
       have q106 : 0 < (l1.length : Int) := of_decide_eq_true (by first | (with_reducible assumption) | assumption)
       obtain ⟨ad106, A106_0, c106_0, e106, hx106_0, hl106_0, hi106_0⟩ := at_L1 HR1.out 0 p106 q106
       obtain rfl : ad105 = ad106 := (by injection e106)
       have qi106 : (0 < l1.length) = True := eq_true (by omega)
       (try rw [show ((0 : Int)).toNat = 0 from rfl] at hx106_0)
       (try rw [Addr.add_zero'] at hx106_0)
       replace hx106_0 := (HB.out.cell (World.block_lt_of_cell? w _ hx106_0)).trans hx106_0
       have HR106_0 := Aside0.mk hi106_0
       have HC106_0 := Aside0.mk hl106_0
       clear hi106_0 hl106_0
       replace p106 := eq_true p106
       replace q106 := eq_true q106
       have ea_ := Option.some.inj (hx105_0.symm.trans hx106_0)
       injection ea_ with ea_ en_ ec_
       subst ea_
       subst ec_
       clear en_
       go_wp2
       repeat (go_quiet (fail); try go_wp2)
       go_meet
       case rel => exact ⟨_, (decide (((rd_L1 l1 0).length : Int) > 8)), (by first | rfl | (simp; done) | (simp [*]; done)), H', ⟨by first | omega | exact Nat.le_refl _⟩, ⟨by (with_reducible repeat (first | refine blk_drewN ?_ _ | refine blk_drew ?_ | refine blk_alloc ?_ _)); exact BK103.out⟩, ⟨by repeat (first | (with_reducible first | exact HB.out | apply below_alloc | apply pw_below_drewN | apply below_drew1 | refine below_set ?_ GE103.out) | exact HB.out)⟩⟩
     ·rw [if_neg c11] at H
      exact absurd H (by simp)
  case rest =>
   clear HC5
   try clear c1
   try clear p1
   try clear q1
   try clear hx1
   try clear qi1
   try clear c2
   try clear p2
   try clear c4
   try clear c9
   try clear c9b0
   try clear c9b1
   try clear c10
   try clear c10b0
   try clear c10b1
   try clear p10
   try clear q10
   try clear hx10
   try clear qi10
   try clear c11
   try clear c11b0
   try clear c11b1
   try clear c12
   try clear c12b0
   try clear c12b1
   try clear hcz7_0
   try clear hcz7_1
   try clear hfz7_0
   try clear hfz7_1
   try clear hx105_0
   try clear hx106_0
   try clear p105
   try clear p106
   try clear q105
   try clear q106
   obtain ⟨kq, x31_4, rfl, HA, HJ4, BK103, HB⟩ := hcut
   cases kq with
   | zero => exact absurd HA.out (by simp [spec_l01Rows.j0])
   | succ kj4 =>
    have H := HA.out
    clear HA
    simp only [spec_l01Rows.j0] at H
    by_cases c13 : x31_4 = true
    ·subst c13
     have H1 : (some 2) = some r := by rw [if_pos rfl] at H; exact H
     clear H
     have H := H1
     clear H1
     obtain rfl := Option.some.inj H
     go_wp2
     repeat (go_quiet (fail); try go_wp2)
     go_ret
     exact ⟨by first | rfl | (simp [errW_none, errW_some] <;> rfl) | (simp [*, errW_none, errW_some] <;> rfl), by repeat (first | (with_reducible first | exact HB.out | apply below_alloc | apply pw_below_drewN | apply below_drew1 | refine below_set ?_ GE103.out) | exact HB.out)⟩
    ·replace c13 := Bool.eq_false_iff.mpr c13
     subst c13
     have H1 : (spec_l01Rows.l0 kj4 l1 0 a0_0 l0_1) = some r := by rw [if_neg (show ¬ (false = true) by decide)] at H; exact H
     clear H
     have H := H1
     clear H1
     have H' := Aside0.mk H
     clear H
     go_wp2
     repeat (go_quiet (fail); try go_wp2)
     go_loopg [5] kj4 (fun kq v5 w' => ∃ (x5_2 : Int), v5 = .int .i64 x5_2 ∧ Aside0 (spec_l01Rows.l0 kq l1 x5_2 a0_0 l0_1 = some r) ∧ Aside0 (kq ≤ kj4) ∧ Aside0 (w'.heap[gb103]? = some (.cells #[.int .i64 a0_0, (.slice A0_1 l0_1.length c0_1)] 32 (0, 0))) ∧ Aside0 (Below w.heap.size w w'))
     case atStart => exact ⟨(0), (by first | rfl | (simp; done) | (simp [*]; done)), H', ⟨Nat.le_refl _⟩, ⟨by (with_reducible repeat (first | refine blk_drewN ?_ _ | refine blk_drew ?_ | refine blk_alloc ?_ _)); exact BK103.out⟩, ⟨by repeat (first | (with_reducible first | exact HB.out | apply below_alloc | apply pw_below_drewN | apply below_drew1 | refine below_set ?_ GE103.out) | exact HB.out)⟩⟩
     case round =>
      clear H'
      try clear c1
      try clear p1
      try clear q1
      try clear hx1
      try clear qi1
      try clear c2
      try clear p2
      try clear c4
      try clear c9
      try clear c9b0
      try clear c9b1
      try clear c10
      try clear c10b0
      try clear c10b1
      try clear p10
      try clear q10
      try clear hx10
      try clear qi10
      try clear c11
      try clear c11b0
      try clear c11b1
      try clear c12
      try clear c12b0
      try clear c12b1
      try clear c13
      try clear hcz7_0
      try clear hcz7_1
      try clear hfz7_0
      try clear hfz7_1
      try clear hx105_0
      try clear hx106_0
      try clear p1
      try clear p10
      try clear p105
      try clear p106
      try clear p2
      try clear q1
      try clear q10
      try clear q105
      try clear q106
      obtain ⟨x5_2, rfl, HA, HK2, BK103, HB⟩ := hrel
      cases gk with
      | zero => exact absurd HA.out (by simp [spec_l01Rows.l0])
      | succ k2 =>
       have H := HA.out
       clear HA
       simp only [spec_l01Rows.l0] at H
       by_cases c14 : x5_2 < (l1.length : Int)
       ·rw [if_pos c14] at H
        have c14b0 : decide (x5_2 < (l1.length : Int)) = true := decide_eq_true c14
        clear c14
        by_cases c15 : 0 ≤ x5_2
        ·rw [if_pos c15] at H
         have c15b0 : decide (0 ≤ x5_2) = true := decide_eq_true c15
         clear c15
         by_cases c16 : 0 < (l1.length : Int)
         ·rw [if_pos c16] at H
          have c16b0 : decide (0 < (l1.length : Int)) = true := decide_eq_true c16
          have c16b1 : decide (0 < l1.length) = true := decide_eq_true (by omega)
          clear c16
          by_cases c17 : ((rd_L1 l1 x5_2).length : Int) = ((rd_L1 l1 0).length : Int)
          ·rw [if_pos c17] at H
           have c17b0 : (((rd_L1 l1 x5_2).length : Int) == ((rd_L1 l1 0).length : Int)) = true := beq_iff_eq.mpr c17
           have c17b1 : (((rd_L1 l1 x5_2).length : Int) != ((rd_L1 l1 0).length : Int)) = false := bne_eq_false_iff_eq.mpr c17
           have c17b2 : ((rd_L1 l1 x5_2).length == (rd_L1 l1 0).length) = true := by first | simpa using c17 | (simp at c17 ⊢; omega)
           clear c17
           have H' := Aside0.mk H
           clear H
           have p107 : 0 ≤ (x5_2 : Int) := of_decide_eq_true (by first | (with_reducible assumption) | assumption)
           have q107 : x5_2 < (l1.length : Int) := of_decide_eq_true (by first | (with_reducible assumption) | assumption)
           obtain ⟨ad107, A107_0, c107_0, e107, hx107_0, hl107_0, hi107_0⟩ := at_L1 HR1.out x5_2 p107 q107
           cases e107
           replace hx107_0 := (HB.out.cell (World.block_lt_of_cell? w _ hx107_0)).trans hx107_0
           have HR107_0 := Aside0.mk hi107_0
           have HC107_0 := Aside0.mk hl107_0
           clear hi107_0 hl107_0
           replace p107 := eq_true p107
           replace q107 := eq_true q107
           have p108 : 0 ≤ (0 : Int) := (by omega)
           have q108 : 0 < (l1.length : Int) := of_decide_eq_true (by first | (with_reducible assumption) | assumption)
           obtain ⟨ad108, A108_0, c108_0, e108, hx108_0, hl108_0, hi108_0⟩ := at_L1 HR1.out 0 p108 q108
           obtain rfl : ad107 = ad108 := (by injection e108)
           have qi108 : (0 < l1.length) = True := eq_true (by omega)
           (try rw [show ((0 : Int)).toNat = 0 from rfl] at hx108_0)
           (try rw [Addr.add_zero'] at hx108_0)
           replace hx108_0 := (HB.out.cell (World.block_lt_of_cell? w _ hx108_0)).trans hx108_0
           have HR108_0 := Aside0.mk hi108_0
           have HC108_0 := Aside0.mk hl108_0
           clear hi108_0 hl108_0
           replace p108 := eq_true p108
           replace q108 := eq_true q108
           go_wp2
           repeat (go_quiet (fail); try go_wp2)
           go_loopg [6] k2 (fun kq v6 w' => ∃ (x6_3 : Int), v6 = .int .i64 x6_3 ∧ Aside0 (spec_l01Rows.l1 kq l1 x5_2 x6_3 a0_0 l0_1 = some r) ∧ Aside0 (kq ≤ k2) ∧ Aside0 (w'.heap[gb103]? = some (.cells #[.int .i64 a0_0, (.slice A0_1 l0_1.length c0_1)] 32 (0, 0))) ∧ Aside0 (Below w.heap.size w w'))
           case atStart => exact ⟨(0), (by first | rfl | (simp; done) | (simp [*]; done)), H', ⟨Nat.le_refl _⟩, ⟨by (with_reducible repeat (first | refine blk_drewN ?_ _ | refine blk_drew ?_ | refine blk_alloc ?_ _)); exact BK103.out⟩, ⟨by repeat (first | (with_reducible first | exact HB.out | apply below_alloc | apply pw_below_drewN | apply below_drew1 | refine below_set ?_ GE103.out) | exact HB.out)⟩⟩
           case round =>
            clear H'
            try clear c1
            try clear p1
            try clear q1
            try clear hx1
            try clear qi1
            try clear c2
            try clear p2
            try clear c4
            try clear c9
            try clear c9b0
            try clear c9b1
            try clear c10
            try clear c10b0
            try clear c10b1
            try clear p10
            try clear q10
            try clear hx10
            try clear qi10
            try clear c11
            try clear c11b0
            try clear c11b1
            try clear c12
            try clear c12b0
            try clear c12b1
            try clear c13
            try clear c14
            try clear c14b0
            try clear c15
            try clear c15b0
            try clear c16
            try clear c16b0
            try clear c16b1
            try clear c17
            try clear c17b0
            try clear c17b1
            try clear c17b2
            try clear hcz7_0
            try clear hcz7_1
            try clear hfz7_0
            try clear hfz7_1
            try clear hx105_0
            try clear hx106_0
            try clear hx107_0
            try clear hx108_0
            try clear p1
            try clear p10
            try clear p105
            try clear p106
            try clear p107
            try clear p108
            try clear p2
            try clear q1
            try clear q10
            try clear q105
            try clear q106
            try clear q107
            try clear q108
            obtain ⟨x6_3, rfl, HA, HK3, BK103, HB⟩ := hrel
            cases gk with
            | zero => exact absurd HA.out (by simp [spec_l01Rows.l1])
            | succ k3 =>
             have H := HA.out
             clear HA
             simp only [spec_l01Rows.l1] at H
             by_cases c18 : 0 ≤ x5_2
             ·rw [if_pos c18] at H
              have c18b0 : decide (0 ≤ x5_2) = true := decide_eq_true c18
              clear c18
              by_cases c19 : x5_2 < (l1.length : Int)
              ·rw [if_pos c19] at H
               have c19b0 : decide (x5_2 < (l1.length : Int)) = true := decide_eq_true c19
               clear c19
               by_cases c20 : x6_3 < ((rd_L1 l1 x5_2).length : Int)
               ·rw [if_pos c20] at H
                have c20b0 : decide (x6_3 < ((rd_L1 l1 x5_2).length : Int)) = true := decide_eq_true c20
                clear c20
                by_cases c21 : 0 ≤ x6_3
                ·rw [if_pos c21] at H
                 have c21b0 : decide (0 ≤ x6_3) = true := decide_eq_true c21
                 clear c21
                 replace H := Option.bind_eq_some_iff.mp H
                 obtain ⟨t112, A220, H⟩ := H
                 replace H : (if t112 = true then (spec_l01Rows.l1 k3 l1 x5_2 (wrap64 (x6_3 + 1)) a0_0 l0_1) else (some 2)) = some r := H
                 have A22 := Aside0.mk A220
                 clear A220
                 by_cases c23 : t112 = true
                 ·subst c23
                  have H1 : (spec_l01Rows.l1 k3 l1 x5_2 (wrap64 (x6_3 + 1)) a0_0 l0_1) = some r := by rw [if_pos rfl] at H; exact H
                  clear H
                  have H := H1
                  clear H1
                  have H' := Aside0.mk H
                  clear H
                  have p109 : 0 ≤ (x5_2 : Int) := of_decide_eq_true (by first | (with_reducible assumption) | assumption)
                  have q109 : x5_2 < (l1.length : Int) := of_decide_eq_true (by first | (with_reducible assumption) | assumption)
                  obtain ⟨ad109, A109_0, c109_0, e109, hx109_0, hl109_0, hi109_0⟩ := at_L1 HR1.out x5_2 p109 q109
                  obtain rfl : ad107 = ad109 := (by injection e109)
                  replace hx109_0 := (HB.out.cell (World.block_lt_of_cell? w _ hx109_0)).trans hx109_0
                  have HR109_0 := Aside0.mk hi109_0
                  have HC109_0 := Aside0.mk hl109_0
                  clear hi109_0 hl109_0
                  replace p109 := eq_true p109
                  replace q109 := eq_true q109
                  have p110 : 0 ≤ (x5_2 : Int) := of_decide_eq_true (by first | (with_reducible assumption) | assumption)
                  have q110 : x5_2 < (l1.length : Int) := of_decide_eq_true (by first | (with_reducible assumption) | assumption)
                  obtain ⟨ad110, A110_0, c110_0, e110, hx110_0, hl110_0, hi110_0⟩ := at_L1 HR1.out x5_2 p110 q110
                  obtain rfl : ad107 = ad110 := (by injection e110)
                  replace hx110_0 := (HB.out.cell (World.block_lt_of_cell? w _ hx110_0)).trans hx110_0
                  have HR110_0 := Aside0.mk hi110_0
                  have HC110_0 := Aside0.mk hl110_0
                  clear hi110_0 hl110_0
                  replace p110 := eq_true p110
                  replace q110 := eq_true q110
                  have ea_ := Option.some.inj (hx109_0.symm.trans hx110_0)
                  injection ea_ with ea_ en_ ec_
                  subst ea_
                  subst ec_
                  clear en_
                  have p111 : 0 ≤ (x6_3 : Int) := of_decide_eq_true (by first | (with_reducible assumption) | assumption)
                  have q111 : x6_3 < ((rd_L1 l1 x5_2).length : Int) := of_decide_eq_true (by first | (with_reducible assumption) | assumption)
                  obtain ⟨ad111, e111, hx111_0⟩ := Kd.at_int HR110_0.out x6_3 p111 q111
                  cases e111
                  replace hx111_0 := (HB.out.cell (World.block_lt_of_cell? w _ hx111_0)).trans hx111_0
                  replace p111 := eq_true p111
                  replace q111 := eq_true q111
                  have hcz24_0 : wr.cell? ⟨gb103, 0, none⟩ = some (.int .i64 a0_0) := (blk_cell BK103.out 0).trans rfl
                  have hcz24_1 : wr.cell? ⟨gb103, 1, none⟩ = some (.slice A0_1 l0_1.length c0_1) := (blk_cell BK103.out 1).trans rfl
                  have hfz24_0 := blk_frozen BK103.out 0
                  have hfz24_1 := blk_frozen BK103.out 1
                  go_wp2_with (first | (go_at_call 54; (with_reducible refine (spec_l01In.calls (rd (rd_L1 l1 x5_2) x6_3) 0 (wrap64 ((l0_1.length : Int) - 1)) true _ A22.out).mono ?_); rintro e w' ⟨rfl, ⟨nd, rfl⟩⟩; (try first | exact ⟨rfl, _, World.drewN_drewN _ _ _⟩ | exact ⟨rfl, _, Eq.trans (World.drewN_drewN _ _ _) (congrArg (World.drewN _) (Nat.add_assoc _ _ _))⟩)))
                  repeat (go_quiet (first | (go_at_call 54; (with_reducible refine (spec_l01In.calls (rd (rd_L1 l1 x5_2) x6_3) 0 (wrap64 ((l0_1.length : Int) - 1)) true _ A22.out).mono ?_); rintro e w' ⟨rfl, ⟨nd, rfl⟩⟩; (try first | exact ⟨rfl, _, World.drewN_drewN _ _ _⟩ | exact ⟨rfl, _, Eq.trans (World.drewN_drewN _ _ _) (congrArg (World.drewN _) (Nat.add_assoc _ _ _))⟩))); try go_wp2_with (first | (go_at_call 54; (with_reducible refine (spec_l01In.calls (rd (rd_L1 l1 x5_2) x6_3) 0 (wrap64 ((l0_1.length : Int) - 1)) true _ A22.out).mono ?_); rintro e w' ⟨rfl, ⟨nd, rfl⟩⟩; (try first | exact ⟨rfl, _, World.drewN_drewN _ _ _⟩ | exact ⟨rfl, _, Eq.trans (World.drewN_drewN _ _ _) (congrArg (World.drewN _) (Nat.add_assoc _ _ _))⟩))))
                  go_roundg k3
                  case measure => have := HJ4.out; have := HK2.out; have := HK3.out; omega
                  case rel => exact ⟨(wrap64 (x6_3 + 1)), (by first | rfl | (simp; done) | (simp [*]; done)), H', ⟨by have := HJ4.out; have := HK2.out; have := HK3.out; omega⟩, ⟨by (with_reducible repeat (first | refine blk_drewN ?_ _ | refine blk_drew ?_ | refine blk_alloc ?_ _)); exact BK103.out⟩, ⟨by repeat (first | (with_reducible first | exact HB.out | apply below_alloc | apply pw_below_drewN | apply below_drew1 | refine below_set ?_ GE103.out) | exact HB.out)⟩⟩
                 ·replace c23 := Bool.eq_false_iff.mpr c23
                  subst c23
                  have H1 : (some 2) = some r := by rw [if_neg (show ¬ (false = true) by decide)] at H; exact H
                  clear H
                  have H := H1
                  clear H1
                  obtain rfl := Option.some.inj H
                  have p109 : 0 ≤ (x5_2 : Int) := of_decide_eq_true (by first | (with_reducible assumption) | assumption)
                  have q109 : x5_2 < (l1.length : Int) := of_decide_eq_true (by first | (with_reducible assumption) | assumption)
                  obtain ⟨ad109, A109_0, c109_0, e109, hx109_0, hl109_0, hi109_0⟩ := at_L1 HR1.out x5_2 p109 q109
                  obtain rfl : ad107 = ad109 := (by injection e109)
                  replace hx109_0 := (HB.out.cell (World.block_lt_of_cell? w _ hx109_0)).trans hx109_0
                  have HR109_0 := Aside0.mk hi109_0
                  have HC109_0 := Aside0.mk hl109_0
                  clear hi109_0 hl109_0
                  replace p109 := eq_true p109
                  replace q109 := eq_true q109
                  have p110 : 0 ≤ (x5_2 : Int) := of_decide_eq_true (by first | (with_reducible assumption) | assumption)
                  have q110 : x5_2 < (l1.length : Int) := of_decide_eq_true (by first | (with_reducible assumption) | assumption)
                  obtain ⟨ad110, A110_0, c110_0, e110, hx110_0, hl110_0, hi110_0⟩ := at_L1 HR1.out x5_2 p110 q110
                  obtain rfl : ad107 = ad110 := (by injection e110)
                  replace hx110_0 := (HB.out.cell (World.block_lt_of_cell? w _ hx110_0)).trans hx110_0
                  have HR110_0 := Aside0.mk hi110_0
                  have HC110_0 := Aside0.mk hl110_0
                  clear hi110_0 hl110_0
                  replace p110 := eq_true p110
                  replace q110 := eq_true q110
                  have ea_ := Option.some.inj (hx109_0.symm.trans hx110_0)
                  injection ea_ with ea_ en_ ec_
                  subst ea_
                  subst ec_
                  clear en_
                  have p111 : 0 ≤ (x6_3 : Int) := of_decide_eq_true (by first | (with_reducible assumption) | assumption)
                  have q111 : x6_3 < ((rd_L1 l1 x5_2).length : Int) := of_decide_eq_true (by first | (with_reducible assumption) | assumption)
                  obtain ⟨ad111, e111, hx111_0⟩ := Kd.at_int HR110_0.out x6_3 p111 q111
                  cases e111
                  replace hx111_0 := (HB.out.cell (World.block_lt_of_cell? w _ hx111_0)).trans hx111_0
                  replace p111 := eq_true p111
                  replace q111 := eq_true q111
                  have hcz25_0 : wr.cell? ⟨gb103, 0, none⟩ = some (.int .i64 a0_0) := (blk_cell BK103.out 0).trans rfl
                  have hcz25_1 : wr.cell? ⟨gb103, 1, none⟩ = some (.slice A0_1 l0_1.length c0_1) := (blk_cell BK103.out 1).trans rfl
                  have hfz25_0 := blk_frozen BK103.out 0
                  have hfz25_1 := blk_frozen BK103.out 1
                  go_wp2_with (first | (go_at_call 54; (with_reducible refine (spec_l01In.calls (rd (rd_L1 l1 x5_2) x6_3) 0 (wrap64 ((l0_1.length : Int) - 1)) false _ A22.out).mono ?_); rintro e w' ⟨rfl, ⟨nd, rfl⟩⟩; (try first | exact ⟨rfl, _, World.drewN_drewN _ _ _⟩ | exact ⟨rfl, _, Eq.trans (World.drewN_drewN _ _ _) (congrArg (World.drewN _) (Nat.add_assoc _ _ _))⟩)))
                  repeat (go_quiet (first | (go_at_call 54; (with_reducible refine (spec_l01In.calls (rd (rd_L1 l1 x5_2) x6_3) 0 (wrap64 ((l0_1.length : Int) - 1)) false _ A22.out).mono ?_); rintro e w' ⟨rfl, ⟨nd, rfl⟩⟩; (try first | exact ⟨rfl, _, World.drewN_drewN _ _ _⟩ | exact ⟨rfl, _, Eq.trans (World.drewN_drewN _ _ _) (congrArg (World.drewN _) (Nat.add_assoc _ _ _))⟩))); try go_wp2_with (first | (go_at_call 54; (with_reducible refine (spec_l01In.calls (rd (rd_L1 l1 x5_2) x6_3) 0 (wrap64 ((l0_1.length : Int) - 1)) false _ A22.out).mono ?_); rintro e w' ⟨rfl, ⟨nd, rfl⟩⟩; (try first | exact ⟨rfl, _, World.drewN_drewN _ _ _⟩ | exact ⟨rfl, _, Eq.trans (World.drewN_drewN _ _ _) (congrArg (World.drewN _) (Nat.add_assoc _ _ _))⟩))))
                  go_ret
                  exact ⟨by first | rfl | (simp [errW_none, errW_some] <;> rfl) | (simp [*, errW_none, errW_some] <;> rfl), by repeat (first | (with_reducible first | exact HB.out | apply below_alloc | apply pw_below_drewN | apply below_drew1 | refine below_set ?_ GE103.out) | exact HB.out)⟩
                ·rw [if_neg c21] at H
                 exact absurd H (by simp)
               ·rw [if_neg c20] at H
                have c20b0 : decide (x6_3 < ((rd_L1 l1 x5_2).length : Int)) = false := decide_eq_false c20
                clear c20
                have H' := Aside0.mk H
                clear H
                have p109 : 0 ≤ (x5_2 : Int) := of_decide_eq_true (by first | (with_reducible assumption) | assumption)
                have q109 : x5_2 < (l1.length : Int) := of_decide_eq_true (by first | (with_reducible assumption) | assumption)
                obtain ⟨ad109, A109_0, c109_0, e109, hx109_0, hl109_0, hi109_0⟩ := at_L1 HR1.out x5_2 p109 q109
                obtain rfl : ad107 = ad109 := (by injection e109)
                replace hx109_0 := (HB.out.cell (World.block_lt_of_cell? w _ hx109_0)).trans hx109_0
                have HR109_0 := Aside0.mk hi109_0
                have HC109_0 := Aside0.mk hl109_0
                clear hi109_0 hl109_0
                replace p109 := eq_true p109
                replace q109 := eq_true q109
                go_wp2
                repeat (go_quiet (fail); try go_wp2)
                go_roundg k3
                case measure => have := HJ4.out; have := HK2.out; have := HK3.out; omega
                case rel => exact ⟨(wrap64 (x5_2 + 1)), (by first | rfl | (simp; done) | (simp [*]; done)), H', ⟨by have := HJ4.out; have := HK2.out; have := HK3.out; omega⟩, ⟨by (with_reducible repeat (first | refine blk_drewN ?_ _ | refine blk_drew ?_ | refine blk_alloc ?_ _)); exact BK103.out⟩, ⟨by repeat (first | (with_reducible first | exact HB.out | apply below_alloc | apply pw_below_drewN | apply below_drew1 | refine below_set ?_ GE103.out) | exact HB.out)⟩⟩
              ·rw [if_neg c19] at H
               exact absurd H (by simp)
             ·rw [if_neg c18] at H
              exact absurd H (by simp)
          ·rw [if_neg c17] at H
           have c17b0 : (((rd_L1 l1 x5_2).length : Int) == ((rd_L1 l1 0).length : Int)) = false := beq_eq_false_iff_ne.mpr c17
           have c17b1 : (((rd_L1 l1 x5_2).length : Int) != ((rd_L1 l1 0).length : Int)) = true := bne_iff_ne.mpr c17
           have c17b2 : ((rd_L1 l1 x5_2).length == (rd_L1 l1 0).length) = false := by first | simpa using c17 | (simp at c17 ⊢; omega)
           obtain rfl := Option.some.inj H
           have p107 : 0 ≤ (x5_2 : Int) := of_decide_eq_true (by first | (with_reducible assumption) | assumption)
           have q107 : x5_2 < (l1.length : Int) := of_decide_eq_true (by first | (with_reducible assumption) | assumption)
           obtain ⟨ad107, A107_0, c107_0, e107, hx107_0, hl107_0, hi107_0⟩ := at_L1 HR1.out x5_2 p107 q107
           cases e107
           replace hx107_0 := (HB.out.cell (World.block_lt_of_cell? w _ hx107_0)).trans hx107_0
           have HR107_0 := Aside0.mk hi107_0
           have HC107_0 := Aside0.mk hl107_0
           clear hi107_0 hl107_0
           replace p107 := eq_true p107
           replace q107 := eq_true q107
           have p108 : 0 ≤ (0 : Int) := (by omega)
           have q108 : 0 < (l1.length : Int) := of_decide_eq_true (by first | (with_reducible assumption) | assumption)
           obtain ⟨ad108, A108_0, c108_0, e108, hx108_0, hl108_0, hi108_0⟩ := at_L1 HR1.out 0 p108 q108
           obtain rfl : ad107 = ad108 := (by injection e108)
           have qi108 : (0 < l1.length) = True := eq_true (by omega)
           (try rw [show ((0 : Int)).toNat = 0 from rfl] at hx108_0)
           (try rw [Addr.add_zero'] at hx108_0)
           replace hx108_0 := (HB.out.cell (World.block_lt_of_cell? w _ hx108_0)).trans hx108_0
           have HR108_0 := Aside0.mk hi108_0
           have HC108_0 := Aside0.mk hl108_0
           clear hi108_0 hl108_0
           replace p108 := eq_true p108
           replace q108 := eq_true q108
           go_wp2
           repeat (go_quiet (fail); try go_wp2)
           go_ret
           exact ⟨by first | rfl | (simp [errW_none, errW_some] <;> rfl) | (simp [*, errW_none, errW_some] <;> rfl), by repeat (first | (with_reducible first | exact HB.out | apply below_alloc | apply pw_below_drewN | apply below_drew1 | refine below_set ?_ GE103.out) | exact HB.out)⟩
         ·rw [if_neg c16] at H
          exact absurd H (by simp)
        ·rw [if_neg c15] at H
         exact absurd H (by simp)
       ·rw [if_neg c14] at H
        have c14b0 : decide (x5_2 < (l1.length : Int)) = false := decide_eq_false c14
        clear c14
        obtain rfl := Option.some.inj H
        go_wp2
        repeat (go_quiet (fail); try go_wp2)
        go_ret
        exact ⟨by first | rfl | (simp [errW_none, errW_some] <;> rfl) | (simp [*, errW_none, errW_some] <;> rfl), by repeat (first | (with_reducible first | exact HB.out | apply below_alloc | apply pw_below_drewN | apply below_drew1 | refine below_set ?_ GE103.out) | exact HB.out)⟩
 ·replace c4 := Bool.eq_false_iff.mpr c4
  subst c4
  have H1 : (some 1) = some r := by rw [if_neg (show ¬ (false = true) by decide)] at H; exact H
  clear H
  have H := H1
  clear H1
  obtain rfl := Option.some.inj H
  go_enter Try.func27, Try.ntmps27
  go_wp2_with (first | ((with_reducible refine gate_dst (N := 2) rfl ?_); (try (refine gate_guard (by rfl) ?_; dsimp only)); refine box_event ?hg (N := 2) ?hd (cs := #[.int .i64 a0_0, .slice A0_1 l0_1.length c0_1]) (t := 32) ?hr ?_; (case hd => rfl); (case hg => rfl); (case hr => first | (go_simp; done) | (go_simp; rfl)); intro gb103 hg w26 hbox hb; have n0_ := Aside0.mk (below_step (by repeat (first | (with_reducible first | exact HB.out | apply below_alloc | apply pw_below_drewN | apply below_drew1) | exact HB.out)) hb); have n1_ := Aside0.mk (hbox); have n2_ := Aside0.mk ((by rw [hg]; exact (below_size (by repeat (first | (with_reducible first | exact HB.out | apply below_alloc | apply pw_below_drewN | apply below_drew1) | exact HB.out))) : w.heap.size ≤ gb103)); have n3_ := Aside0.mk ((by rw [hg]; exact (below_size (by repeat (first | (with_reducible first | exact HB.out | apply below_alloc | apply pw_below_drewN | apply below_drew1) | exact HB.out))) : w.heap.size ≤ gb103)); clear HB; have HB := n0_; have BK103 := n1_; have GW103 := n2_; have GE103 := n3_; clear n0_ n1_ n2_ n3_; clear hb hbox hg; have hcz27_0 : w26.cell? ⟨gb103, 0, none⟩ = some (.int .i64 a0_0) := (blk_cell BK103.out 0).trans rfl; have hcz27_1 : w26.cell? ⟨gb103, 1, none⟩ = some (.slice A0_1 l0_1.length c0_1) := (blk_cell BK103.out 1).trans rfl; have hfz27_0 := blk_frozen BK103.out 0; have hfz27_1 := blk_frozen BK103.out 1) | (go_at_call 43; (with_reducible refine (spec_l01Is.calls a0_0 _ _ l0_1 false _ ?side1 ?side2 A3.out).mono ?_); (case side1 => repeat (first | exact (Kd.C_below HR0_1.out HB.out) | (with_reducible refine Kd.C_alloc ?_ _) | (with_reducible refine Kd.C_drewN ?_ _) | (with_reducible refine Kd.C_drew ?_))); (case side2 => exact HC0_1.out); rintro e w28 ⟨rfl, hb⟩; have n0_ := Aside0.mk (blk_below (g := gb103) (o := .cells #[.int .i64 a0_0, .slice A0_1 l0_1.length c0_1] 32 (0, 0)) (by (with_reducible repeat (first | refine blk_drewN ?_ _ | refine blk_drew ?_ | refine blk_alloc ?_ _)); exact BK103.out) hb); have n1_ := Aside0.mk (below_step (by repeat (first | (with_reducible first | exact HB.out | apply below_alloc | apply pw_below_drewN | apply below_drew1 | refine below_set ?_ GE103.out) | exact HB.out)) hb); clear BK103; clear HB; have BK103 := n0_; have HB := n1_; clear n0_ n1_; (try clear hb); (try clear hb2); (try clear hk); (try clear hi)))
  repeat (go_quiet (first | ((with_reducible refine gate_dst (N := 2) rfl ?_); (try (refine gate_guard (by rfl) ?_; dsimp only)); refine box_event ?hg (N := 2) ?hd (cs := #[.int .i64 a0_0, .slice A0_1 l0_1.length c0_1]) (t := 32) ?hr ?_; (case hd => rfl); (case hg => rfl); (case hr => first | (go_simp; done) | (go_simp; rfl)); intro gb103 hg w26 hbox hb; have n0_ := Aside0.mk (below_step (by repeat (first | (with_reducible first | exact HB.out | apply below_alloc | apply pw_below_drewN | apply below_drew1) | exact HB.out)) hb); have n1_ := Aside0.mk (hbox); have n2_ := Aside0.mk ((by rw [hg]; exact (below_size (by repeat (first | (with_reducible first | exact HB.out | apply below_alloc | apply pw_below_drewN | apply below_drew1) | exact HB.out))) : w.heap.size ≤ gb103)); have n3_ := Aside0.mk ((by rw [hg]; exact (below_size (by repeat (first | (with_reducible first | exact HB.out | apply below_alloc | apply pw_below_drewN | apply below_drew1) | exact HB.out))) : w.heap.size ≤ gb103)); clear HB; have HB := n0_; have BK103 := n1_; have GW103 := n2_; have GE103 := n3_; clear n0_ n1_ n2_ n3_; clear hb hbox hg; have hcz27_0 : w26.cell? ⟨gb103, 0, none⟩ = some (.int .i64 a0_0) := (blk_cell BK103.out 0).trans rfl; have hcz27_1 : w26.cell? ⟨gb103, 1, none⟩ = some (.slice A0_1 l0_1.length c0_1) := (blk_cell BK103.out 1).trans rfl; have hfz27_0 := blk_frozen BK103.out 0; have hfz27_1 := blk_frozen BK103.out 1) | (go_at_call 43; (with_reducible refine (spec_l01Is.calls a0_0 _ _ l0_1 false _ ?side1 ?side2 A3.out).mono ?_); (case side1 => repeat (first | exact (Kd.C_below HR0_1.out HB.out) | (with_reducible refine Kd.C_alloc ?_ _) | (with_reducible refine Kd.C_drewN ?_ _) | (with_reducible refine Kd.C_drew ?_))); (case side2 => exact HC0_1.out); rintro e w28 ⟨rfl, hb⟩; have n0_ := Aside0.mk (blk_below (g := gb103) (o := .cells #[.int .i64 a0_0, .slice A0_1 l0_1.length c0_1] 32 (0, 0)) (by (with_reducible repeat (first | refine blk_drewN ?_ _ | refine blk_drew ?_ | refine blk_alloc ?_ _)); exact BK103.out) hb); have n1_ := Aside0.mk (below_step (by repeat (first | (with_reducible first | exact HB.out | apply below_alloc | apply pw_below_drewN | apply below_drew1 | refine below_set ?_ GE103.out) | exact HB.out)) hb); clear BK103; clear HB; have BK103 := n0_; have HB := n1_; clear n0_ n1_; (try clear hb); (try clear hb2); (try clear hk); (try clear hi))); try go_wp2_with (first | ((with_reducible refine gate_dst (N := 2) rfl ?_); (try (refine gate_guard (by rfl) ?_; dsimp only)); refine box_event ?hg (N := 2) ?hd (cs := #[.int .i64 a0_0, .slice A0_1 l0_1.length c0_1]) (t := 32) ?hr ?_; (case hd => rfl); (case hg => rfl); (case hr => first | (go_simp; done) | (go_simp; rfl)); intro gb103 hg w26 hbox hb; have n0_ := Aside0.mk (below_step (by repeat (first | (with_reducible first | exact HB.out | apply below_alloc | apply pw_below_drewN | apply below_drew1) | exact HB.out)) hb); have n1_ := Aside0.mk (hbox); have n2_ := Aside0.mk ((by rw [hg]; exact (below_size (by repeat (first | (with_reducible first | exact HB.out | apply below_alloc | apply pw_below_drewN | apply below_drew1) | exact HB.out))) : w.heap.size ≤ gb103)); have n3_ := Aside0.mk ((by rw [hg]; exact (below_size (by repeat (first | (with_reducible first | exact HB.out | apply below_alloc | apply pw_below_drewN | apply below_drew1) | exact HB.out))) : w.heap.size ≤ gb103)); clear HB; have HB := n0_; have BK103 := n1_; have GW103 := n2_; have GE103 := n3_; clear n0_ n1_ n2_ n3_; clear hb hbox hg; have hcz27_0 : w26.cell? ⟨gb103, 0, none⟩ = some (.int .i64 a0_0) := (blk_cell BK103.out 0).trans rfl; have hcz27_1 : w26.cell? ⟨gb103, 1, none⟩ = some (.slice A0_1 l0_1.length c0_1) := (blk_cell BK103.out 1).trans rfl; have hfz27_0 := blk_frozen BK103.out 0; have hfz27_1 := blk_frozen BK103.out 1) | (go_at_call 43; (with_reducible refine (spec_l01Is.calls a0_0 _ _ l0_1 false _ ?side1 ?side2 A3.out).mono ?_); (case side1 => repeat (first | exact (Kd.C_below HR0_1.out HB.out) | (with_reducible refine Kd.C_alloc ?_ _) | (with_reducible refine Kd.C_drewN ?_ _) | (with_reducible refine Kd.C_drew ?_))); (case side2 => exact HC0_1.out); rintro e w28 ⟨rfl, hb⟩; have n0_ := Aside0.mk (blk_below (g := gb103) (o := .cells #[.int .i64 a0_0, .slice A0_1 l0_1.length c0_1] 32 (0, 0)) (by (with_reducible repeat (first | refine blk_drewN ?_ _ | refine blk_drew ?_ | refine blk_alloc ?_ _)); exact BK103.out) hb); have n1_ := Aside0.mk (below_step (by repeat (first | (with_reducible first | exact HB.out | apply below_alloc | apply pw_below_drewN | apply below_drew1 | refine below_set ?_ GE103.out) | exact HB.out)) hb); clear BK103; clear HB; have BK103 := n0_; have HB := n1_; clear n0_ n1_; (try clear hb); (try clear hb2); (try clear hk); (try clear hi))))
  go_ret
  exact ⟨by first | rfl | (simp [errW_none, errW_some] <;> rfl) | (simp [*, errW_none, errW_some] <;> rfl), by repeat (first | (with_reducible first | exact HB.out | apply below_alloc | apply pw_below_drewN | apply below_drew1 | refine below_set ?_ GE103.out) | exact HB.out)⟩
end Go.Proofs.Ytgdmflmglkakgaa.Q
namespace Go.Proofs.Ytgdmflmglkakgaa.Q
open Go.RowKit Go.Proofs.YtgdmflmglkakgaaW.PrintWords Go.Proofs.YtgdmflmglkakgaaW.PrintLast Go.Proofs.YtgdmflmglkakgaaW.PrintMore
attribute [local go_sem] max2_int min2_int max_two min_two max_three min_three max_four min_four
set_option linter.unusedVariables false
set_option linter.unusedSimpArgs false
mutual
def impl_isTable.j0 : Nat → List (List Int) → Int → Bool → Option (Bool)
 | 0, _, _, _ => none
 | k + 1, x0, x1, x15 => if x15 = true then (some false) else (impl_isTable.l0 k x0 x1 x0 (x0.length : Int) 0)
def impl_isTable.l0 : Nat → List (List Int) → Int → List (List Int) → Int → Int → Option (Bool)
 | 0, _, _, _, _, _ => none
 | k + 1, x0, x1, x16, x17, x18 => if x18 < x17 then (if 0 ≤ x18 then (if x18 < (x16.length : Int) then (if 0 < (x0.length : Int) then (if ((rd_L1 x16 x18).length : Int) = ((rd_L1 x0 0).length : Int) then (if ((rd_L1 x16 x18).length : Int) < 1 then (some false) else (if ((rd_L1 x16 x18).length : Int) > x1 then (some false) else (impl_isTable.l0 k x0 x1 x16 x17 (wrap64 (x18 + 1))))) else (some false)) else (none)) else (none)) else (none)) else (some true)
end
def impl_isTable.f (k : Nat) (l0 : List (List Int)) (a1 : Int) : Option (Bool) := if (l0.length : Int) < 1 then (impl_isTable.j0 k l0 a1 true) else (impl_isTable.j0 k l0 a1 (decide ((l0.length : Int) > a1)))
theorem impl_isTable.mono_l : ∀ k, (∀ y0 y1 y2, LeO (impl_isTable.j0 k y0 y1 y2) (impl_isTable.j0 (k + 1) y0 y1 y2)) ∧ (∀ y0 y1 y2 y3 y4, LeO (impl_isTable.l0 k y0 y1 y2 y3 y4) (impl_isTable.l0 (k + 1) y0 y1 y2 y3 y4))
 | 0 => ⟨fun _ _ _ r h => by simp [impl_isTable.j0] at h, fun _ _ _ _ _ r h => by simp [impl_isTable.l0] at h⟩
 | k + 1 => by
  obtain ⟨ih0, ih1⟩ := impl_isTable.mono_l k
  refine ⟨?_, ?_⟩
  ·intro y0 y1 y2
   unfold impl_isTable.j0
   repeat' first
   | (with_reducible exact ih0 _ _ _)
   | (with_reducible exact ih1 _ _ _ _ _)
   | (with_reducible exact LeO.refl _)
   | (with_reducible exact LeO.none _)
   | (with_reducible refine LeO.ite ?_ ?_)
   | (with_reducible refine LeO.bind ?_ (fun _ => ?_))
   | exact ih0 _ _ _
   | exact ih1 _ _ _ _ _
   | exact LeO.none _
   | refine LeO.ite ?_ ?_
   | refine LeO.bind ?_ (fun _ => ?_)
  ·intro y0 y1 y2 y3 y4
   unfold impl_isTable.l0
   repeat' first
   | (with_reducible exact ih0 _ _ _)
   | (with_reducible exact ih1 _ _ _ _ _)
   | (with_reducible exact LeO.refl _)
   | (with_reducible exact LeO.none _)
   | (with_reducible refine LeO.ite ?_ ?_)
   | (with_reducible refine LeO.bind ?_ (fun _ => ?_))
   | exact ih0 _ _ _
   | exact ih1 _ _ _ _ _
   | exact LeO.none _
   | refine LeO.ite ?_ ?_
   | refine LeO.bind ?_ (fun _ => ?_)
theorem impl_isTable.mono : ∀ a0 a1 k, LeO (impl_isTable.f k a0 a1) (impl_isTable.f (k + 1) a0 a1) := by
 intro a0 a1 k
 obtain ⟨ih0, ih1⟩ := impl_isTable.mono_l k
 unfold impl_isTable.f
 repeat' first
   | (with_reducible exact ih0 _ _ _)
   | (with_reducible exact ih1 _ _ _ _ _)
   | (with_reducible exact LeO.refl _)
   | (with_reducible exact LeO.none _)
   | (with_reducible refine LeO.ite ?_ ?_)
   | (with_reducible refine LeO.bind ?_ (fun _ => ?_))
   | exact ih0 _ _ _
   | exact ih1 _ _ _ _ _
   | exact LeO.none _
   | refine LeO.ite ?_ ?_
   | refine LeO.bind ?_ (fun _ => ?_)
set_option maxHeartbeats 8000000 in
set_option maxRecDepth 100000 in
theorem impl_isTable.calls (k : Nat) (A0 : Option Addr) (c0 : Nat) (l0 : List (List Int)) (a1 : Int) (r : Bool) (w : World) (hr0 : Kd.C (Kd.slice 2 (Kd.int .i64)) w A0 l0.length l0) (hc0 : l0.length ≤ c0) (h : impl_isTable.f k l0 a1 = some r) :
  Calls Try.prog 57 #[.slice A0 l0.length c0, .int .i64 a1] w fun e w' => e = .returned (.bool r) ∧ Drawn0 w w' := by
 have HR0 := Aside0.mk hr0
 have HC0 := Aside0.mk hc0
 clear hr0 hc0
 have H : (if (l0.length : Int) < 1 then (impl_isTable.j0 k l0 a1 true) else (impl_isTable.j0 k l0 a1 (decide ((l0.length : Int) > a1)))) = some r := h
 clear h
 have HC3 := Aside0.mk H
 clear H
 go_enter Try.func57, Try.ntmps57
 go_upto_region 1 with (fail)
 go_cut [15] (fun v15 wc => ∃ (kq : Nat) (x15_2 : Bool), v15 = .bool x15_2 ∧ Aside0 (impl_isTable.j0 kq l0 a1 x15_2 = some r) ∧ Aside0 (kq ≤ k) ∧ Drawn0 w wc)
 case first =>
  have H := HC3.out
  clear HC3
  by_cases c4 : (l0.length : Int) < 1
  ·rw [if_pos c4] at H
   have c4b0 : decide ((l0.length : Int) < 1) = true := decide_eq_true c4
   have c4b1 : decide (l0.length < 1) = true := decide_eq_true (by omega)
   clear c4
   (first | rw [c4b0] | (simp only [i64_w, i32_w]; rw [c4b0]) | skip)
   have H' := Aside0.mk H
   clear H
   go_wp2
   go_meet
   case rel => exact ⟨_, (true), (by first | rfl | (simp; done) | (simp [*]; done)), H', ⟨by first | omega | exact Nat.le_refl _⟩, by repeat (first | exact Drawn0.refl _ | apply Drawn0.step)⟩
  ·rw [if_neg c4] at H
   have c4b0 : decide ((l0.length : Int) < 1) = false := decide_eq_false c4
   have c4b1 : decide (l0.length < 1) = false := decide_eq_false (by omega)
   clear c4
   (first | rw [c4b0] | (simp only [i64_w, i32_w]; rw [c4b0]) | skip)
   have H' := Aside0.mk H
   clear H
   go_wp2
   go_meet
   case rel => exact ⟨_, (decide ((l0.length : Int) > a1)), (by first | rfl | (simp; done) | (simp [*]; done)), H', ⟨by first | omega | exact Nat.le_refl _⟩, by repeat (first | exact Drawn0.refl _ | apply Drawn0.step)⟩
 case rest =>
  clear HC3
  try clear p2
  try clear c4
  try clear c4b0
  try clear c4b1
  obtain ⟨kq, x15_2, rfl, HA, HJ2, ⟨mc2, rfl⟩⟩ := hcut
  cases kq with
  | zero => exact absurd HA.out (by simp [impl_isTable.j0])
  | succ kj2 =>
   have H := HA.out
   clear HA
   simp only [impl_isTable.j0] at H
   by_cases c5 : x15_2 = true
   ·subst c5
    have H1 : (some false) = some r := by rw [if_pos rfl] at H; exact H
    clear H
    have H := H1
    clear H1
    obtain rfl := Option.some.inj H
    go_wp2
    go_ret
    exact ⟨by first | rfl | (simp; done) | (simp [*]; done), by repeat (first | exact Drawn0.refl _ | apply Drawn0.step)⟩
   ·replace c5 := Bool.eq_false_iff.mpr c5
    subst c5
    have H1 : (impl_isTable.l0 kj2 l0 a1 l0 (l0.length : Int) 0) = some r := by rw [if_neg (show ¬ (false = true) by decide)] at H; exact H
    clear H
    have H := H1
    clear H1
    have H' := Aside0.mk H
    clear H
    go_wp2
    go_loopg [18] kj2 (fun kq v18 w' => ∃ (x18_2 : Int), v18 = .int .i64 x18_2 ∧ Aside0 (impl_isTable.l0 kq l0 a1 l0 (l0.length : Int) x18_2 = some r) ∧ Aside0 (kq ≤ kj2) ∧ Drawn0 w w')
    case atStart => exact ⟨(0), (by first | rfl | (simp; done) | (simp [*]; done)), H', ⟨Nat.le_refl _⟩, by repeat (first | exact Drawn0.refl _ | apply Drawn0.step)⟩
    case round =>
     clear H'
     try clear c2
     try clear p2
     try clear c4
     try clear c4b0
     try clear c4b1
     try clear c5
     try clear p2
     obtain ⟨x18_2, rfl, HA, HK2, ⟨m2, rfl⟩⟩ := hrel
     cases gk with
     | zero => exact absurd HA.out (by simp [impl_isTable.l0])
     | succ k2 =>
      have H := HA.out
      clear HA
      simp only [impl_isTable.l0] at H
      by_cases c6 : x18_2 < (l0.length : Int)
      ·rw [if_pos c6] at H
       have c6b0 : decide (x18_2 < (l0.length : Int)) = true := decide_eq_true c6
       clear c6
       by_cases c7 : 0 ≤ x18_2
       ·rw [if_pos c7] at H
        have c7b0 : decide (0 ≤ x18_2) = true := decide_eq_true c7
        clear c7
        by_cases c8 : x18_2 < (l0.length : Int)
        ·rw [if_pos c8] at H
         have c8b0 : decide (x18_2 < (l0.length : Int)) = true := decide_eq_true c8
         clear c8
         by_cases c9 : 0 < (l0.length : Int)
         ·rw [if_pos c9] at H
          have c9b0 : decide (0 < (l0.length : Int)) = true := decide_eq_true c9
          have c9b1 : decide (0 < l0.length) = true := decide_eq_true (by omega)
          clear c9
          by_cases c10 : ((rd_L1 l0 x18_2).length : Int) = ((rd_L1 l0 0).length : Int)
          ·rw [if_pos c10] at H
           have c10b0 : (((rd_L1 l0 x18_2).length : Int) == ((rd_L1 l0 0).length : Int)) = true := beq_iff_eq.mpr c10
           have c10b1 : (((rd_L1 l0 x18_2).length : Int) != ((rd_L1 l0 0).length : Int)) = false := bne_eq_false_iff_eq.mpr c10
           have c10b2 : ((rd_L1 l0 x18_2).length == (rd_L1 l0 0).length) = true := by first | simpa using c10 | (simp at c10 ⊢; omega)
           clear c10
           by_cases c11 : ((rd_L1 l0 x18_2).length : Int) < 1
           ·rw [if_pos c11] at H
            have c11b0 : decide (((rd_L1 l0 x18_2).length : Int) < 1) = true := decide_eq_true c11
            have c11b1 : decide ((rd_L1 l0 x18_2).length < 1) = true := decide_eq_true (by omega)
            clear c11
            obtain rfl := Option.some.inj H
            have p150 : 0 ≤ (x18_2 : Int) := of_decide_eq_true (by first | (with_reducible assumption) | assumption)
            have q150 : x18_2 < (l0.length : Int) := of_decide_eq_true (by first | (with_reducible assumption) | assumption)
            obtain ⟨ad150, A150_0, c150_0, e150, hx150_0, hl150_0, hi150_0⟩ := at_L1 HR0.out x18_2 p150 q150
            cases e150
            have HR150_0 := Aside0.mk hi150_0
            have HC150_0 := Aside0.mk hl150_0
            clear hi150_0 hl150_0
            replace p150 := eq_true p150
            replace q150 := eq_true q150
            have p151 : 0 ≤ (0 : Int) := (by omega)
            have q151 : 0 < (l0.length : Int) := of_decide_eq_true (by first | (with_reducible assumption) | assumption)
            obtain ⟨ad151, A151_0, c151_0, e151, hx151_0, hl151_0, hi151_0⟩ := at_L1 HR0.out 0 p151 q151
            obtain rfl : ad150 = ad151 := (by injection e151)
            have qi151 : (0 < l0.length) = True := eq_true (by omega)
            (try rw [show ((0 : Int)).toNat = 0 from rfl] at hx151_0)
            (try rw [Addr.add_zero'] at hx151_0)
            have HR151_0 := Aside0.mk hi151_0
            have HC151_0 := Aside0.mk hl151_0
            clear hi151_0 hl151_0
            replace p151 := eq_true p151
            replace q151 := eq_true q151
            go_wp2
            go_ret
            exact ⟨by first | rfl | (simp; done) | (simp [*]; done), by repeat (first | exact Drawn0.refl _ | apply Drawn0.step)⟩
           ·rw [if_neg c11] at H
            have c11b0 : decide (((rd_L1 l0 x18_2).length : Int) < 1) = false := decide_eq_false c11
            have c11b1 : decide ((rd_L1 l0 x18_2).length < 1) = false := decide_eq_false (by omega)
            clear c11
            by_cases c12 : ((rd_L1 l0 x18_2).length : Int) > a1
            ·rw [if_pos c12] at H
             have c12b0 : decide (a1 < ((rd_L1 l0 x18_2).length : Int)) = true := decide_eq_true c12
             clear c12
             obtain rfl := Option.some.inj H
             have p150 : 0 ≤ (x18_2 : Int) := of_decide_eq_true (by first | (with_reducible assumption) | assumption)
             have q150 : x18_2 < (l0.length : Int) := of_decide_eq_true (by first | (with_reducible assumption) | assumption)
             obtain ⟨ad150, A150_0, c150_0, e150, hx150_0, hl150_0, hi150_0⟩ := at_L1 HR0.out x18_2 p150 q150
             cases e150
             have HR150_0 := Aside0.mk hi150_0
             have HC150_0 := Aside0.mk hl150_0
             clear hi150_0 hl150_0
             replace p150 := eq_true p150
             replace q150 := eq_true q150
             have p151 : 0 ≤ (0 : Int) := (by omega)
             have q151 : 0 < (l0.length : Int) := of_decide_eq_true (by first | (with_reducible assumption) | assumption)
             obtain ⟨ad151, A151_0, c151_0, e151, hx151_0, hl151_0, hi151_0⟩ := at_L1 HR0.out 0 p151 q151
             obtain rfl : ad150 = ad151 := (by injection e151)
             have qi151 : (0 < l0.length) = True := eq_true (by omega)
             (try rw [show ((0 : Int)).toNat = 0 from rfl] at hx151_0)
             (try rw [Addr.add_zero'] at hx151_0)
             have HR151_0 := Aside0.mk hi151_0
             have HC151_0 := Aside0.mk hl151_0
             clear hi151_0 hl151_0
             replace p151 := eq_true p151
             replace q151 := eq_true q151
             go_wp2
             go_ret
             exact ⟨by first | rfl | (simp; done) | (simp [*]; done), by repeat (first | exact Drawn0.refl _ | apply Drawn0.step)⟩
            ·rw [if_neg c12] at H
             have c12b0 : decide (a1 < ((rd_L1 l0 x18_2).length : Int)) = false := decide_eq_false c12
             clear c12
             have H' := Aside0.mk H
             clear H
             have p150 : 0 ≤ (x18_2 : Int) := of_decide_eq_true (by first | (with_reducible assumption) | assumption)
             have q150 : x18_2 < (l0.length : Int) := of_decide_eq_true (by first | (with_reducible assumption) | assumption)
             obtain ⟨ad150, A150_0, c150_0, e150, hx150_0, hl150_0, hi150_0⟩ := at_L1 HR0.out x18_2 p150 q150
             cases e150
             have HR150_0 := Aside0.mk hi150_0
             have HC150_0 := Aside0.mk hl150_0
             clear hi150_0 hl150_0
             replace p150 := eq_true p150
             replace q150 := eq_true q150
             have p151 : 0 ≤ (0 : Int) := (by omega)
             have q151 : 0 < (l0.length : Int) := of_decide_eq_true (by first | (with_reducible assumption) | assumption)
             obtain ⟨ad151, A151_0, c151_0, e151, hx151_0, hl151_0, hi151_0⟩ := at_L1 HR0.out 0 p151 q151
             obtain rfl : ad150 = ad151 := (by injection e151)
             have qi151 : (0 < l0.length) = True := eq_true (by omega)
             (try rw [show ((0 : Int)).toNat = 0 from rfl] at hx151_0)
             (try rw [Addr.add_zero'] at hx151_0)
             have HR151_0 := Aside0.mk hi151_0
             have HC151_0 := Aside0.mk hl151_0
             clear hi151_0 hl151_0
             replace p151 := eq_true p151
             replace q151 := eq_true q151
             go_wp2
             go_roundg k2
             case measure => have := HJ2.out; have := HK2.out; omega
             case rel => exact ⟨(wrap64 (x18_2 + 1)), (by first | rfl | (simp; done) | (simp [*]; done)), H', ⟨by have := HJ2.out; have := HK2.out; omega⟩, by repeat (first | exact Drawn0.refl _ | apply Drawn0.step)⟩
          ·rw [if_neg c10] at H
           have c10b0 : (((rd_L1 l0 x18_2).length : Int) == ((rd_L1 l0 0).length : Int)) = false := beq_eq_false_iff_ne.mpr c10
           have c10b1 : (((rd_L1 l0 x18_2).length : Int) != ((rd_L1 l0 0).length : Int)) = true := bne_iff_ne.mpr c10
           have c10b2 : ((rd_L1 l0 x18_2).length == (rd_L1 l0 0).length) = false := by first | simpa using c10 | (simp at c10 ⊢; omega)
           obtain rfl := Option.some.inj H
           have p150 : 0 ≤ (x18_2 : Int) := of_decide_eq_true (by first | (with_reducible assumption) | assumption)
           have q150 : x18_2 < (l0.length : Int) := of_decide_eq_true (by first | (with_reducible assumption) | assumption)
           obtain ⟨ad150, A150_0, c150_0, e150, hx150_0, hl150_0, hi150_0⟩ := at_L1 HR0.out x18_2 p150 q150
           cases e150
           have HR150_0 := Aside0.mk hi150_0
           have HC150_0 := Aside0.mk hl150_0
           clear hi150_0 hl150_0
           replace p150 := eq_true p150
           replace q150 := eq_true q150
           have p151 : 0 ≤ (0 : Int) := (by omega)
           have q151 : 0 < (l0.length : Int) := of_decide_eq_true (by first | (with_reducible assumption) | assumption)
           obtain ⟨ad151, A151_0, c151_0, e151, hx151_0, hl151_0, hi151_0⟩ := at_L1 HR0.out 0 p151 q151
           obtain rfl : ad150 = ad151 := (by injection e151)
           have qi151 : (0 < l0.length) = True := eq_true (by omega)
           (try rw [show ((0 : Int)).toNat = 0 from rfl] at hx151_0)
           (try rw [Addr.add_zero'] at hx151_0)
           have HR151_0 := Aside0.mk hi151_0
           have HC151_0 := Aside0.mk hl151_0
           clear hi151_0 hl151_0
           replace p151 := eq_true p151
           replace q151 := eq_true q151
           go_wp2
           go_ret
           exact ⟨by first | rfl | (simp; done) | (simp [*]; done), by repeat (first | exact Drawn0.refl _ | apply Drawn0.step)⟩
         ·rw [if_neg c9] at H
          exact absurd H (by simp)
        ·rw [if_neg c8] at H
         exact absurd H (by simp)
       ·rw [if_neg c7] at H
        exact absurd H (by simp)
      ·rw [if_neg c6] at H
       have c6b0 : decide (x18_2 < (l0.length : Int)) = false := decide_eq_false c6
       clear c6
       obtain rfl := Option.some.inj H
       go_wp2
       go_ret
       exact ⟨by first | rfl | (simp; done) | (simp [*]; done), by repeat (first | exact Drawn0.refl _ | apply Drawn0.step)⟩
end Go.Proofs.Ytgdmflmglkakgaa.Q
namespace Go.Proofs.Ytgdmflmglkakgaa.Q
open Go.RowKit Go.Proofs.YtgdmflmglkakgaaW.PrintWords Go.Proofs.YtgdmflmglkakgaaW.PrintLast Go.Proofs.YtgdmflmglkakgaaW.PrintMore
attribute [local go_sem] max2_int min2_int max_two min_two max_three min_three max_four min_four
set_option linter.unusedVariables false
set_option linter.unusedSimpArgs false
def impl_within.f (a0 : Int) (a1 : Int) (a2 : Int) : Option (Bool) := if a0 ≥ a1 then (some (decide (a0 ≤ a2))) else (some false)
set_option maxHeartbeats 8000000 in
set_option maxRecDepth 100000 in
theorem impl_within.calls (a0 : Int) (a1 : Int) (a2 : Int) (r : Bool) (w : World) (h : impl_within.f a0 a1 a2 = some r) :
  Calls Try.prog 64 #[.int .i64 a0, .int .i64 a1, .int .i64 a2] w fun e w' => e = .returned (.bool r) ∧ Drawn0 w w' := by
 have H : (if a0 ≥ a1 then (some (decide (a0 ≤ a2))) else (some false)) = some r := h
 clear h
 by_cases c4 : a0 ≥ a1
 ·rw [if_pos c4] at H
  have c4b0 : decide (a1 ≤ a0) = true := decide_eq_true c4
  clear c4
  obtain rfl := Option.some.inj H
  go_enter Try.func64, Try.ntmps64
  go_wp2
  go_ret
  exact ⟨by first | rfl | (simp; done) | (simp [*]; done), by repeat (first | exact Drawn0.refl _ | apply Drawn0.step)⟩
 ·rw [if_neg c4] at H
  have c4b0 : decide (a1 ≤ a0) = false := decide_eq_false c4
  clear c4
  obtain rfl := Option.some.inj H
  go_enter Try.func64, Try.ntmps64
  go_wp2
  go_ret
  exact ⟨by first | rfl | (simp; done) | (simp [*]; done), by repeat (first | exact Drawn0.refl _ | apply Drawn0.step)⟩
end Go.Proofs.Ytgdmflmglkakgaa.Q
namespace Go.Proofs.Ytgdmflmglkakgaa.Q
open Go.RowKit Go.Proofs.YtgdmflmglkakgaaW.PrintWords Go.Proofs.YtgdmflmglkakgaaW.PrintLast Go.Proofs.YtgdmflmglkakgaaW.PrintMore
attribute [local go_sem] max2_int min2_int max_two min_two max_three min_three max_four min_four
set_option linter.unusedVariables false
set_option linter.unusedSimpArgs false
def impl_Set_isNumber.f (a0_0 : Int) (l0_1 : List (S63)) (a1 : Int) : Option (Bool) := (impl_within.f a1 0 (wrap64 ((l0_1.length : Int) - 1))).bind fun t151 => (some t151)
set_option maxHeartbeats 8000000 in
set_option maxRecDepth 100000 in
theorem impl_Set_isNumber.calls (a0_0 : Int) (A0_1 : Option Addr) (c0_1 : Nat) (l0_1 : List (S63)) (a1 : Int) (r : Bool) (w : World) (hr0_1 : Kd.C k63 w A0_1 l0_1.length l0_1) (hc0_1 : l0_1.length ≤ c0_1) (h : impl_Set_isNumber.f a0_0 l0_1 a1 = some r) :
  Calls Try.prog 56 #[.agg #[.int .i64 a0_0, .slice A0_1 l0_1.length c0_1], .int .i64 a1] w fun e w' => e = .returned (.bool r) ∧ Below w.heap.size w w' := by
 have hu32 := Try.underlying32
 have HR0_1 := Aside0.mk hr0_1
 have HC0_1 := Aside0.mk hc0_1
 clear hr0_1 hc0_1
 have HB := Aside0.mk (Below.refl w.heap.size w)
 have H : ((impl_within.f a1 0 (wrap64 ((l0_1.length : Int) - 1))).bind fun t151 => (some t151)) = some r := h
 clear h
 replace H := Option.bind_eq_some_iff.mp H
 obtain ⟨t151, A30, H⟩ := H
 replace H : (some t151) = some r := H
 have A3 := Aside0.mk A30
 clear A30
 obtain rfl := Option.some.inj H
 go_enter Try.func56, Try.ntmps56
 go_wp2_with (first | ((with_reducible refine gate_dst (N := 2) rfl ?_); refine box_event ?hg (N := 2) ?hd (cs := #[.int .i64 a0_0, .slice A0_1 l0_1.length c0_1]) (t := 32) ?hr ?_; (case hd => rfl); (case hg => rfl); (case hr => first | (go_simp; done) | (go_simp; rfl)); intro gb150 hg w4 hbox hb; have n0_ := Aside0.mk (below_step (by repeat (first | (with_reducible first | exact HB.out | apply below_alloc | apply pw_below_drewN | apply below_drew1) | exact HB.out)) hb); have n1_ := Aside0.mk (hbox); have n2_ := Aside0.mk ((by rw [hg]; exact (below_size (by repeat (first | (with_reducible first | exact HB.out | apply below_alloc | apply pw_below_drewN | apply below_drew1) | exact HB.out))) : w.heap.size ≤ gb150)); have n3_ := Aside0.mk ((by rw [hg]; exact (below_size (by repeat (first | (with_reducible first | exact HB.out | apply below_alloc | apply pw_below_drewN | apply below_drew1) | exact HB.out))) : w.heap.size ≤ gb150)); clear HB; have HB := n0_; have BK150 := n1_; have GW150 := n2_; have GE150 := n3_; clear n0_ n1_ n2_ n3_; clear hb hbox hg; have hcz5_0 : w4.cell? ⟨gb150, 0, none⟩ = some (.int .i64 a0_0) := (blk_cell BK150.out 0).trans rfl; have hcz5_1 : w4.cell? ⟨gb150, 1, none⟩ = some (.slice A0_1 l0_1.length c0_1) := (blk_cell BK150.out 1).trans rfl; have hfz5_0 := blk_frozen BK150.out 0; have hfz5_1 := blk_frozen BK150.out 1) | ((with_reducible refine gate_callee (f := 64) rfl ?_); refine goesL_ (some 10) rfl rfl Try.func64 (by kernel_rfl) rfl #[.int .i64 a1, .int .i64 0, .int .i64 (wrap64 ((l0_1.length : Int) - 1))] rfl (by (try simp only [List.map_toArray, List.map_cons, List.map_nil]); first | done | rfl | (simp only [List.length_drop, List.length_take]; rfl)) ?_; (with_reducible refine (impl_within.calls a1 0 (wrap64 ((l0_1.length : Int) - 1)) t151 _ A3.out).mono ?_); rintro e w' ⟨rfl, ⟨nd, rfl⟩⟩; refine ⟨_, rfl, ?_⟩))
 go_ret
 exact ⟨by first | rfl | (simp [errW_none, errW_some] <;> rfl) | (simp [*, errW_none, errW_some] <;> rfl), by repeat (first | (with_reducible first | exact HB.out | apply below_alloc | apply pw_below_drewN | apply below_drew1 | refine below_set ?_ GE150.out) | exact HB.out)⟩
end Go.Proofs.Ytgdmflmglkakgaa.Q
namespace Go.Proofs.Ytgdmflmglkakgaa.Q
open Go.RowKit Go.Proofs.YtgdmflmglkakgaaW.PrintWords Go.Proofs.YtgdmflmglkakgaaW.PrintLast Go.Proofs.YtgdmflmglkakgaaW.PrintMore
attribute [local go_sem] max2_int min2_int max_two min_two max_three min_three max_four min_four
set_option linter.unusedVariables false
set_option linter.unusedSimpArgs false
mutual
def impl_Set_areNumbers.l0 : Nat → List (List Int) → List (List Int) → Int → Int → Int → List (S63) → Option (Bool)
 | 0, _, _, _, _, _, _ => none
 | k + 1, x1, x9, x10, x11, x153000, x153001 => if x11 < x10 then (if 0 ≤ x11 then (if x11 < (x9.length : Int) then (impl_Set_areNumbers.l1 k x1 x9 x10 x11 (rd_L1 x9 x11) ((rd_L1 x9 x11).length : Int) 0 x153000 x153001) else (none)) else (none)) else ((impl_isTable.f k x1 8).bind fun t153 => (some t153))
def impl_Set_areNumbers.l1 : Nat → List (List Int) → List (List Int) → Int → Int → List Int → Int → Int → Int → List (S63) → Option (Bool)
 | 0, _, _, _, _, _, _, _, _, _ => none
 | k + 1, x1, x9, x10, x11, x15, x16, x17, x153000, x153001 => if x17 < x16 then (if 0 ≤ x17 then (if x17 < (x15.length : Int) then ((impl_Set_isNumber.f x153000 x153001 (rd x15 x17)).bind fun t156 => (if t156 = true then (impl_Set_areNumbers.l1 k x1 x9 x10 x11 x15 x16 (wrap64 (x17 + 1)) x153000 x153001) else (some false))) else (none)) else (none)) else (impl_Set_areNumbers.l0 k x1 x9 x10 (wrap64 (x11 + 1)) x153000 x153001)
end
def impl_Set_areNumbers.f (k : Nat) (a0_0 : Int) (l0_1 : List (S63)) (l1 : List (List Int)) : Option (Bool) := impl_Set_areNumbers.l0 k l1 l1 (l1.length : Int) 0 a0_0 l0_1
theorem impl_Set_areNumbers.mono_l : ∀ k, (∀ y0 y1 y2 y3 y4 y5, LeO (impl_Set_areNumbers.l0 k y0 y1 y2 y3 y4 y5) (impl_Set_areNumbers.l0 (k + 1) y0 y1 y2 y3 y4 y5)) ∧ (∀ y0 y1 y2 y3 y4 y5 y6 y7 y8, LeO (impl_Set_areNumbers.l1 k y0 y1 y2 y3 y4 y5 y6 y7 y8) (impl_Set_areNumbers.l1 (k + 1) y0 y1 y2 y3 y4 y5 y6 y7 y8))
 | 0 => ⟨fun _ _ _ _ _ _ r h => by simp [impl_Set_areNumbers.l0] at h, fun _ _ _ _ _ _ _ _ _ r h => by simp [impl_Set_areNumbers.l1] at h⟩
 | k + 1 => by
  obtain ⟨ih0, ih1⟩ := impl_Set_areNumbers.mono_l k
  refine ⟨?_, ?_⟩
  ·intro y0 y1 y2 y3 y4 y5
   unfold impl_Set_areNumbers.l0
   repeat' first
   | (with_reducible exact ih0 _ _ _ _ _ _)
   | (with_reducible exact ih1 _ _ _ _ _ _ _ _ _)
   | (with_reducible exact impl_isTable.mono _ _ _)
   | (with_reducible exact LeO.refl _)
   | (with_reducible exact LeO.none _)
   | (with_reducible refine LeO.ite ?_ ?_)
   | (with_reducible refine LeO.bind ?_ (fun _ => ?_))
   | exact ih0 _ _ _ _ _ _
   | exact ih1 _ _ _ _ _ _ _ _ _
   | exact impl_isTable.mono _ _ _
   | exact LeO.none _
   | refine LeO.ite ?_ ?_
   | refine LeO.bind ?_ (fun _ => ?_)
  ·intro y0 y1 y2 y3 y4 y5 y6 y7 y8
   unfold impl_Set_areNumbers.l1
   repeat' first
   | (with_reducible exact ih0 _ _ _ _ _ _)
   | (with_reducible exact ih1 _ _ _ _ _ _ _ _ _)
   | (with_reducible exact impl_isTable.mono _ _ _)
   | (with_reducible exact LeO.refl _)
   | (with_reducible exact LeO.none _)
   | (with_reducible refine LeO.ite ?_ ?_)
   | (with_reducible refine LeO.bind ?_ (fun _ => ?_))
   | exact ih0 _ _ _ _ _ _
   | exact ih1 _ _ _ _ _ _ _ _ _
   | exact impl_isTable.mono _ _ _
   | exact LeO.none _
   | refine LeO.ite ?_ ?_
   | refine LeO.bind ?_ (fun _ => ?_)
theorem impl_Set_areNumbers.mono : ∀ a0 a1 a2 k, LeO (impl_Set_areNumbers.f k a0 a1 a2) (impl_Set_areNumbers.f (k + 1) a0 a1 a2) := by
 intro a0 a1 a2 k
 obtain ⟨ih0, ih1⟩ := impl_Set_areNumbers.mono_l k
 unfold impl_Set_areNumbers.f
 repeat' first
   | (with_reducible exact ih0 _ _ _ _ _ _)
   | (with_reducible exact ih1 _ _ _ _ _ _ _ _ _)
   | (with_reducible exact impl_isTable.mono _ _ _)
   | (with_reducible exact LeO.refl _)
   | (with_reducible exact LeO.none _)
   | (with_reducible refine LeO.ite ?_ ?_)
   | (with_reducible refine LeO.bind ?_ (fun _ => ?_))
   | exact ih0 _ _ _ _ _ _
   | exact ih1 _ _ _ _ _ _ _ _ _
   | exact impl_isTable.mono _ _ _
   | exact LeO.none _
   | refine LeO.ite ?_ ?_
   | refine LeO.bind ?_ (fun _ => ?_)
set_option maxHeartbeats 8000000 in
set_option maxRecDepth 100000 in
theorem impl_Set_areNumbers.calls (k : Nat) (a0_0 : Int) (A0_1 : Option Addr) (c0_1 : Nat) (l0_1 : List (S63)) (A1 : Option Addr) (c1 : Nat) (l1 : List (List Int)) (r : Bool) (w : World) (hr0_1 : Kd.C k63 w A0_1 l0_1.length l0_1) (hc0_1 : l0_1.length ≤ c0_1) (hr1 : Kd.C (Kd.slice 2 (Kd.int .i64)) w A1 l1.length l1) (hc1 : l1.length ≤ c1) (h : impl_Set_areNumbers.f k a0_0 l0_1 l1 = some r) :
  Calls Try.prog 33 #[.agg #[.int .i64 a0_0, .slice A0_1 l0_1.length c0_1], .slice A1 l1.length c1] w fun e w' => e = .returned (.bool r) ∧ Below w.heap.size w w' := by
 have hu32 := Try.underlying32
 have HR0_1 := Aside0.mk hr0_1
 have HC0_1 := Aside0.mk hc0_1
 clear hr0_1 hc0_1
 have HR1 := Aside0.mk hr1
 have HC1 := Aside0.mk hc1
 clear hr1 hc1
 have HB := Aside0.mk (Below.refl w.heap.size w)
 have H : (impl_Set_areNumbers.l0 k l1 l1 (l1.length : Int) 0 a0_0 l0_1) = some r := h
 clear h
 have H' := Aside0.mk H
 clear H
 go_enter Try.func33, Try.ntmps33
 go_wp2_with (first | ((with_reducible refine gate_dst (N := 2) rfl ?_); refine box_event ?hg (N := 2) ?hd (cs := #[.int .i64 a0_0, .slice A0_1 l0_1.length c0_1]) (t := 32) ?hr ?_; (case hd => rfl); (case hg => rfl); (case hr => first | (go_simp; done) | (go_simp; rfl)); intro gb152 hg w3 hbox hb; have n0_ := Aside0.mk (below_step (by repeat (first | (with_reducible first | exact HB.out | apply below_alloc | apply pw_below_drewN | apply below_drew1) | exact HB.out)) hb); have n1_ := Aside0.mk (hbox); have n2_ := Aside0.mk ((by rw [hg]; exact (below_size (by repeat (first | (with_reducible first | exact HB.out | apply below_alloc | apply pw_below_drewN | apply below_drew1) | exact HB.out))) : w.heap.size ≤ gb152)); have n3_ := Aside0.mk ((by rw [hg]; exact (below_size (by repeat (first | (with_reducible first | exact HB.out | apply below_alloc | apply pw_below_drewN | apply below_drew1) | exact HB.out))) : w.heap.size ≤ gb152)); clear HB; have HB := n0_; have BK152 := n1_; have GW152 := n2_; have GE152 := n3_; clear n0_ n1_ n2_ n3_; clear hb hbox hg))
 go_loopg [11] k (fun kq v11 w' => ∃ (x11_1 : Int), v11 = .int .i64 x11_1 ∧ Aside0 (impl_Set_areNumbers.l0 kq l1 l1 (l1.length : Int) x11_1 a0_0 l0_1 = some r) ∧ Aside0 (kq ≤ k) ∧ Aside0 (w'.heap[gb152]? = some (.cells #[.int .i64 a0_0, (.slice A0_1 l0_1.length c0_1)] 32 (0, 0))) ∧ Aside0 (Below w.heap.size w w'))
 case atStart => exact ⟨(0), (by first | rfl | (simp; done) | (simp [*]; done)), H', ⟨Nat.le_refl _⟩, ⟨by (with_reducible repeat (first | refine blk_drewN ?_ _ | refine blk_drew ?_ | refine blk_alloc ?_ _)); exact BK152.out⟩, ⟨by repeat (first | (with_reducible first | exact HB.out | apply below_alloc | apply pw_below_drewN | apply below_drew1 | refine below_set ?_ GE152.out) | exact HB.out)⟩⟩
 case round =>
  clear H'
  try clear c1
  try clear p2
  try clear c3
  obtain ⟨x11_1, rfl, HA, HK1, BK152, HB⟩ := hrel
  cases gk with
  | zero => exact absurd HA.out (by simp [impl_Set_areNumbers.l0])
  | succ k1 =>
   have H := HA.out
   clear HA
   simp only [impl_Set_areNumbers.l0] at H
   by_cases c4 : x11_1 < (l1.length : Int)
   ·rw [if_pos c4] at H
    have c4b0 : decide (x11_1 < (l1.length : Int)) = true := decide_eq_true c4
    clear c4
    by_cases c5 : 0 ≤ x11_1
    ·rw [if_pos c5] at H
     have c5b0 : decide (0 ≤ x11_1) = true := decide_eq_true c5
     clear c5
     by_cases c6 : x11_1 < (l1.length : Int)
     ·rw [if_pos c6] at H
      have c6b0 : decide (x11_1 < (l1.length : Int)) = true := decide_eq_true c6
      clear c6
      have H' := Aside0.mk H
      clear H
      have p154 : 0 ≤ (x11_1 : Int) := of_decide_eq_true (by first | (with_reducible assumption) | assumption)
      have q154 : x11_1 < (l1.length : Int) := of_decide_eq_true (by first | (with_reducible assumption) | assumption)
      obtain ⟨ad154, A154_0, c154_0, e154, hx154_0, hl154_0, hi154_0⟩ := at_L1 HR1.out x11_1 p154 q154
      cases e154
      replace hx154_0 := (HB.out.cell (World.block_lt_of_cell? w _ hx154_0)).trans hx154_0
      have HR154_0 := Aside0.mk hi154_0
      have HC154_0 := Aside0.mk hl154_0
      clear hi154_0 hl154_0
      replace p154 := eq_true p154
      replace q154 := eq_true q154
      go_wp2
      go_loopg [17] k1 (fun kq v17 w' => ∃ (x17_2 : Int), v17 = .int .i64 x17_2 ∧ Aside0 (impl_Set_areNumbers.l1 kq l1 l1 (l1.length : Int) x11_1 (rd_L1 l1 x11_1) ((rd_L1 l1 x11_1).length : Int) x17_2 a0_0 l0_1 = some r) ∧ Aside0 (kq ≤ k1) ∧ Aside0 (w'.heap[gb152]? = some (.cells #[.int .i64 a0_0, (.slice A0_1 l0_1.length c0_1)] 32 (0, 0))) ∧ Aside0 (Below w.heap.size w w'))
      case atStart => exact ⟨(0), (by first | rfl | (simp; done) | (simp [*]; done)), H', ⟨Nat.le_refl _⟩, ⟨by (with_reducible repeat (first | refine blk_drewN ?_ _ | refine blk_drew ?_ | refine blk_alloc ?_ _)); exact BK152.out⟩, ⟨by repeat (first | (with_reducible first | exact HB.out | apply below_alloc | apply pw_below_drewN | apply below_drew1 | refine below_set ?_ GE152.out) | exact HB.out)⟩⟩
      case round =>
       clear H'
       try clear c1
       try clear p1
       try clear q1
       try clear hx1
       try clear p2
       try clear c3
       try clear c4
       try clear c4b0
       try clear c5
       try clear c5b0
       try clear c6
       try clear c6b0
       try clear hx154_0
       try clear p154
       try clear p2
       try clear q154
       obtain ⟨x17_2, rfl, HA, HK2, BK152, HB⟩ := hrel
       cases gk with
       | zero => exact absurd HA.out (by simp [impl_Set_areNumbers.l1])
       | succ k2 =>
        have H := HA.out
        clear HA
        simp only [impl_Set_areNumbers.l1] at H
        by_cases c7 : x17_2 < ((rd_L1 l1 x11_1).length : Int)
        ·rw [if_pos c7] at H
         have c7b0 : decide (x17_2 < ((rd_L1 l1 x11_1).length : Int)) = true := decide_eq_true c7
         clear c7
         by_cases c8 : 0 ≤ x17_2
         ·rw [if_pos c8] at H
          have c8b0 : decide (0 ≤ x17_2) = true := decide_eq_true c8
          clear c8
          by_cases c9 : x17_2 < ((rd_L1 l1 x11_1).length : Int)
          ·rw [if_pos c9] at H
           have c9b0 : decide (x17_2 < ((rd_L1 l1 x11_1).length : Int)) = true := decide_eq_true c9
           clear c9
           replace H := Option.bind_eq_some_iff.mp H
           obtain ⟨t156, A100, H⟩ := H
           replace H : (if t156 = true then (impl_Set_areNumbers.l1 k2 l1 l1 (l1.length : Int) x11_1 (rd_L1 l1 x11_1) ((rd_L1 l1 x11_1).length : Int) (wrap64 (x17_2 + 1)) a0_0 l0_1) else (some false)) = some r := H
           have A10 := Aside0.mk A100
           clear A100
           by_cases c11 : t156 = true
           ·subst c11
            have H1 : (impl_Set_areNumbers.l1 k2 l1 l1 (l1.length : Int) x11_1 (rd_L1 l1 x11_1) ((rd_L1 l1 x11_1).length : Int) (wrap64 (x17_2 + 1)) a0_0 l0_1) = some r := by rw [if_pos rfl] at H; exact H
            clear H
            have H := H1
            clear H1
            have H' := Aside0.mk H
            clear H
            have p155 : 0 ≤ (x17_2 : Int) := of_decide_eq_true (by first | (with_reducible assumption) | assumption)
            have q155 : x17_2 < ((rd_L1 l1 x11_1).length : Int) := of_decide_eq_true (by first | (with_reducible assumption) | assumption)
            obtain ⟨ad155, e155, hx155_0⟩ := Kd.at_int HR154_0.out x17_2 p155 q155
            cases e155
            replace hx155_0 := (HB.out.cell (World.block_lt_of_cell? w _ hx155_0)).trans hx155_0
            replace p155 := eq_true p155
            replace q155 := eq_true q155
            have hcz12_0 : wr.cell? ⟨gb152, 0, none⟩ = some (.int .i64 a0_0) := (blk_cell BK152.out 0).trans rfl
            have hcz12_1 : wr.cell? ⟨gb152, 1, none⟩ = some (.slice A0_1 l0_1.length c0_1) := (blk_cell BK152.out 1).trans rfl
            have hfz12_0 := blk_frozen BK152.out 0
            have hfz12_1 := blk_frozen BK152.out 1
            go_wp2_with (first | ((with_reducible refine gate_callee (f := 56) rfl ?_); refine goesL_ (some 23) rfl rfl Try.func56 (by kernel_rfl) rfl #[.agg #[.int .i64 a0_0, .slice A0_1 l0_1.length c0_1], .int .i64 (rd (rd_L1 l1 x11_1) x17_2)] rfl (by (try simp only [List.map_toArray, List.map_cons, List.map_nil]); first | done | rfl | (simp only [List.length_drop, List.length_take]; rfl)) ?_; (with_reducible refine (impl_Set_isNumber.calls a0_0 _ _ l0_1 (rd (rd_L1 l1 x11_1) x17_2) true _ ?side1 ?side2 A10.out).mono ?_); (case side1 => repeat (first | exact (Kd.C_below HR0_1.out HB.out) | (with_reducible refine Kd.C_alloc ?_ _) | (with_reducible refine Kd.C_drewN ?_ _) | (with_reducible refine Kd.C_drew ?_))); (case side2 => exact HC0_1.out); rintro e w13 ⟨rfl, hb⟩; refine ⟨_, rfl, ?_⟩; have n0_ := Aside0.mk (blk_below (g := gb152) (o := .cells #[.int .i64 a0_0, .slice A0_1 l0_1.length c0_1] 32 (0, 0)) (by (with_reducible repeat (first | refine blk_drewN ?_ _ | refine blk_drew ?_ | refine blk_alloc ?_ _)); exact BK152.out) hb); have n1_ := Aside0.mk (below_step (by repeat (first | (with_reducible first | exact HB.out | apply below_alloc | apply pw_below_drewN | apply below_drew1 | refine below_set ?_ GE152.out) | exact HB.out)) hb); clear BK152; clear HB; have BK152 := n0_; have HB := n1_; clear n0_ n1_; (try clear hb); (try clear hb2); (try clear hk); (try clear hi)))
            go_roundg k2
            case measure => have := HK1.out; have := HK2.out; omega
            case rel => exact ⟨(wrap64 (x17_2 + 1)), (by first | rfl | (simp; done) | (simp [*]; done)), H', ⟨by have := HK1.out; have := HK2.out; omega⟩, ⟨by (with_reducible repeat (first | refine blk_drewN ?_ _ | refine blk_drew ?_ | refine blk_alloc ?_ _)); exact BK152.out⟩, ⟨by repeat (first | (with_reducible first | exact HB.out | apply below_alloc | apply pw_below_drewN | apply below_drew1 | refine below_set ?_ GE152.out) | exact HB.out)⟩⟩
           ·replace c11 := Bool.eq_false_iff.mpr c11
            subst c11
            have H1 : (some false) = some r := by rw [if_neg (show ¬ (false = true) by decide)] at H; exact H
            clear H
            have H := H1
            clear H1
            obtain rfl := Option.some.inj H
            have p155 : 0 ≤ (x17_2 : Int) := of_decide_eq_true (by first | (with_reducible assumption) | assumption)
            have q155 : x17_2 < ((rd_L1 l1 x11_1).length : Int) := of_decide_eq_true (by first | (with_reducible assumption) | assumption)
            obtain ⟨ad155, e155, hx155_0⟩ := Kd.at_int HR154_0.out x17_2 p155 q155
            cases e155
            replace hx155_0 := (HB.out.cell (World.block_lt_of_cell? w _ hx155_0)).trans hx155_0
            replace p155 := eq_true p155
            replace q155 := eq_true q155
            have hcz14_0 : wr.cell? ⟨gb152, 0, none⟩ = some (.int .i64 a0_0) := (blk_cell BK152.out 0).trans rfl
            have hcz14_1 : wr.cell? ⟨gb152, 1, none⟩ = some (.slice A0_1 l0_1.length c0_1) := (blk_cell BK152.out 1).trans rfl
            have hfz14_0 := blk_frozen BK152.out 0
            have hfz14_1 := blk_frozen BK152.out 1
            go_wp2_with (first | ((with_reducible refine gate_callee (f := 56) rfl ?_); refine goesL_ (some 23) rfl rfl Try.func56 (by kernel_rfl) rfl #[.agg #[.int .i64 a0_0, .slice A0_1 l0_1.length c0_1], .int .i64 (rd (rd_L1 l1 x11_1) x17_2)] rfl (by (try simp only [List.map_toArray, List.map_cons, List.map_nil]); first | done | rfl | (simp only [List.length_drop, List.length_take]; rfl)) ?_; (with_reducible refine (impl_Set_isNumber.calls a0_0 _ _ l0_1 (rd (rd_L1 l1 x11_1) x17_2) false _ ?side1 ?side2 A10.out).mono ?_); (case side1 => repeat (first | exact (Kd.C_below HR0_1.out HB.out) | (with_reducible refine Kd.C_alloc ?_ _) | (with_reducible refine Kd.C_drewN ?_ _) | (with_reducible refine Kd.C_drew ?_))); (case side2 => exact HC0_1.out); rintro e w15 ⟨rfl, hb⟩; refine ⟨_, rfl, ?_⟩; have n0_ := Aside0.mk (blk_below (g := gb152) (o := .cells #[.int .i64 a0_0, .slice A0_1 l0_1.length c0_1] 32 (0, 0)) (by (with_reducible repeat (first | refine blk_drewN ?_ _ | refine blk_drew ?_ | refine blk_alloc ?_ _)); exact BK152.out) hb); have n1_ := Aside0.mk (below_step (by repeat (first | (with_reducible first | exact HB.out | apply below_alloc | apply pw_below_drewN | apply below_drew1 | refine below_set ?_ GE152.out) | exact HB.out)) hb); clear BK152; clear HB; have BK152 := n0_; have HB := n1_; clear n0_ n1_; (try clear hb); (try clear hb2); (try clear hk); (try clear hi)))
            go_ret
            exact ⟨by first | rfl | (simp [errW_none, errW_some] <;> rfl) | (simp [*, errW_none, errW_some] <;> rfl), by repeat (first | (with_reducible first | exact HB.out | apply below_alloc | apply pw_below_drewN | apply below_drew1 | refine below_set ?_ GE152.out) | exact HB.out)⟩
          ·rw [if_neg c9] at H
           exact absurd H (by simp)
         ·rw [if_neg c8] at H
          exact absurd H (by simp)
        ·rw [if_neg c7] at H
         have c7b0 : decide (x17_2 < ((rd_L1 l1 x11_1).length : Int)) = false := decide_eq_false c7
         clear c7
         have H' := Aside0.mk H
         clear H
         go_wp2
         go_roundg k2
         case measure => have := HK1.out; have := HK2.out; omega
         case rel => exact ⟨(wrap64 (x11_1 + 1)), (by first | rfl | (simp; done) | (simp [*]; done)), H', ⟨by have := HK1.out; have := HK2.out; omega⟩, ⟨by (with_reducible repeat (first | refine blk_drewN ?_ _ | refine blk_drew ?_ | refine blk_alloc ?_ _)); exact BK152.out⟩, ⟨by repeat (first | (with_reducible first | exact HB.out | apply below_alloc | apply pw_below_drewN | apply below_drew1 | refine below_set ?_ GE152.out) | exact HB.out)⟩⟩
     ·rw [if_neg c6] at H
      exact absurd H (by simp)
    ·rw [if_neg c5] at H
     exact absurd H (by simp)
   ·rw [if_neg c4] at H
    have c4b0 : decide (x11_1 < (l1.length : Int)) = false := decide_eq_false c4
    clear c4
    replace H := Option.bind_eq_some_iff.mp H
    obtain ⟨t153, A160, H⟩ := H
    replace H : (some t153) = some r := H
    have A16 := Aside0.mk A160
    clear A160
    obtain rfl := Option.some.inj H
    go_wp2_with (first | ((with_reducible refine gate_callee (f := 57) rfl ?_); refine goesL_ (some 28) rfl rfl Try.func57 (by kernel_rfl) rfl #[.slice A1 l1.length c1, .int .i64 8] rfl (by (try simp only [List.map_toArray, List.map_cons, List.map_nil]); first | done | rfl | (simp only [List.length_drop, List.length_take]; rfl)) ?_; (with_reducible refine (impl_isTable.calls k1 _ _ l1 8 t153 _ ?side1 ?side2 A16.out).mono ?_); (case side1 => repeat (first | exact (Kd.C_below HR1.out HB.out) | (with_reducible refine Kd.C_alloc ?_ _) | (with_reducible refine Kd.C_drewN ?_ _) | (with_reducible refine Kd.C_drew ?_))); (case side2 => exact HC1.out); rintro e w' ⟨rfl, ⟨nd, rfl⟩⟩; refine ⟨_, rfl, ?_⟩))
    go_ret
    exact ⟨by first | rfl | (simp [errW_none, errW_some] <;> rfl) | (simp [*, errW_none, errW_some] <;> rfl), by repeat (first | (with_reducible first | exact HB.out | apply below_alloc | apply pw_below_drewN | apply below_drew1 | refine below_set ?_ GE152.out) | exact HB.out)⟩
end Go.Proofs.Ytgdmflmglkakgaa.Q
namespace Go.Proofs.Ytgdmflmglkakgaa.Q
open Go.RowKit Go.Proofs.YtgdmflmglkakgaaW.PrintWords Go.Proofs.YtgdmflmglkakgaaW.PrintLast Go.Proofs.YtgdmflmglkakgaaW.PrintMore
attribute [local go_sem] max2_int min2_int max_two min_two max_three min_three max_four min_four
set_option linter.unusedVariables false
set_option linter.unusedSimpArgs false
def impl_IsFilling_1.f (k : Nat) (a0_0 : Int) (l0_1 : List (S63)) (l1_0 : List (List Int)) : Option (Bool) := (impl_Set_areNumbers.f k a0_0 l0_1 l1_0).bind fun t157 => (some t157)
theorem impl_IsFilling_1.mono : ∀ a0 a1 a2 k, LeO (impl_IsFilling_1.f k a0 a1 a2) (impl_IsFilling_1.f (k + 1) a0 a1 a2) := by
 intro a0 a1 a2 k
 unfold impl_IsFilling_1.f
 repeat' first
   | (with_reducible exact impl_Set_areNumbers.mono _ _ _ _)
   | (with_reducible exact LeO.refl _)
   | (with_reducible exact LeO.none _)
   | (with_reducible refine LeO.ite ?_ ?_)
   | (with_reducible refine LeO.bind ?_ (fun _ => ?_))
   | exact impl_Set_areNumbers.mono _ _ _ _
   | exact LeO.none _
   | refine LeO.ite ?_ ?_
   | refine LeO.bind ?_ (fun _ => ?_)
set_option maxHeartbeats 8000000 in
set_option maxRecDepth 100000 in
theorem impl_IsFilling_1.calls (k : Nat) (g0_ : Nat) (a0_0 : Int) (A0_1 : Option Addr) (c0_1 : Nat) (l0_1 : List (S63)) (g1_ : Nat) (A1_0 : Option Addr) (c1_0 : Nat) (l1_0 : List (List Int)) (r : Bool) (w : World) (hr0_1 : Kd.C k63 w A0_1 l0_1.length l0_1) (hc0_1 : l0_1.length ≤ c0_1) (hr1_0 : Kd.C (Kd.slice 2 (Kd.int .i64)) w A1_0 l1_0.length l1_0) (hc1_0 : l1_0.length ≤ c1_0) (hb0_ : w.heap[g0_]? = some (.cells #[.int .i64 a0_0, .slice A0_1 l0_1.length c0_1] 32 (0, 0))) (hb1_ : w.heap[g1_]? = some (.cells #[.slice A1_0 l1_0.length c1_0] 25 (0, 0))) (h : impl_IsFilling_1.f k a0_0 l0_1 l1_0 = some r) :
  Calls Try.prog 32 #[.pointer (some ⟨g0_, 0, none⟩), .pointer (some ⟨g1_, 0, none⟩)] w fun e w' => e = .returned (.bool r) ∧ Below w.heap.size w w' := by
 have hu32 := Try.underlying32
 have HR0_1 := Aside0.mk hr0_1
 have HC0_1 := Aside0.mk hc0_1
 clear hr0_1 hc0_1
 have HR1_0 := Aside0.mk hr1_0
 have HC1_0 := Aside0.mk hc1_0
 clear hr1_0 hc1_0
 have BK0 := Aside0.mk hb0_
 clear hb0_
 have BK1 := Aside0.mk hb1_
 clear hb1_
 have HB := Aside0.mk (Below.refl w.heap.size w)
 have H : ((impl_Set_areNumbers.f k a0_0 l0_1 l1_0).bind fun t157 => (some t157)) = some r := h
 clear h
 replace H := Option.bind_eq_some_iff.mp H
 obtain ⟨t157, A30, H⟩ := H
 replace H : (some t157) = some r := H
 have A3 := Aside0.mk A30
 clear A30
 obtain rfl := Option.some.inj H
 have hcz4_0 : w.cell? ⟨g0_, 0, none⟩ = some (.int .i64 a0_0) := (blk_cell BK0.out 0).trans rfl
 have hcz4_1 : w.cell? ⟨g0_, 1, none⟩ = some (.slice A0_1 l0_1.length c0_1) := (blk_cell BK0.out 1).trans rfl
 have hfz4_0 := blk_frozen BK0.out 0
 have hfz4_1 := blk_frozen BK0.out 1
 have hcz5_0 : w.cell? ⟨g1_, 0, none⟩ = some (.slice A1_0 l1_0.length c1_0) := (blk_cell BK1.out 0).trans rfl
 have hfz5_0 := blk_frozen BK1.out 0
 go_enter Try.func32, Try.ntmps32
 go_wp2_with (first | ((with_reducible refine gate_callee (f := 33) rfl ?_); refine goesL_ (some 5) rfl rfl Try.func33 (by kernel_rfl) rfl #[.agg #[.int .i64 a0_0, .slice A0_1 l0_1.length c0_1], .slice A1_0 l1_0.length c1_0] rfl (by (try simp only [List.map_toArray, List.map_cons, List.map_nil]); first | done | rfl | (simp only [List.length_drop, List.length_take]; rfl)) ?_; (with_reducible refine (impl_Set_areNumbers.calls k a0_0 _ _ l0_1 _ _ l1_0 t157 _ ?side1 ?side2 ?side3 ?side4 A3.out).mono ?_); (case side1 => repeat (first | exact HR0_1.out | (with_reducible refine Kd.C_alloc ?_ _) | (with_reducible refine Kd.C_drewN ?_ _) | (with_reducible refine Kd.C_drew ?_))); (case side2 => exact HC0_1.out); (case side3 => repeat (first | exact HR1_0.out | (with_reducible refine Kd.C_alloc ?_ _) | (with_reducible refine Kd.C_drewN ?_ _) | (with_reducible refine Kd.C_drew ?_))); (case side4 => exact HC1_0.out); rintro e w6 ⟨rfl, hb⟩; refine ⟨_, rfl, ?_⟩; have n0_ := Aside0.mk (blk_below (g := g0_) (o := .cells #[.int .i64 a0_0, .slice A0_1 l0_1.length c0_1] 32 (0, 0)) (by (with_reducible repeat (first | refine blk_drewN ?_ _ | refine blk_drew ?_ | refine blk_alloc ?_ _)); exact BK0.out) hb); have n1_ := Aside0.mk (blk_below (g := g1_) (o := .cells #[.slice A1_0 l1_0.length c1_0] 25 (0, 0)) (by (with_reducible repeat (first | refine blk_drewN ?_ _ | refine blk_drew ?_ | refine blk_alloc ?_ _)); exact BK1.out) hb); have n2_ := Aside0.mk (below_step (by repeat (first | (with_reducible first | exact HB.out | apply below_alloc | apply pw_below_drewN | apply below_drew1) | exact HB.out)) hb); clear BK0; clear BK1; clear HB; have BK0 := n0_; have BK1 := n1_; have HB := n2_; clear n0_ n1_ n2_; (try clear hb); (try clear hb2); (try clear hk); (try clear hi)))
 go_ret
 exact ⟨by first | rfl | (simp [errW_none, errW_some] <;> rfl) | (simp [*, errW_none, errW_some] <;> rfl), by repeat (first | (with_reducible first | exact HB.out | apply below_alloc | apply pw_below_drewN | apply below_drew1) | exact HB.out)⟩
end Go.Proofs.Ytgdmflmglkakgaa.Q
namespace Go.Proofs.Ytgdmflmglkakgaa.Q
open Go.RowKit Go.Proofs.YtgdmflmglkakgaaW.PrintWords Go.Proofs.YtgdmflmglkakgaaW.PrintLast Go.Proofs.YtgdmflmglkakgaaW.PrintMore
attribute [local go_sem] max2_int min2_int max_two min_two max_three min_three max_four min_four
set_option linter.unusedVariables false
set_option linter.unusedSimpArgs false
def impl_setCode_at_impl_IsFilling_1.f (k : Nat) (a0_0 : Int) (l0_1 : List (S63)) (a1_0_0 : Int) (l1_0_1 : List (S63)) (l1_1_0 : List (List Int)) : Option (Int) := (impl_IsSet.f a0_0 l0_1).bind fun t159 => (if t159 = true then ((impl_IsFilling_1.f k a1_0_0 l1_0_1 l1_1_0).bind fun t160 => (if t160 = true then (some 0) else (some 2))) else (some 1))
theorem impl_setCode_at_impl_IsFilling_1.mono : ∀ a0 a1 a2 a3 a4 k, LeO (impl_setCode_at_impl_IsFilling_1.f k a0 a1 a2 a3 a4) (impl_setCode_at_impl_IsFilling_1.f (k + 1) a0 a1 a2 a3 a4) := by
 intro a0 a1 a2 a3 a4 k
 unfold impl_setCode_at_impl_IsFilling_1.f
 repeat' first
   | (with_reducible exact impl_IsFilling_1.mono _ _ _ _)
   | (with_reducible exact LeO.refl _)
   | (with_reducible exact LeO.none _)
   | (with_reducible refine LeO.ite ?_ ?_)
   | (with_reducible refine LeO.bind ?_ (fun _ => ?_))
   | exact impl_IsFilling_1.mono _ _ _ _
   | exact LeO.none _
   | refine LeO.ite ?_ ?_
   | refine LeO.bind ?_ (fun _ => ?_)
set_option maxHeartbeats 8000000 in
set_option maxRecDepth 100000 in
theorem impl_setCode_at_impl_IsFilling_1.calls (k : Nat) (a0_0 : Int) (A0_1 : Option Addr) (c0_1 : Nat) (l0_1 : List (S63)) (g1_0_ : Nat) (a1_0_0 : Int) (A1_0_1 : Option Addr) (c1_0_1 : Nat) (l1_0_1 : List (S63)) (g1_1_ : Nat) (A1_1_0 : Option Addr) (c1_1_0 : Nat) (l1_1_0 : List (List Int)) (r : Int) (w : World) (hr0_1 : Kd.C k63 w A0_1 l0_1.length l0_1) (hc0_1 : l0_1.length ≤ c0_1) (hr1_0_1 : Kd.C k63 w A1_0_1 l1_0_1.length l1_0_1) (hc1_0_1 : l1_0_1.length ≤ c1_0_1) (hr1_1_0 : Kd.C (Kd.slice 2 (Kd.int .i64)) w A1_1_0 l1_1_0.length l1_1_0) (hc1_1_0 : l1_1_0.length ≤ c1_1_0) (hb1_0_ : w.heap[g1_0_]? = some (.cells #[.int .i64 a1_0_0, .slice A1_0_1 l1_0_1.length c1_0_1] 32 (0, 0))) (hb1_1_ : w.heap[g1_1_]? = some (.cells #[.slice A1_1_0 l1_1_0.length c1_1_0] 25 (0, 0))) (h : impl_setCode_at_impl_IsFilling_1.f k a0_0 l0_1 a1_0_0 l1_0_1 l1_1_0 = some r) :
  Calls Try.prog 31 #[.agg #[.int .i64 a0_0, .slice A0_1 l0_1.length c0_1], .func (.func 32) #[] #[.pointer (some ⟨g1_0_, 0, none⟩), .pointer (some ⟨g1_1_, 0, none⟩)]] w fun e w' => e = .returned (.int .i64 r) ∧ Below w.heap.size w w' := by
 have hu32 := Try.underlying32
 have HR0_1 := Aside0.mk hr0_1
 have HC0_1 := Aside0.mk hc0_1
 clear hr0_1 hc0_1
 have HR1_0_1 := Aside0.mk hr1_0_1
 have HC1_0_1 := Aside0.mk hc1_0_1
 clear hr1_0_1 hc1_0_1
 have HR1_1_0 := Aside0.mk hr1_1_0
 have HC1_1_0 := Aside0.mk hc1_1_0
 clear hr1_1_0 hc1_1_0
 have BK90020 := Aside0.mk hb1_0_
 clear hb1_0_
 have BK90021 := Aside0.mk hb1_1_
 clear hb1_1_
 have HB := Aside0.mk (Below.refl w.heap.size w)
 have H : ((impl_IsSet.f a0_0 l0_1).bind fun t159 => (if t159 = true then ((impl_IsFilling_1.f k a1_0_0 l1_0_1 l1_1_0).bind fun t160 => (if t160 = true then (some 0) else (some 2))) else (some 1))) = some r := h
 clear h
 replace H := Option.bind_eq_some_iff.mp H
 obtain ⟨t159, A30, H⟩ := H
 replace H : (if t159 = true then ((impl_IsFilling_1.f k a1_0_0 l1_0_1 l1_1_0).bind fun t160 => (if t160 = true then (some 0) else (some 2))) else (some 1)) = some r := H
 have A3 := Aside0.mk A30
 clear A30
 by_cases c4 : t159 = true
 ·subst c4
  have H1 : ((impl_IsFilling_1.f k a1_0_0 l1_0_1 l1_1_0).bind fun t160 => (if t160 = true then (some 0) else (some 2))) = some r := by rw [if_pos rfl] at H; exact H
  clear H
  have H := H1
  clear H1
  replace H := Option.bind_eq_some_iff.mp H
  obtain ⟨t160, A50, H⟩ := H
  replace H : (if t160 = true then (some 0) else (some 2)) = some r := H
  have A5 := Aside0.mk A50
  clear A50
  by_cases c6 : t160 = true
  ·subst c6
   have H1 : (some 0) = some r := by rw [if_pos rfl] at H; exact H
   clear H
   have H := H1
   clear H1
   obtain rfl := Option.some.inj H
   go_enter Try.func31, Try.ntmps31
   go_wp2_with (first | ((with_reducible refine gate_dst (N := 2) rfl ?_); refine box_event ?hg (N := 2) ?hd (cs := #[.int .i64 a0_0, .slice A0_1 l0_1.length c0_1]) (t := 32) ?hr ?_; (case hd => rfl); (case hg => rfl); (case hr => first | (go_simp; done) | (go_simp; rfl)); intro gb158 hg w7 hbox hb; have n0_ := Aside0.mk (blk_below (g := g1_0_) (o := .cells #[.int .i64 a1_0_0, .slice A1_0_1 l1_0_1.length c1_0_1] 32 (0, 0)) (by (with_reducible repeat (first | refine blk_drewN ?_ _ | refine blk_drew ?_ | refine blk_alloc ?_ _)); exact BK90020.out) hb); have n1_ := Aside0.mk (blk_below (g := g1_1_) (o := .cells #[.slice A1_1_0 l1_1_0.length c1_1_0] 25 (0, 0)) (by (with_reducible repeat (first | refine blk_drewN ?_ _ | refine blk_drew ?_ | refine blk_alloc ?_ _)); exact BK90021.out) hb); have n2_ := Aside0.mk (below_step (by repeat (first | (with_reducible first | exact HB.out | apply below_alloc | apply pw_below_drewN | apply below_drew1) | exact HB.out)) hb); have n3_ := Aside0.mk (hbox); have n4_ := Aside0.mk ((by rw [hg]; exact (below_size (by repeat (first | (with_reducible first | exact HB.out | apply below_alloc | apply pw_below_drewN | apply below_drew1) | exact HB.out))) : w.heap.size ≤ gb158)); have n5_ := Aside0.mk ((by rw [hg]; exact (below_size (by repeat (first | (with_reducible first | exact HB.out | apply below_alloc | apply pw_below_drewN | apply below_drew1) | exact HB.out))) : w.heap.size ≤ gb158)); have n6_ := Aside0.mk ((by rw [hg]; exact Nat.ne_of_lt (blk_lt (g := g1_0_) (o := .cells #[.int .i64 a1_0_0, .slice A1_0_1 l1_0_1.length c1_0_1] 32 (0, 0)) (by (with_reducible repeat (first | refine blk_drewN ?_ _ | refine blk_drew ?_ | refine blk_alloc ?_ _)); exact BK90020.out)) : g1_0_ ≠ gb158)); have n7_ := Aside0.mk ((by rw [hg]; exact Nat.ne_of_gt (blk_lt (g := g1_0_) (o := .cells #[.int .i64 a1_0_0, .slice A1_0_1 l1_0_1.length c1_0_1] 32 (0, 0)) (by (with_reducible repeat (first | refine blk_drewN ?_ _ | refine blk_drew ?_ | refine blk_alloc ?_ _)); exact BK90020.out)) : gb158 ≠ g1_0_)); have n8_ := Aside0.mk ((by rw [hg]; exact Nat.ne_of_lt (blk_lt (g := g1_1_) (o := .cells #[.slice A1_1_0 l1_1_0.length c1_1_0] 25 (0, 0)) (by (with_reducible repeat (first | refine blk_drewN ?_ _ | refine blk_drew ?_ | refine blk_alloc ?_ _)); exact BK90021.out)) : g1_1_ ≠ gb158)); have n9_ := Aside0.mk ((by rw [hg]; exact Nat.ne_of_gt (blk_lt (g := g1_1_) (o := .cells #[.slice A1_1_0 l1_1_0.length c1_1_0] 25 (0, 0)) (by (with_reducible repeat (first | refine blk_drewN ?_ _ | refine blk_drew ?_ | refine blk_alloc ?_ _)); exact BK90021.out)) : gb158 ≠ g1_1_)); clear BK90020; clear BK90021; clear HB; have BK90020 := n0_; have BK90021 := n1_; have HB := n2_; have BK158 := n3_; have GW158 := n4_; have GE158 := n5_; have NB90020_158 := n6_; have NB158_90020 := n7_; have NB90021_158 := n8_; have NB158_90021 := n9_; clear n0_ n1_ n2_ n3_ n4_ n5_ n6_ n7_ n8_ n9_; clear hb hbox hg; have hnb8 := NB158_90020.out; have hnc8 := NB90020_158.out; have hnb9 := NB158_90021.out; have hnc9 := NB90021_158.out; have hcz10_0 : w7.cell? ⟨gb158, 0, none⟩ = some (.int .i64 a0_0) := (blk_cell BK158.out 0).trans rfl; have hcz10_1 : w7.cell? ⟨gb158, 1, none⟩ = some (.slice A0_1 l0_1.length c0_1) := (blk_cell BK158.out 1).trans rfl; have hfz10_0 := blk_frozen BK158.out 0; have hfz10_1 := blk_frozen BK158.out 1) | ((with_reducible refine gate_callee (f := 45) rfl ?_); refine goesL_ (some 7) rfl rfl Try.func45 (by kernel_rfl) rfl #[.agg #[.int .i64 a0_0, .slice A0_1 l0_1.length c0_1]] rfl (by (try simp only [List.map_toArray, List.map_cons, List.map_nil]); first | done | rfl | (simp only [List.length_drop, List.length_take]; rfl)) ?_; (with_reducible refine (impl_IsSet.calls a0_0 _ _ l0_1 true _ ?side1 ?side2 A3.out).mono ?_); (case side1 => repeat (first | exact (Kd.C_below HR0_1.out HB.out) | (with_reducible refine Kd.C_alloc ?_ _) | (with_reducible refine Kd.C_drewN ?_ _) | (with_reducible refine Kd.C_drew ?_))); (case side2 => exact HC0_1.out); rintro e w11 ⟨rfl, hb⟩; refine ⟨_, rfl, ?_⟩; have n0_ := Aside0.mk (blk_below (g := g1_0_) (o := .cells #[.int .i64 a1_0_0, .slice A1_0_1 l1_0_1.length c1_0_1] 32 (0, 0)) (by (with_reducible repeat (first | refine blk_drewN ?_ _ | refine blk_drew ?_ | refine blk_alloc ?_ _)); exact BK90020.out) hb); have n1_ := Aside0.mk (blk_below (g := g1_1_) (o := .cells #[.slice A1_1_0 l1_1_0.length c1_1_0] 25 (0, 0)) (by (with_reducible repeat (first | refine blk_drewN ?_ _ | refine blk_drew ?_ | refine blk_alloc ?_ _)); exact BK90021.out) hb); have n2_ := Aside0.mk (blk_below (g := gb158) (o := .cells #[.int .i64 a0_0, .slice A0_1 l0_1.length c0_1] 32 (0, 0)) (by (with_reducible repeat (first | refine blk_drewN ?_ _ | refine blk_drew ?_ | refine blk_alloc ?_ _)); exact BK158.out) hb); have n3_ := Aside0.mk (below_step (by repeat (first | (with_reducible first | exact HB.out | apply below_alloc | apply pw_below_drewN | apply below_drew1 | refine below_set ?_ GE158.out) | exact HB.out)) hb); clear BK90020; clear BK90021; clear BK158; clear HB; have BK90020 := n0_; have BK90021 := n1_; have BK158 := n2_; have HB := n3_; clear n0_ n1_ n2_ n3_; (try clear hb); (try clear hb2); (try clear hk); (try clear hi)))
   (with_reducible refine (impl_IsFilling_1.calls k g1_0_ a1_0_0 A1_0_1 c1_0_1 l1_0_1 g1_1_ A1_1_0 c1_1_0 l1_1_0 true _ ?side1_q13 ?side2_q13 ?side3_q13 ?side4_q13 ?side5_q13 ?side6_q13 A5.out).mono ?_); (case side1_q13 => repeat (first | exact (Kd.C_below HR1_0_1.out HB.out) | (with_reducible refine Kd.C_alloc ?_ _) | (with_reducible refine Kd.C_drewN ?_ _) | (with_reducible refine Kd.C_drew ?_))); (case side2_q13 => exact HC1_0_1.out); (case side3_q13 => repeat (first | exact (Kd.C_below HR1_1_0.out HB.out) | (with_reducible refine Kd.C_alloc ?_ _) | (with_reducible refine Kd.C_drewN ?_ _) | (with_reducible refine Kd.C_drew ?_))); (case side4_q13 => exact HC1_1_0.out); (case side5_q13 => exact (by (with_reducible repeat (first | refine blk_drewN ?_ _ | refine blk_drew ?_ | refine blk_alloc ?_ _)); exact BK90020.out)); (case side6_q13 => exact (by (with_reducible repeat (first | refine blk_drewN ?_ _ | refine blk_drew ?_ | refine blk_alloc ?_ _)); exact BK90021.out))
   rintro e w12 ⟨rfl, hb⟩
   have n0_ := Aside0.mk (blk_below (g := g1_0_) (o := .cells #[.int .i64 a1_0_0, .slice A1_0_1 l1_0_1.length c1_0_1] 32 (0, 0)) (by (with_reducible repeat (first | refine blk_drewN ?_ _ | refine blk_drew ?_ | refine blk_alloc ?_ _)); exact BK90020.out) hb)
   have n1_ := Aside0.mk (blk_below (g := g1_1_) (o := .cells #[.slice A1_1_0 l1_1_0.length c1_1_0] 25 (0, 0)) (by (with_reducible repeat (first | refine blk_drewN ?_ _ | refine blk_drew ?_ | refine blk_alloc ?_ _)); exact BK90021.out) hb)
   have n2_ := Aside0.mk (blk_below (g := gb158) (o := .cells #[.int .i64 a0_0, .slice A0_1 l0_1.length c0_1] 32 (0, 0)) (by (with_reducible repeat (first | refine blk_drewN ?_ _ | refine blk_drew ?_ | refine blk_alloc ?_ _)); exact BK158.out) hb)
   have n3_ := Aside0.mk (below_step (by repeat (first | (with_reducible first | exact HB.out | apply below_alloc | apply pw_below_drewN | apply below_drew1 | refine below_set ?_ GE158.out) | exact HB.out)) hb)
   clear BK90020
   clear BK90021
   clear BK158
   clear HB
   have BK90020 := n0_
   have BK90021 := n1_
   have BK158 := n2_
   have HB := n3_
   clear n0_ n1_ n2_ n3_
   (try clear hb)
   (try clear hb2)
   (try clear hk)
   (try clear hi)
   go_wp2_with fail
   go_ret
   exact ⟨by first | rfl | (simp [errW_none, errW_some] <;> rfl) | (simp [*, errW_none, errW_some] <;> rfl), by repeat (first | (with_reducible first | exact HB.out | apply below_alloc | apply pw_below_drewN | apply below_drew1 | refine below_set ?_ GE158.out) | exact HB.out)⟩
  ·replace c6 := Bool.eq_false_iff.mpr c6
   subst c6
   have H1 : (some 2) = some r := by rw [if_neg (show ¬ (false = true) by decide)] at H; exact H
   clear H
   have H := H1
   clear H1
   obtain rfl := Option.some.inj H
   go_enter Try.func31, Try.ntmps31
   go_wp2_with (first | ((with_reducible refine gate_dst (N := 2) rfl ?_); refine box_event ?hg (N := 2) ?hd (cs := #[.int .i64 a0_0, .slice A0_1 l0_1.length c0_1]) (t := 32) ?hr ?_; (case hd => rfl); (case hg => rfl); (case hr => first | (go_simp; done) | (go_simp; rfl)); intro gb158 hg w14 hbox hb; have n0_ := Aside0.mk (blk_below (g := g1_0_) (o := .cells #[.int .i64 a1_0_0, .slice A1_0_1 l1_0_1.length c1_0_1] 32 (0, 0)) (by (with_reducible repeat (first | refine blk_drewN ?_ _ | refine blk_drew ?_ | refine blk_alloc ?_ _)); exact BK90020.out) hb); have n1_ := Aside0.mk (blk_below (g := g1_1_) (o := .cells #[.slice A1_1_0 l1_1_0.length c1_1_0] 25 (0, 0)) (by (with_reducible repeat (first | refine blk_drewN ?_ _ | refine blk_drew ?_ | refine blk_alloc ?_ _)); exact BK90021.out) hb); have n2_ := Aside0.mk (below_step (by repeat (first | (with_reducible first | exact HB.out | apply below_alloc | apply pw_below_drewN | apply below_drew1) | exact HB.out)) hb); have n3_ := Aside0.mk (hbox); have n4_ := Aside0.mk ((by rw [hg]; exact (below_size (by repeat (first | (with_reducible first | exact HB.out | apply below_alloc | apply pw_below_drewN | apply below_drew1) | exact HB.out))) : w.heap.size ≤ gb158)); have n5_ := Aside0.mk ((by rw [hg]; exact (below_size (by repeat (first | (with_reducible first | exact HB.out | apply below_alloc | apply pw_below_drewN | apply below_drew1) | exact HB.out))) : w.heap.size ≤ gb158)); have n6_ := Aside0.mk ((by rw [hg]; exact Nat.ne_of_lt (blk_lt (g := g1_0_) (o := .cells #[.int .i64 a1_0_0, .slice A1_0_1 l1_0_1.length c1_0_1] 32 (0, 0)) (by (with_reducible repeat (first | refine blk_drewN ?_ _ | refine blk_drew ?_ | refine blk_alloc ?_ _)); exact BK90020.out)) : g1_0_ ≠ gb158)); have n7_ := Aside0.mk ((by rw [hg]; exact Nat.ne_of_gt (blk_lt (g := g1_0_) (o := .cells #[.int .i64 a1_0_0, .slice A1_0_1 l1_0_1.length c1_0_1] 32 (0, 0)) (by (with_reducible repeat (first | refine blk_drewN ?_ _ | refine blk_drew ?_ | refine blk_alloc ?_ _)); exact BK90020.out)) : gb158 ≠ g1_0_)); have n8_ := Aside0.mk ((by rw [hg]; exact Nat.ne_of_lt (blk_lt (g := g1_1_) (o := .cells #[.slice A1_1_0 l1_1_0.length c1_1_0] 25 (0, 0)) (by (with_reducible repeat (first | refine blk_drewN ?_ _ | refine blk_drew ?_ | refine blk_alloc ?_ _)); exact BK90021.out)) : g1_1_ ≠ gb158)); have n9_ := Aside0.mk ((by rw [hg]; exact Nat.ne_of_gt (blk_lt (g := g1_1_) (o := .cells #[.slice A1_1_0 l1_1_0.length c1_1_0] 25 (0, 0)) (by (with_reducible repeat (first | refine blk_drewN ?_ _ | refine blk_drew ?_ | refine blk_alloc ?_ _)); exact BK90021.out)) : gb158 ≠ g1_1_)); clear BK90020; clear BK90021; clear HB; have BK90020 := n0_; have BK90021 := n1_; have HB := n2_; have BK158 := n3_; have GW158 := n4_; have GE158 := n5_; have NB90020_158 := n6_; have NB158_90020 := n7_; have NB90021_158 := n8_; have NB158_90021 := n9_; clear n0_ n1_ n2_ n3_ n4_ n5_ n6_ n7_ n8_ n9_; clear hb hbox hg; have hnb15 := NB158_90020.out; have hnc15 := NB90020_158.out; have hnb16 := NB158_90021.out; have hnc16 := NB90021_158.out; have hcz17_0 : w14.cell? ⟨gb158, 0, none⟩ = some (.int .i64 a0_0) := (blk_cell BK158.out 0).trans rfl; have hcz17_1 : w14.cell? ⟨gb158, 1, none⟩ = some (.slice A0_1 l0_1.length c0_1) := (blk_cell BK158.out 1).trans rfl; have hfz17_0 := blk_frozen BK158.out 0; have hfz17_1 := blk_frozen BK158.out 1) | ((with_reducible refine gate_callee (f := 45) rfl ?_); refine goesL_ (some 7) rfl rfl Try.func45 (by kernel_rfl) rfl #[.agg #[.int .i64 a0_0, .slice A0_1 l0_1.length c0_1]] rfl (by (try simp only [List.map_toArray, List.map_cons, List.map_nil]); first | done | rfl | (simp only [List.length_drop, List.length_take]; rfl)) ?_; (with_reducible refine (impl_IsSet.calls a0_0 _ _ l0_1 true _ ?side1 ?side2 A3.out).mono ?_); (case side1 => repeat (first | exact (Kd.C_below HR0_1.out HB.out) | (with_reducible refine Kd.C_alloc ?_ _) | (with_reducible refine Kd.C_drewN ?_ _) | (with_reducible refine Kd.C_drew ?_))); (case side2 => exact HC0_1.out); rintro e w18 ⟨rfl, hb⟩; refine ⟨_, rfl, ?_⟩; have n0_ := Aside0.mk (blk_below (g := g1_0_) (o := .cells #[.int .i64 a1_0_0, .slice A1_0_1 l1_0_1.length c1_0_1] 32 (0, 0)) (by (with_reducible repeat (first | refine blk_drewN ?_ _ | refine blk_drew ?_ | refine blk_alloc ?_ _)); exact BK90020.out) hb); have n1_ := Aside0.mk (blk_below (g := g1_1_) (o := .cells #[.slice A1_1_0 l1_1_0.length c1_1_0] 25 (0, 0)) (by (with_reducible repeat (first | refine blk_drewN ?_ _ | refine blk_drew ?_ | refine blk_alloc ?_ _)); exact BK90021.out) hb); have n2_ := Aside0.mk (blk_below (g := gb158) (o := .cells #[.int .i64 a0_0, .slice A0_1 l0_1.length c0_1] 32 (0, 0)) (by (with_reducible repeat (first | refine blk_drewN ?_ _ | refine blk_drew ?_ | refine blk_alloc ?_ _)); exact BK158.out) hb); have n3_ := Aside0.mk (below_step (by repeat (first | (with_reducible first | exact HB.out | apply below_alloc | apply pw_below_drewN | apply below_drew1 | refine below_set ?_ GE158.out) | exact HB.out)) hb); clear BK90020; clear BK90021; clear BK158; clear HB; have BK90020 := n0_; have BK90021 := n1_; have BK158 := n2_; have HB := n3_; clear n0_ n1_ n2_ n3_; (try clear hb); (try clear hb2); (try clear hk); (try clear hi)))
   (with_reducible refine (impl_IsFilling_1.calls k g1_0_ a1_0_0 A1_0_1 c1_0_1 l1_0_1 g1_1_ A1_1_0 c1_1_0 l1_1_0 false _ ?side1_q20 ?side2_q20 ?side3_q20 ?side4_q20 ?side5_q20 ?side6_q20 A5.out).mono ?_); (case side1_q20 => repeat (first | exact (Kd.C_below HR1_0_1.out HB.out) | (with_reducible refine Kd.C_alloc ?_ _) | (with_reducible refine Kd.C_drewN ?_ _) | (with_reducible refine Kd.C_drew ?_))); (case side2_q20 => exact HC1_0_1.out); (case side3_q20 => repeat (first | exact (Kd.C_below HR1_1_0.out HB.out) | (with_reducible refine Kd.C_alloc ?_ _) | (with_reducible refine Kd.C_drewN ?_ _) | (with_reducible refine Kd.C_drew ?_))); (case side4_q20 => exact HC1_1_0.out); (case side5_q20 => exact (by (with_reducible repeat (first | refine blk_drewN ?_ _ | refine blk_drew ?_ | refine blk_alloc ?_ _)); exact BK90020.out)); (case side6_q20 => exact (by (with_reducible repeat (first | refine blk_drewN ?_ _ | refine blk_drew ?_ | refine blk_alloc ?_ _)); exact BK90021.out))
   rintro e w19 ⟨rfl, hb⟩
   have n0_ := Aside0.mk (blk_below (g := g1_0_) (o := .cells #[.int .i64 a1_0_0, .slice A1_0_1 l1_0_1.length c1_0_1] 32 (0, 0)) (by (with_reducible repeat (first | refine blk_drewN ?_ _ | refine blk_drew ?_ | refine blk_alloc ?_ _)); exact BK90020.out) hb)
   have n1_ := Aside0.mk (blk_below (g := g1_1_) (o := .cells #[.slice A1_1_0 l1_1_0.length c1_1_0] 25 (0, 0)) (by (with_reducible repeat (first | refine blk_drewN ?_ _ | refine blk_drew ?_ | refine blk_alloc ?_ _)); exact BK90021.out) hb)
   have n2_ := Aside0.mk (blk_below (g := gb158) (o := .cells #[.int .i64 a0_0, .slice A0_1 l0_1.length c0_1] 32 (0, 0)) (by (with_reducible repeat (first | refine blk_drewN ?_ _ | refine blk_drew ?_ | refine blk_alloc ?_ _)); exact BK158.out) hb)
   have n3_ := Aside0.mk (below_step (by repeat (first | (with_reducible first | exact HB.out | apply below_alloc | apply pw_below_drewN | apply below_drew1 | refine below_set ?_ GE158.out) | exact HB.out)) hb)
   clear BK90020
   clear BK90021
   clear BK158
   clear HB
   have BK90020 := n0_
   have BK90021 := n1_
   have BK158 := n2_
   have HB := n3_
   clear n0_ n1_ n2_ n3_
   (try clear hb)
   (try clear hb2)
   (try clear hk)
   (try clear hi)
   go_wp2_with fail
   go_ret
   exact ⟨by first | rfl | (simp [errW_none, errW_some] <;> rfl) | (simp [*, errW_none, errW_some] <;> rfl), by repeat (first | (with_reducible first | exact HB.out | apply below_alloc | apply pw_below_drewN | apply below_drew1 | refine below_set ?_ GE158.out) | exact HB.out)⟩
 ·replace c4 := Bool.eq_false_iff.mpr c4
  subst c4
  have H1 : (some 1) = some r := by rw [if_neg (show ¬ (false = true) by decide)] at H; exact H
  clear H
  have H := H1
  clear H1
  obtain rfl := Option.some.inj H
  go_enter Try.func31, Try.ntmps31
  go_wp2_with (first | ((with_reducible refine gate_dst (N := 2) rfl ?_); refine box_event ?hg (N := 2) ?hd (cs := #[.int .i64 a0_0, .slice A0_1 l0_1.length c0_1]) (t := 32) ?hr ?_; (case hd => rfl); (case hg => rfl); (case hr => first | (go_simp; done) | (go_simp; rfl)); intro gb158 hg w21 hbox hb; have n0_ := Aside0.mk (blk_below (g := g1_0_) (o := .cells #[.int .i64 a1_0_0, .slice A1_0_1 l1_0_1.length c1_0_1] 32 (0, 0)) (by (with_reducible repeat (first | refine blk_drewN ?_ _ | refine blk_drew ?_ | refine blk_alloc ?_ _)); exact BK90020.out) hb); have n1_ := Aside0.mk (blk_below (g := g1_1_) (o := .cells #[.slice A1_1_0 l1_1_0.length c1_1_0] 25 (0, 0)) (by (with_reducible repeat (first | refine blk_drewN ?_ _ | refine blk_drew ?_ | refine blk_alloc ?_ _)); exact BK90021.out) hb); have n2_ := Aside0.mk (below_step (by repeat (first | (with_reducible first | exact HB.out | apply below_alloc | apply pw_below_drewN | apply below_drew1) | exact HB.out)) hb); have n3_ := Aside0.mk (hbox); have n4_ := Aside0.mk ((by rw [hg]; exact (below_size (by repeat (first | (with_reducible first | exact HB.out | apply below_alloc | apply pw_below_drewN | apply below_drew1) | exact HB.out))) : w.heap.size ≤ gb158)); have n5_ := Aside0.mk ((by rw [hg]; exact (below_size (by repeat (first | (with_reducible first | exact HB.out | apply below_alloc | apply pw_below_drewN | apply below_drew1) | exact HB.out))) : w.heap.size ≤ gb158)); have n6_ := Aside0.mk ((by rw [hg]; exact Nat.ne_of_lt (blk_lt (g := g1_0_) (o := .cells #[.int .i64 a1_0_0, .slice A1_0_1 l1_0_1.length c1_0_1] 32 (0, 0)) (by (with_reducible repeat (first | refine blk_drewN ?_ _ | refine blk_drew ?_ | refine blk_alloc ?_ _)); exact BK90020.out)) : g1_0_ ≠ gb158)); have n7_ := Aside0.mk ((by rw [hg]; exact Nat.ne_of_gt (blk_lt (g := g1_0_) (o := .cells #[.int .i64 a1_0_0, .slice A1_0_1 l1_0_1.length c1_0_1] 32 (0, 0)) (by (with_reducible repeat (first | refine blk_drewN ?_ _ | refine blk_drew ?_ | refine blk_alloc ?_ _)); exact BK90020.out)) : gb158 ≠ g1_0_)); have n8_ := Aside0.mk ((by rw [hg]; exact Nat.ne_of_lt (blk_lt (g := g1_1_) (o := .cells #[.slice A1_1_0 l1_1_0.length c1_1_0] 25 (0, 0)) (by (with_reducible repeat (first | refine blk_drewN ?_ _ | refine blk_drew ?_ | refine blk_alloc ?_ _)); exact BK90021.out)) : g1_1_ ≠ gb158)); have n9_ := Aside0.mk ((by rw [hg]; exact Nat.ne_of_gt (blk_lt (g := g1_1_) (o := .cells #[.slice A1_1_0 l1_1_0.length c1_1_0] 25 (0, 0)) (by (with_reducible repeat (first | refine blk_drewN ?_ _ | refine blk_drew ?_ | refine blk_alloc ?_ _)); exact BK90021.out)) : gb158 ≠ g1_1_)); clear BK90020; clear BK90021; clear HB; have BK90020 := n0_; have BK90021 := n1_; have HB := n2_; have BK158 := n3_; have GW158 := n4_; have GE158 := n5_; have NB90020_158 := n6_; have NB158_90020 := n7_; have NB90021_158 := n8_; have NB158_90021 := n9_; clear n0_ n1_ n2_ n3_ n4_ n5_ n6_ n7_ n8_ n9_; clear hb hbox hg; have hnb22 := NB158_90020.out; have hnc22 := NB90020_158.out; have hnb23 := NB158_90021.out; have hnc23 := NB90021_158.out; have hcz24_0 : w21.cell? ⟨gb158, 0, none⟩ = some (.int .i64 a0_0) := (blk_cell BK158.out 0).trans rfl; have hcz24_1 : w21.cell? ⟨gb158, 1, none⟩ = some (.slice A0_1 l0_1.length c0_1) := (blk_cell BK158.out 1).trans rfl; have hfz24_0 := blk_frozen BK158.out 0; have hfz24_1 := blk_frozen BK158.out 1) | ((with_reducible refine gate_callee (f := 45) rfl ?_); refine goesL_ (some 7) rfl rfl Try.func45 (by kernel_rfl) rfl #[.agg #[.int .i64 a0_0, .slice A0_1 l0_1.length c0_1]] rfl (by (try simp only [List.map_toArray, List.map_cons, List.map_nil]); first | done | rfl | (simp only [List.length_drop, List.length_take]; rfl)) ?_; (with_reducible refine (impl_IsSet.calls a0_0 _ _ l0_1 false _ ?side1 ?side2 A3.out).mono ?_); (case side1 => repeat (first | exact (Kd.C_below HR0_1.out HB.out) | (with_reducible refine Kd.C_alloc ?_ _) | (with_reducible refine Kd.C_drewN ?_ _) | (with_reducible refine Kd.C_drew ?_))); (case side2 => exact HC0_1.out); rintro e w25 ⟨rfl, hb⟩; refine ⟨_, rfl, ?_⟩; have n0_ := Aside0.mk (blk_below (g := g1_0_) (o := .cells #[.int .i64 a1_0_0, .slice A1_0_1 l1_0_1.length c1_0_1] 32 (0, 0)) (by (with_reducible repeat (first | refine blk_drewN ?_ _ | refine blk_drew ?_ | refine blk_alloc ?_ _)); exact BK90020.out) hb); have n1_ := Aside0.mk (blk_below (g := g1_1_) (o := .cells #[.slice A1_1_0 l1_1_0.length c1_1_0] 25 (0, 0)) (by (with_reducible repeat (first | refine blk_drewN ?_ _ | refine blk_drew ?_ | refine blk_alloc ?_ _)); exact BK90021.out) hb); have n2_ := Aside0.mk (blk_below (g := gb158) (o := .cells #[.int .i64 a0_0, .slice A0_1 l0_1.length c0_1] 32 (0, 0)) (by (with_reducible repeat (first | refine blk_drewN ?_ _ | refine blk_drew ?_ | refine blk_alloc ?_ _)); exact BK158.out) hb); have n3_ := Aside0.mk (below_step (by repeat (first | (with_reducible first | exact HB.out | apply below_alloc | apply pw_below_drewN | apply below_drew1 | refine below_set ?_ GE158.out) | exact HB.out)) hb); clear BK90020; clear BK90021; clear BK158; clear HB; have BK90020 := n0_; have BK90021 := n1_; have BK158 := n2_; have HB := n3_; clear n0_ n1_ n2_ n3_; (try clear hb); (try clear hb2); (try clear hk); (try clear hi)))
  go_ret
  exact ⟨by first | rfl | (simp [errW_none, errW_some] <;> rfl) | (simp [*, errW_none, errW_some] <;> rfl), by repeat (first | (with_reducible first | exact HB.out | apply below_alloc | apply pw_below_drewN | apply below_drew1 | refine below_set ?_ GE158.out) | exact HB.out)⟩
end Go.Proofs.Ytgdmflmglkakgaa.Q

/-
  Parts of the proof, in their order: Q0, Base, Own, Own2, Own3, Bridge, Counts, QSpecL01Own, QSpecL02Ways, PWays, QSpecL02Each, QSpecL02Total, PCount, QImplAnyColour.
-/
import Derived.Test.YtenlcakpcbmmdaaProg
import Derived.Below
import Derived.Deep.Draws
import Derived.Deep.AppendLies
import Derived.Maps.AppendAt
import Derived.OwnWalk
import Derived.Laws.BytesArg
import Derived.Laws.MakeOwn
import Derived.Laws.OwnMore
import Derived.Deep.OwnRows
import Derived.Tactics
import Derived.Lib.ConvBytes
import Derived.Laws.Slices
import Derived.WalkKit
import Derived.KernelRfl
import Derived.RowKit3
import Derived.Deep.LoopGhost
import Derived.Deep.QuietTactic
import Derived.BigQuiet
import Derived.WideLaws
import Derived.Deep.DeepCutAuto
import Derived.Deep.CutBlock
import Derived.Deep.RegionHeld3
import Derived.Laws.Rows
import Derived.Lib.AppendStr
import Derived.ArgAppend
import Derived.Laws.IdiomCopy
import Derived.OrdersHeld
import Derived.Laws.BitsLemmas
import Derived.RowKit
import Derived.Test.YtenlcakpcbmmdaaWWords
import Derived.Test.YtenlcakpcbmmdaaWLast
import Derived.Test.YtenlcakpcbmmdaaWTab
import Derived.Test.YtenlcakpcbmmdaaWFour
import Derived.Test.YtenlcakpcbmmdaaWQPut
import Derived.Test.YtenlcakpcbmmdaaWApart
import Derived.Test.YtenlcakpcbmmdaaWArr
import Derived.Test.YtenlcakpcbmmdaaWZeros
import Derived.Test.YtenlcakpcbmmdaaWFoot
import Derived.Test.YtenlcakpcbmmdaaWKept
import Derived.Test.YtenlcakpcbmmdaaWShare
import Derived.Test.YtenlcakpcbmmdaaWN
import Derived.Test.YtenlcakpcbmmdaaWFootNe
import Derived.Test.YtenlcakpcbmmdaaWAt
import Derived.Test.YtenlcakpcbmmdaaWEqStruct
import Derived.Test.YtenlcakpcbmmdaaWRepsOne
import Derived.Test.YtenlcakpcbmmdaaWInv
import Derived.Test.YtenlcakpcbmmdaaWInvWords
import Derived.Test.YtenlcakpcbmmdaaWGuard
import Derived.Test.YtenlcakpcbmmdaaWNEv
import Derived.Test.YtenlcakpcbmmdaaWMore
import Derived.Handy
import Derived.Outline
import Derived.Lib.Hide
import Derived.Shelf.Abstract
import Derived.StillTailTactics
namespace Go.Proofs.Ytenlcakpcbmmdaa.Q
open Go.RowKit Go.Proofs.YtenlcakpcbmmdaaW.PrintWords Go.Proofs.YtenlcakpcbmmdaaW.PrintLast Go.Proofs.YtenlcakpcbmmdaaW.PrintMore
attribute [local go_sem] max2_int min2_int max_two min_two max_three min_three max_four min_four
set_option linter.unusedVariables false
set_option linter.unusedSimpArgs false
def errW : Option Int → Value
 | none => .nilIface
 | some c => .iface 0 (.int .i64 c)
theorem errW_none : errW none = .nilIface := rfl
theorem errW_some (c : Int) : errW (some c) = .iface 0 (.int .i64 c) := rfl
theorem info2 : (Try.prog.info? 2).map (fun i => (i.zero, i.size, i.bytes)) = some (some (.int .i64 0), 1, 8) := by kernel_rfl
theorem info34 : (Try.prog.info? 34).map (fun i => (i.zero, i.size, i.bytes)) = some (some (.slice none 0 0), 1, 24) := by kernel_rfl
theorem info77 : (Try.prog.info? 77).map (fun i => (i.zero, i.size, i.bytes)) = some (some (.agg #[(.int .i64 0), (.int .i64 0), (.int .i64 0), (.int .i64 0)]), 4, 32) := by kernel_rfl
structure S77 where
 f0 : Int
 f1 : Int
 f2 : Int
 f3 : Int
def z77 : S77 := ⟨(0 : Int), (0 : Int), (0 : Int), (0 : Int)⟩
def k77 : Kd S77 := Kd.iso (Kd.pair (Kd.int .i64) (Kd.pair (Kd.int .i64) (Kd.pair (Kd.int .i64) (Kd.int .i64)))) (fun x : S77 => (x.f0, x.f1, x.f2, x.f3))
theorem k77_open {w : World} {x : S77} {cs : List Value} (h : k77.K w x cs) : cs = [.int .i64 x.f0, .int .i64 x.f1, .int .i64 x.f2, .int .i64 x.f3] := by
 obtain ⟨_, _, rfl, rfl, ⟨_, _, rfl, rfl, ⟨_, _, rfl, rfl, rfl⟩⟩⟩ := h
 exact rfl
theorem k77_mk (w : World) (x : S77)  : k77.K w x [.int .i64 x.f0, .int .i64 x.f1, .int .i64 x.f2, .int .i64 x.f3] := ⟨[.int .i64 x.f0], [.int .i64 x.f1, .int .i64 x.f2, .int .i64 x.f3], rfl, rfl, ⟨[.int .i64 x.f1], [.int .i64 x.f2, .int .i64 x.f3], rfl, rfl, ⟨[.int .i64 x.f2], [.int .i64 x.f3], rfl, rfl, rfl⟩⟩⟩
def rd_T77 (xs : List S77) (i : Int) : S77 := xs.getD i.toNat z77
theorem at_T77 {w : World} {A : Option Addr} {n : Nat} {xs : List S77} (h : Kd.C k77 w A n xs) (i : Int) (h0 : 0 ≤ i) (h1 : i < n) : ∃ ad , A = some ad ∧ w.cell? (ad.add (i.toNat * 4)) = some (.int .i64 (rd_T77 xs i).f0) ∧ w.cell? ⟨(ad.add (i.toNat * 4)).block, (ad.add (i.toNat * 4)).off + 1, none⟩ = some (.int .i64 (rd_T77 xs i).f1) ∧ w.cell? ⟨(ad.add (i.toNat * 4)).block, (ad.add (i.toNat * 4)).off + 2, none⟩ = some (.int .i64 (rd_T77 xs i).f2) ∧ w.cell? ⟨(ad.add (i.toNat * 4)).block, (ad.add (i.toNat * 4)).off + 3, none⟩ = some (.int .i64 (rd_T77 xs i).f3) := by
 obtain ⟨ad, c, e, _, hK, hc0⟩ := Kd.C_get h z77 i h0 h1
 have hc : ∀ j u, c[j]? = some u → w.cell? (ad.add (i.toNat * 4 + j)) = some u := hc0
 obtain rfl := k77_open hK
 exact ⟨ad, e, hc 0 _ rfl, by rw [← add_field _ _ 1 (by omega)]; exact hc 1 _ rfl, by rw [← add_field _ _ 2 (by omega)]; exact hc 2 _ rfl, by rw [← add_field _ _ 3 (by omega)]; exact hc 3 _ rfl⟩
structure S30 where
 f0 : Int
 f1 : (List S77)
def rd_L5 (xs : List (List Int)) (i : Int) : (List Int) := xs.getD i.toNat ([] : List Int)
theorem at_L5 {w : World} {A : Option Addr} {n : Nat} {xs : List (List Int)} (h : Kd.C (Kd.slice 2 (Kd.int .i64)) w A n xs) (i : Int) (h0 : 0 ≤ i) (h1 : i < n) : ∃ ad A0 c0, A = some ad ∧ w.cell? (ad.add i.toNat) = some (.slice A0 (rd_L5 xs i).length c0) ∧ (rd_L5 xs i).length ≤ c0 ∧ (Kd.int .i64).C w A0 (rd_L5 xs i).length (rd_L5 xs i) := by
 obtain ⟨ad, c, e, _, hK, hc0⟩ := Kd.C_get h ([] : List Int) i h0 h1
 have hc : ∀ j u, c[j]? = some u → w.cell? (ad.add (i.toNat * 1 + j)) = some u := hc0
 obtain ⟨A0, c0, rfl, l0, g0⟩ := hK
 exact ⟨ad, A0, c0, e, by have hq := hc 0 _ rfl; rwa [Nat.mul_one, Nat.add_zero] at hq, l0, g0⟩
end Go.Proofs.Ytenlcakpcbmmdaa.Q
namespace Go.Proofs.Ytenlcakpcbmmdaa
open Go Go.RowKit Go.Proofs
set_option linter.unusedVariables false
set_option linter.unusedSimpArgs false
structure GP where
  d : Nat
  os : Array Obj
deriving Inhabited
def gro (w : World) (p : GP) : World := { w with heap := w.heap ++ p.os, drawn := p.d }
theorem gro_block (w : World) (p : GP) {b : Nat} (h : b < w.heap.size) : (gro w p).heap[b]? = w.heap[b]? := by
  simp [gro, Array.getElem?_append, h]
@[go_sem] theorem gro_cell (w : World) (p : GP) (b o : Nat) (h : b < w.heap.size) : (gro w p).cell? ⟨b, o, none⟩ = w.cell? ⟨b, o, none⟩ := by
  simp only [World.cell?, gro_block w p h]
@[go_sem] theorem gro_frozen (w : World) (p : GP) (b o : Nat) (h : b < w.heap.size) : (gro w p).frozen? ⟨b, o, none⟩ = w.frozen? ⟨b, o, none⟩ := by
  simp only [World.frozen?, gro_block w p h]
theorem gro_below (w : World) (p : GP) : Below w.heap.size w (gro w p) := ⟨rfl, rfl, rfl, by simp [gro], fun _ h => gro_block w p h⟩
theorem below_gro {w w' : World} (h : Below w.heap.size w w') : ∃ p, w' = gro w p := by
  refine ⟨⟨w'.drawn, w'.heap.extract w.heap.size w'.heap.size⟩, ?_⟩
  have e : w.heap ++ w'.heap.extract w.heap.size w'.heap.size = w'.heap := by
    apply Array.ext_getElem?
    intro i
    rw [Array.getElem?_append]
    split
    · rename_i hi; exact (h.block i hi).symm
    · rename_i hi
      have hs := h.size
      rw [Array.getElem?_extract]
      simp only [Nat.min_self]
      by_cases h2 : i - w.heap.size < w'.heap.size - w.heap.size
      · rw [if_pos h2]; congr 1; omega
      · rw [if_neg h2, Array.getElem?_eq_none (by omega)]
  cases w' with
  | mk hp tp dr os ou =>
    simp only [gro] at *
    have h1 := h.os; have h2 := h.tape; have h3 := h.output
    simp only at h1 h2 h3
    rw [e, h1, h2, h3]
theorem gro_gro (w : World) (p : GP) {w' : World} (h : Below (gro w p).heap.size (gro w p) w') : ∃ q, w' = gro w q :=
  below_gro ((gro_below w p).trans (h.mono (gro_below w p).size))
theorem quiet_call {P : Program} {f : FuncId} {args : Array Value} {w : World} {p : GP} {v : Value}
    (h : Calls P f args (gro w p) fun e w' => e = .returned v ∧ Below (gro w p).heap.size (gro w p) w') : Calls P f args (gro w p) fun e w'' => e = .returned v ∧ ∃ q, w'' = gro w q :=
  h.mono fun _ _ ⟨he, hb⟩ => ⟨he, gro_gro w p hb⟩
theorem quiet_call0 {P : Program} {f : FuncId} {args : Array Value} {w : World} {p : GP} {v : Value}
    (h : Calls P f args (gro w p) fun e w' => e = .returned v ∧ gro w p = w') : Calls P f args (gro w p) fun e w'' => e = .returned v ∧ ∃ q, w'' = gro w q :=
  h.mono fun _ _ ⟨he, hb⟩ => ⟨he, p, hb.symm⟩
theorem wpQuiet_mono {P : Program} {ops : Array Oper} {C : World → Prop} {Q Q' : Act → Prop} (hq : ∀ a, Q a → Q' a) :
    ∀ (l : List Oper) (a : Act), wpQuiet P ops C Q l a → wpQuiet P ops C Q' l a := by
  intro l
  induction l with
  | nil => intro a h; exact hq _ h
  | cons o rest ih =>
    intro a h
    simp only [wpQuiet] at h ⊢
    by_cases hw : Region.wanted o (yielded ops a.tmps) = true
    · rw [if_pos hw] at h ⊢
      obtain ⟨v, h1, h2⟩ := h
      exact ⟨v, h1, ih _ h2⟩
    · rw [if_neg hw] at h ⊢
      exact ih _ h
theorem wp_region_gro {P : Program} {id : Nat} {Q : Exit → Act → World → Prop} {a : Act} {w : World} {l : List Oper} (hm : P.follows .mixedOrders = true) (hB : Region.lexB .any l.toArray = true)
    (h : wpQuiet P l.toArray (fun w' => ∃ p : GP, w' = gro w p) (fun a' => ∀ w', Below w.heap.size w w' → Q .normal a' w') l a) : (Code.region id l.toArray true).wp P Q a w := by
  refine wp_region_quiet (C := fun w' => ∃ p : GP, w' = gro w p) hm hB ⟨⟨w.drawn + 1, #[]⟩, by simp [gro]⟩ ?_
  exact wpQuiet_mono (fun a' h w' ⟨p, hp⟩ => by subst hp; exact h _ (gro_below w p)) _ _ (by simpa using h)
def inB (n lo hi : Int) : Bool := decide (lo ≤ n) && decide (n ≤ hi)
structure T4 where
  a : Int
  b : Int
  c : Int
  d : Int
deriving DecidableEq, Inhabited
def T4.get (t : T4) (k : Nat) : Int := if k = 0 then t.a else if k = 1 then t.b else if k = 2 then t.c else t.d
def T4.arr (t : T4) : Array Value := #[.int .i64 (t.get 0), .int .i64 (t.get 1), .int .i64 (t.get 2), .int .i64 (t.get 3)]
theorem T4.cell (t : T4) (k : Nat) (h : k < 4) : t.arr[k]? = some (.int .i64 (t.get k)) := by
  match k, h with
  | 0, _ => rfl
  | 1, _ => rfl
  | 2, _ => rfl
  | 3, _ => rfl
theorem T4.ext_get {t u : T4} (h : ∀ k, k < 4 → t.get k = u.get k) : t = u := by
  have h0 := h 0 (by omega); have h1 := h 1 (by omega); have h2 := h 2 (by omega); have h3 := h 3 (by omega)
  simp [T4.get] at h0 h1 h2 h3
  cases t; cases u; simp_all
theorem ret_bool {a b : Bool} (h : a = b) : Ending.returned (.bool a) = .returned (.bool b) := by rw [h]
theorem ret_int {k : IntKind} {a b : Int} (h : a = b) : Ending.returned (.int k a) = .returned (.int k b) := by rw [h]
def tk (ts : List T4) (k : Nat) : T4 := ts.getD k default
def RT (w : World) (A : Option Addr) (ts : List T4) : Prop :=
  ∀ k, k < ts.length → ∃ b o, A = some ⟨b, o, none⟩ ∧ b < w.heap.size ∧
    w.cell? ⟨b, o + k * 4, none⟩ = some (.int .i64 ((tk ts k).get 0)) ∧ w.cell? ⟨b, o + k * 4 + 1, none⟩ = some (.int .i64 ((tk ts k).get 1)) ∧
    w.cell? ⟨b, o + k * 4 + 2, none⟩ = some (.int .i64 ((tk ts k).get 2)) ∧ w.cell? ⟨b, o + k * 4 + 3, none⟩ = some (.int .i64 ((tk ts k).get 3))
theorem RT.below {w w' : World} {A : Option Addr} {ts : List T4} (h : RT w A ts) (hb : Below w.heap.size w w') : RT w' A ts := by
  intro k hk
  obtain ⟨b, o, e, hlt, h0, h1, h2, h3⟩ := h k hk
  refine ⟨b, o, e, Nat.lt_of_lt_of_le hlt hb.size, ?_, ?_, ?_, ?_⟩
  · exact (hb.cell (p := ⟨b, _, none⟩) hlt).trans h0
  · exact (hb.cell (p := ⟨b, _, none⟩) hlt).trans h1
  · exact (hb.cell (p := ⟨b, _, none⟩) hlt).trans h2
  · exact (hb.cell (p := ⟨b, _, none⟩) hlt).trans h3
def BK (w : World) (b : Nat) (C : Array Value) (E : TypeId) : Prop := w.heap[b]? = some (.cells C E (0, 0))
theorem BK.lt {w : World} {b : Nat} {C : Array Value} {E : TypeId} (h : BK w b C E) : b < w.heap.size := (Array.getElem?_eq_some_iff.1 h).1
theorem BK.new (w : World) (C : Array Value) (E : TypeId) : BK (w.alloc (.cells C E)) w.heap.size C E := by
  show (w.heap.push _)[w.heap.size]? = _
  simp
theorem BK.alloc {w : World} {b : Nat} {C : Array Value} {E : TypeId} (h : BK w b C E) (o : Obj) : BK (w.alloc o) b C E := (Below.heap_alloc w o b h.lt).trans h
theorem BK.below {w w' : World} {b : Nat} {C : Array Value} {E : TypeId} {B : Nat} (h : BK w b C E) (hb : Below B w w') (hB : b < B) : BK w' b C E := (hb.block b hB).trans h
theorem BK.cell {w : World} {b : Nat} {C : Array Value} {E : TypeId} (h : BK w b C E) {k : Nat} {v : Value} (hc : C[k]? = some v) : w.cell? ⟨b, k, none⟩ = some v := by
  have h' : w.heap[b]? = some (.cells C E (0, 0)) := h
  simp [World.cell?, h', hc]
theorem BK.frozen {w : World} {b : Nat} {C : Array Value} {E : TypeId} (h : BK w b C E) (k : Nat) : w.frozen? ⟨b, k, none⟩ = false := by
  have h' : w.heap[b]? = some (.cells C E (0, 0)) := h
  simp [World.frozen?, h']
theorem BK.set {w : World} {b : Nat} {C : Array Value} {E : TypeId} (h : BK w b C E) (k : Nat) (v : Value) : BK (w.setCell ⟨b, k, none⟩ v) b (C.setIfInBounds k v) E := by
  have h' : w.heap[b]? = some (.cells C E (0, 0)) := h
  simp [BK, World.setCell, Array.getElem?_modify, h']
theorem name1 {P : Program} {c : Code} {Q : Exit → Act → World → Prop} {a : Act} {w : World} {C1 : Array Value} {E1 : TypeId}
    (h : ∀ W, BK W w.heap.size C1 E1 → W.heap.size = w.heap.size + 1 → Below w.heap.size w W → c.wp P Q a W) : c.wp P Q a (w.alloc (.cells C1 E1)) :=
  h _ (BK.new _ _ _) (by simp) ((Below.refl _ _).alloc (Nat.le_refl _) _)
theorem name2 {P : Program} {c : Code} {Q : Exit → Act → World → Prop} {a : Act} {w : World} {C1 C2 : Array Value} {E1 E2 : TypeId}
    (h : ∀ W, BK W w.heap.size C1 E1 → BK W (w.heap.size + 1) C2 E2 → W.heap.size = w.heap.size + 2 → Below w.heap.size w W → c.wp P Q a W) : c.wp P Q a ((w.alloc (.cells C1 E1)).alloc (.cells C2 E2)) :=
  h _ ((BK.new _ _ _).alloc _) (by simpa using BK.new (w.alloc (.cells C1 E1)) C2 E2) (by simp) (((Below.refl _ _).alloc (Nat.le_refl _) _).alloc (by simp) _)
def ik (xs : List Int) (k : Nat) : Int := xs.getD k 0
def RI (w : World) (A : Option Addr) (xs : List Int) : Prop :=
  ∀ k, k < xs.length → ∃ b o, A = some ⟨b, o, none⟩ ∧ b < w.heap.size ∧ w.cell? ⟨b, o + k, none⟩ = some (.int .i64 (ik xs k))
theorem RI.below {w w' : World} {A : Option Addr} {xs : List Int} (h : RI w A xs) (hb : Below w.heap.size w w') : RI w' A xs := by
  intro k hk
  obtain ⟨b, o, e, hlt, h0⟩ := h k hk
  exact ⟨b, o, e, Nat.lt_of_lt_of_le hlt hb.size, (hb.cell (p := ⟨b, _, none⟩) hlt).trans h0⟩
theorem cell_to {w w' : World} {a : Addr} {v : Value} (h : Below w.heap.size w w') (hc : w.cell? a = some v) : w'.cell? a = some v := (h.cell (World.block_lt_of_cell? w a hc)).trans hc
theorem lt_to {w w' : World} {b : Nat} (h : Below w.heap.size w w') (hb : b < w.heap.size) : b < w'.heap.size := Nat.lt_of_lt_of_le hb h.size
theorem below_to {w w1 w2 : World} (h : Below w.heap.size w w1) (h' : Below w1.heap.size w1 w2) : Below w.heap.size w w2 := h.trans (h'.mono h.size)
def tileB (t : T4) (hi : Int) : Bool := inB (t.get 0) 0 hi && inB (t.get 1) 0 hi && inB (t.get 2) 0 hi && inB (t.get 3) 0 hi
theorem tileB_true {t : T4} {hi : Int} {k : Nat} (hk : k ≤ 4) (h4 : ¬ k < 4) (h : ∀ j, j < k → inB (t.get j) 0 hi = true) : true = tileB t hi := by
  simp [tileB, h 0 (by omega), h 1 (by omega), h 2 (by omega), h 3 (by omega)]
theorem tileB_false {t : T4} {hi : Int} {k : Nat} (hk : k < 4) (h : inB (t.get k) 0 hi = false) : false = tileB t hi := by
  have : k = 0 ∨ k = 1 ∨ k = 2 ∨ k = 3 := by omega
  rcases this with rfl | rfl | rfl | rfl <;> simp [tileB, h]
theorem eq_of_get {t u : T4} {k : Nat} (hk : k ≤ 4) (h4 : ¬ k < 4) (h : ∀ j, j < k → t.get j = u.get j) : t = u := T4.ext_get fun j hj => h j (by omega)
def ltT (t u : T4) : Bool :=
  if t.get 0 = u.get 0 then if t.get 1 = u.get 1 then if t.get 2 = u.get 2 then decide (t.get 3 < u.get 3) else decide (t.get 2 < u.get 2) else decide (t.get 1 < u.get 1) else decide (t.get 0 < u.get 0)
theorem ltT_at {t u : T4} {k : Nat} (hk : k < 4) (h : ∀ j, j < k → t.get j = u.get j) (hne : t.get k ≠ u.get k) : decide (t.get k < u.get k) = ltT t u := by
  have : k = 0 ∨ k = 1 ∨ k = 2 ∨ k = 3 := by omega
  rcases this with rfl | rfl | rfl | rfl
  · simp [ltT, hne]
  · simp [ltT, h 0 (by omega), hne]
  · simp [ltT, h 0 (by omega), h 1 (by omega), hne]
  · simp [ltT, h 0 (by omega), h 1 (by omega), h 2 (by omega)]
theorem ltT_self (t : T4) : ltT t t = false := by simp [ltT]
def OkS (c : Int) (ts : List T4) : Prop := ∀ k, k < ts.length → tileB (tk ts k) (c - 1) = true ∧ (0 < k → ltT (tk ts (k - 1)) (tk ts k) = true)
def okB (c : Int) (ts : List T4) : Bool := (List.range ts.length).all fun k => tileB (tk ts k) (c - 1) && (decide (k = 0) || ltT (tk ts (k - 1)) (tk ts k))
theorem okB_iff (c : Int) (ts : List T4) : okB c ts = true ↔ OkS c ts := by
  simp only [okB, List.all_eq_true, List.mem_range, Bool.and_eq_true, Bool.or_eq_true, decide_eq_true_eq, OkS]
  constructor
  · intro h k hk
    obtain ⟨h1, h2⟩ := h k hk
    exact ⟨h1, fun h0 => h2.resolve_left (by omega)⟩
  · intro h k hk
    obtain ⟨h1, h2⟩ := h k hk
    refine ⟨h1, ?_⟩
    by_cases e : k = 0
    · exact .inl e
    · exact .inr (h2 (by omega))
def isS (c : Int) (ts : List T4) : Bool := inB c 1 6 && decide (ts.length ≤ 16) && okB c ts
theorem inB_iff {n lo hi : Int} : inB n lo hi = true ↔ lo ≤ n ∧ n ≤ hi := by simp [inB]
theorem isS_iff {c : Int} {ts : List T4} : isS c ts = true ↔ (1 ≤ c ∧ c ≤ 6) ∧ ts.length ≤ 16 ∧ OkS c ts := by
  simp only [isS, Bool.and_eq_true, inB_iff, decide_eq_true_eq, okB_iff, and_assoc]
def cmpI (x y : Int) : Int := if x < y then -1 else if y < x then 1 else 0
def cmpL : List Int → List Int → Int
  | [], [] => 0
  | [], _ :: _ => -1
  | _ :: _, [] => 1
  | x :: xs, y :: ys => if x < y then -1 else if y < x then 1 else cmpL xs ys
theorem drop_ik {xs : List Int} {k : Nat} (h : k < xs.length) : xs.drop k = ik xs k :: xs.drop (k + 1) := by
  rw [List.drop_eq_getElem_cons h]; simp [ik, List.getD, List.getElem?_eq_getElem h]
theorem cmpL_pre {xs ys : List Int} {k : Nat} (hx : k ≤ xs.length) (hy : k ≤ ys.length) (h : ∀ j, j < k → ik xs j = ik ys j) : cmpL xs ys = cmpL (xs.drop k) (ys.drop k) := by
  induction k with
  | zero => rfl
  | succ k ih =>
    rw [ih (by omega) (by omega) (fun j hj => h j (by omega)), drop_ik (show k < xs.length by omega), drop_ik (show k < ys.length by omega), h k (by omega)]
    simp [cmpL]
theorem cmpL_at {xs ys : List Int} {k : Nat} (hx : k < xs.length) (hy : k < ys.length) (h : ∀ j, j < k → ik xs j = ik ys j) (hne : cmpI (ik xs k) (ik ys k) ≠ 0) : cmpI (ik xs k) (ik ys k) = cmpL xs ys := by
  rw [cmpL_pre (Nat.le_of_lt hx) (Nat.le_of_lt hy) h, drop_ik hx, drop_ik hy]
  simp only [cmpL, cmpI] at *
  split
  · rfl
  · rename_i h1
    rw [if_neg h1] at hne
    split
    · rfl
    · rename_i h2; rw [if_neg h2] at hne; exact absurd rfl hne
theorem cmpI_zero {x y : Int} (h : cmpI x y = 0) : x = y := by
  unfold cmpI at h
  split at h
  · omega
  · split at h <;> omega
theorem cmpL_more {xs ys : List Int} (hlt : ys.length < xs.length) (h : ∀ j, j < ys.length → ik xs j = ik ys j) : 1 = cmpL xs ys := by
  rw [cmpL_pre (k := ys.length) (by omega) (by omega) h, drop_ik hlt]
  simp [cmpL]
theorem cmpL_end {xs ys : List Int} (hle : xs.length ≤ ys.length) (h : ∀ j, j < xs.length → ik xs j = ik ys j) : (if xs.length < ys.length then -1 else 0) = cmpL xs ys := by
  rw [cmpL_pre (k := xs.length) (by omega) hle h, List.drop_length]
  split
  · rename_i hlt; rw [drop_ik hlt]; simp [cmpL]
  · rw [List.drop_eq_nil_of_le (by omega)]; simp [cmpL]
def T4.list (t : T4) : List Int := [t.get 0, t.get 1, t.get 2, t.get 3]
theorem cmp_lt {t u : T4} : cmpL t.list u.list < 0 ↔ ltT t u = true := by
  simp only [T4.list, cmpL, ltT]
  repeat' split
  all_goals simp_all
  all_goals omega
theorem name3 {P : Program} {c : Code} {Q : Exit → Act → World → Prop} {a : Act} {w : World} {C1 C2 C3 : Array Value} {E1 E2 E3 : TypeId}
    (h : ∀ W, BK W w.heap.size C1 E1 → BK W (w.heap.size + 1) C2 E2 → BK W (w.heap.size + 2) C3 E3 → W.heap.size = w.heap.size + 3 → Below w.heap.size w W → c.wp P Q a W) :
    c.wp P Q a (((w.alloc (.cells C1 E1)).alloc (.cells C2 E2)).alloc (.cells C3 E3)) :=
  h _ (((BK.new _ _ _).alloc _).alloc _) (by simpa using (BK.new (w.alloc (.cells C1 E1)) C2 E2).alloc (.cells C3 E3)) (by simpa using BK.new ((w.alloc (.cells C1 E1)).alloc (.cells C2 E2)) C3 E3)
    (by simp) ((((Below.refl _ _).alloc (Nat.le_refl _) _).alloc (by simp) _).alloc (by simp; omega) _)
theorem add_none (g j : Nat) : (⟨g, 0, none⟩ : Addr).add j = ⟨g, j, none⟩ := by unfold Addr.add; split <;> simp_all
def tcells (ts : List T4) : List Value := ts.flatMap fun t => t.arr.toList
theorem tcells_length (ts : List T4) : (tcells ts).length = ts.length * 4 := by
  induction ts with
  | nil => rfl
  | cons t ts ih => simp only [tcells, List.flatMap_cons, List.length_append, List.length_cons] at *; rw [ih]; simp [T4.arr]; omega
theorem tcells_get {ts : List T4} {k j : Nat} (hk : k < ts.length) (hj : j < 4) : (tcells ts)[k * 4 + j]? = some (.int .i64 ((tk ts k).get j)) := by
  induction ts generalizing k with
  | nil => simp at hk
  | cons t ts ih =>
    simp only [tcells, List.flatMap_cons]
    have hl : t.arr.toList.length = 4 := by simp [T4.arr]
    cases k with
    | zero =>
      rw [List.getElem?_append_left (by omega)]
      simpa [tk] using t.cell j hj
    | succ k =>
      rw [List.getElem?_append_right (by omega), hl, show (k + 1) * 4 + j - 4 = k * 4 + j by omega]
      have := ih (k := k) (by simpa using hk)
      simpa [tcells, tk] using this
def icells (xs : List Int) : List Value := xs.map (.int .i64)
theorem icells_length (xs : List Int) : (icells xs).length = xs.length := by simp [icells]
theorem icells_get {xs : List Int} {k : Nat} (hk : k < xs.length) : (icells xs)[k]? = some (.int .i64 (ik xs k)) := by
  simp [icells, ik, List.getElem?_eq_getElem hk]
def OT (w : World) (base : Nat) (E : TypeId) (v : Value) (ts : List T4) : Prop := w.ownsRow base E 4 v ts.length (tcells ts)
def OI (w : World) (base : Nat) (E : TypeId) (v : Value) (xs : List Int) : Prop := w.ownsRow base E 1 v xs.length (icells xs)
theorem own_cell {w : World} {base : Nat} {E : TypeId} {size n : Nat} {b cap : Nat} {xs : List Value} (h : w.ownsRow base E size (.slice (some ⟨b, 0, none⟩) n cap) n xs) {j : Nat} {u : Value} (hj : xs[j]? = some u) : w.cell? ⟨b, j, none⟩ = some u := by
  have := h.cells (g := b) rfl j u hj
  rwa [add_none] at this
theorem OT.reads {w : World} {base : Nat} {E : TypeId} {v : Value} {ts : List T4} (h : OT w base E v ts) : ∃ A c, v = .slice A ts.length c ∧ RT w A ts ∧ ts.length ≤ c := by
  rcases h.2 with ⟨rfl, hn⟩ | ⟨g, cap, cur, rfl, hb, hg, hle, _⟩
  · exact ⟨none, 0, by rw [hn], fun k hk => by omega, by omega⟩
  · refine ⟨_, cap, rfl, fun k hk => ⟨g, 0, rfl, (Array.getElem?_eq_some_iff.1 hg).1, ?_, ?_, ?_, ?_⟩, hle⟩
    · rw [Nat.zero_add]; exact own_cell h (by simpa using tcells_get hk (j := 0) (by omega))
    · rw [Nat.zero_add]; exact own_cell h (tcells_get hk (by omega))
    · rw [Nat.zero_add]; exact own_cell h (tcells_get hk (by omega))
    · rw [Nat.zero_add]; exact own_cell h (tcells_get hk (by omega))
theorem OI.reads {w : World} {base : Nat} {E : TypeId} {v : Value} {xs : List Int} (h : OI w base E v xs) : ∃ A c, v = .slice A xs.length c ∧ RI w A xs ∧ xs.length ≤ c := by
  rcases h.2 with ⟨rfl, hn⟩ | ⟨g, cap, cur, rfl, hb, hg, hle, _⟩
  · exact ⟨none, 0, by rw [hn], fun k hk => by omega, by omega⟩
  · refine ⟨_, cap, rfl, fun k hk => ⟨g, 0, rfl, (Array.getElem?_eq_some_iff.1 hg).1, ?_⟩, hle⟩
    rw [Nat.zero_add]; exact own_cell h (icells_get hk)
theorem own_to {w w' : World} {base : Nat} {E : TypeId} {size n : Nat} {v : Value} {xs : List Value} (h : w.ownsRow base E size v n xs) (hb : Below w.heap.size w w') : w'.ownsRow base E size v n xs :=
  h.kept (row := none) ⟨hb.os, hb.tape, hb.output, hb.size, fun i hi _ => hb.block i hi⟩ (by cases h' : v.ownBlock <;> simp)
theorem own_base {w : World} {base base' : Nat} {E : TypeId} {size n : Nat} {v : Value} {xs : List Value} (h : w.ownsRow base E size v n xs) (hb : base' ≤ base) : w.ownsRow base' E size v n xs := by
  obtain ⟨h1, h2⟩ := h
  refine ⟨h1, ?_⟩
  rcases h2 with h2 | ⟨g, cap, cur, hv, hg, r⟩
  · exact .inl h2
  · exact .inr ⟨g, cap, cur, hv, Nat.le_trans hb hg, r⟩
theorem OT.to {w w' : World} {base : Nat} {E : TypeId} {v : Value} {ts : List T4} (h : OT w base E v ts) (hb : Below w.heap.size w w') : OT w' base E v ts := own_to h hb
theorem OI.to {w w' : World} {base : Nat} {E : TypeId} {v : Value} {xs : List Int} (h : OI w base E v xs) (hb : Below w.heap.size w w') : OI w' base E v xs := own_to h hb
theorem take_eq_of {α : Type} {l xs : List α} {n : Nat} (hx : xs.length = n) (h : ∀ (j : Nat) (u : α), xs[j]? = some u → l[j]? = some u) : l.take n = xs := by
  apply List.ext_getElem?
  intro j
  rw [List.getElem?_take]
  split
  · rename_i hj
    obtain ⟨u, hu⟩ : ∃ u, xs[j]? = some u := ⟨_, List.getElem?_eq_getElem (by omega)⟩
    rw [hu, h j u hu]
  · rw [List.getElem?_eq_none (by omega)]
theorem OT.of_block {w : World} {b base : Nat} {C : Array Value} {E : TypeId} {ts : List T4} {cap : Nat} (h : BK w b C E) (hb : base ≤ b) (hc : C.size = cap * 4) (hl : ts.length ≤ cap) (hm : cap ≤ 9223372036854775807)
    (hall : ∀ k, k < ts.length → ∀ j, j < 4 → C[k * 4 + j]? = some (.int .i64 ((tk ts k).get j))) : OT w base E (.slice (some ⟨b, 0, none⟩) ts.length cap) ts := by
  refine ⟨tcells_length ts, .inr ⟨b, cap, C, rfl, hb, h, hl, by simpa [maxLen] using hm, hc, ?_⟩⟩
  refine take_eq_of (tcells_length ts) (fun j u hu => ?_)
  have hj : j < ts.length * 4 := by
    rw [← tcells_length ts]; exact (List.getElem?_eq_some_iff.1 hu).1
  have e : j = j / 4 * 4 + j % 4 := by omega
  rw [e, tcells_get (by omega) (by omega)] at hu
  rw [e, Array.getElem?_toList, hall _ (by omega) _ (by omega)]
  exact hu
theorem OI.of_block {w : World} {b base : Nat} {C : Array Value} {E : TypeId} {xs : List Int} {cap : Nat} (h : BK w b C E) (hb : base ≤ b) (hc : C.size = cap) (hl : xs.length ≤ cap) (hm : cap ≤ 9223372036854775807)
    (hall : ∀ k, k < xs.length → C[k]? = some (.int .i64 (ik xs k))) : OI w base E (.slice (some ⟨b, 0, none⟩) xs.length cap) xs := by
  refine ⟨by rw [icells_length, Nat.mul_one], .inr ⟨b, cap, C, rfl, hb, h, hl, by simpa [maxLen] using hm, by omega, ?_⟩⟩
  refine take_eq_of (by rw [icells_length, Nat.mul_one]) (fun j u hu => ?_)
  have hj : j < xs.length := by
    rw [← icells_length xs]; exact (List.getElem?_eq_some_iff.1 hu).1
  rw [icells_get hj] at hu
  rw [Array.getElem?_toList, hall _ hj]
  exact hu
theorem make_row {P : Program} (t e : TypeId) (z : Value) (size bytes : Nat) (ht : P.underlying t = some (.slice e)) (hinfo : (P.info? e).map (fun i => (i.zero, i.size, i.bytes)) = some (some z, size, bytes)) (hs : z.cells.size = size) (hb0 : 0 < bytes)
    (m : Nat) (hn : m * bytes ≤ 281474976710656) :
    ∀ W : World, (Instr.makeSlice t (.int .i64 (m : Int)) (.int .i64 (m : Int))).run P W = .ok (.slice (some ⟨W.heap.size, 0, none⟩) m m) (W.alloc (.cells (madeCells z.cells (m * size)) e)) := by
  intro W
  obtain ⟨i, hi, hzz⟩ := Option.map_eq_some_iff.1 hinfo
  simp only [Prod.mk.injEq] at hzz
  obtain ⟨hz0, hz1, hz2⟩ := hzz
  have hm : m ≤ 281474976710656 := Nat.le_trans (Nat.le_mul_of_pos_right _ hb0) hn
  have hb' : (i.bytes : Int) * (m : Int) ≤ 281474976710656 := by
    have h : ((i.bytes * m : Nat) : Int) ≤ 281474976710656 := by rw [hz2, Nat.mul_comm]; omega
    rwa [Int.natCast_mul] at h
  have hr := run_make (P := P) W t e i z ht hi hz0 .i64 .i64 m m (by omega) (Int.le_refl _) hb' (by omega)
  simp only [Int.toNat_natCast] at hr
  rw [hz1] at hr
  exact hr
theorem made_size (z : Array Value) (n : Nat) : (madeCells z n).size = n := size_madeCells z n
def setT (C : Array Value) (i : Nat) (t : T4) : Array Value :=
  (((C.setIfInBounds i (.int .i64 (t.get 0))).setIfInBounds (i + 1) (.int .i64 (t.get 1))).setIfInBounds (i + 2) (.int .i64 (t.get 2))).setIfInBounds (i + 3) (.int .i64 (t.get 3))
theorem setT_size (C : Array Value) (i : Nat) (t : T4) : (setT C i t).size = C.size := by simp [setT]
theorem setT_in {C : Array Value} {i j : Nat} {t : T4} (h : i + 3 < C.size) (hj : j < 4) : (setT C i t)[i + j]? = some (.int .i64 (t.get j)) := by
  simp only [setT, Array.getElem?_setIfInBounds, Array.size_setIfInBounds]
  match j, hj with
  | 0, _ => rw [if_neg (by omega), if_neg (by omega), if_neg (by omega), if_pos (by omega), if_pos (by omega)]
  | 1, _ => rw [if_neg (by omega), if_neg (by omega), if_pos (by omega), if_pos (by omega)]
  | 2, _ => rw [if_neg (by omega), if_pos (by omega), if_pos (by omega)]
  | 3, _ => rw [if_pos (by omega), if_pos (by omega)]
theorem setT_out {C : Array Value} {i p : Nat} {t : T4} (h : p < i ∨ i + 4 ≤ p) : (setT C i t)[p]? = C[p]? := by
  simp only [setT, Array.getElem?_setIfInBounds]
  rw [if_neg (by omega), if_neg (by omega), if_neg (by omega), if_neg (by omega)]
theorem BK.setT {w : World} {b : Nat} {C : Array Value} {E : TypeId} (h : BK w b C E) (i : Nat) (t : T4) :
    BK ((((w.setCell ⟨b, i, none⟩ (.int .i64 (t.get 0))).setCell ⟨b, i + 1, none⟩ (.int .i64 (t.get 1))).setCell ⟨b, i + 2, none⟩ (.int .i64 (t.get 2))).setCell ⟨b, i + 3, none⟩ (.int .i64 (t.get 3))) b (setT C i t) E :=
  (((h.set i _).set (i + 1) _).set (i + 2) _).set (i + 3) _
theorem below_set4 {B : Nat} {w0 w : World} (h : Below B w0 w) {b : Nat} (hb : B ≤ b) (i : Nat) (x y z u : Value) :
    Below B w0 ((((w.setCell ⟨b, i, none⟩ x).setCell ⟨b, i + 1, none⟩ y).setCell ⟨b, i + 2, none⟩ z).setCell ⟨b, i + 3, none⟩ u) :=
  (((h.setCell hb x).setCell hb y).setCell hb z).setCell hb u
def TilesIn (C : Array Value) (ts : List T4) (k : Nat) : Prop := ∀ k', k' < k → ∀ j, j < 4 → C[k' * 4 + j]? = some (.int .i64 ((tk ts k').get j))
theorem TilesIn.step {C : Array Value} {ts : List T4} {k : Nat} (h : TilesIn C ts k) (hk : k * 4 + 3 < C.size) : TilesIn (setT C (k * 4) (tk ts k)) ts (k + 1) := by
  intro k' hk' j hj
  by_cases e : k' = k
  · subst e; exact setT_in hk hj
  · rw [setT_out (by omega)]; exact h k' (by omega) j hj
theorem eq_of_tk {ts us : List T4} (hl : ts.length = us.length) (h : ∀ j, j < ts.length → tk ts j = tk us j) : ts = us := by
  apply List.ext_getElem hl
  intro j h1 h2
  have := h j h1
  simpa [tk, List.getElem?_eq_getElem h1, List.getElem?_eq_getElem h2] using this
theorem eq_of_ik {xs ys : List Int} (hl : xs.length = ys.length) (h : ∀ j, j < xs.length → ik xs j = ik ys j) : xs = ys := by
  apply List.ext_getElem hl
  intro j h1 h2
  have := h j h1
  simpa [ik, List.getElem?_eq_getElem h1, List.getElem?_eq_getElem h2] using this
theorem namec1 {P : Program} {f : FuncId} {args : Array Value} {w : World} {R : Ending → World → Prop} {C1 : Array Value} {E1 : TypeId}
    (h : ∀ W, BK W w.heap.size C1 E1 → W.heap.size = w.heap.size + 1 → Below w.heap.size w W → Calls P f args W R) : Calls P f args (w.alloc (.cells C1 E1)) R :=
  h _ (BK.new _ _ _) (by simp) ((Below.refl _ _).alloc (Nat.le_refl _) _)
theorem namec2 {P : Program} {f : FuncId} {args : Array Value} {w : World} {R : Ending → World → Prop} {C1 C2 : Array Value} {E1 E2 : TypeId}
    (h : ∀ W, BK W w.heap.size C1 E1 → BK W (w.heap.size + 1) C2 E2 → W.heap.size = w.heap.size + 2 → Below w.heap.size w W → Calls P f args W R) : Calls P f args ((w.alloc (.cells C1 E1)).alloc (.cells C2 E2)) R :=
  h _ ((BK.new _ _ _).alloc _) (by simpa using BK.new (w.alloc (.cells C1 E1)) C2 E2) (by simp) (((Below.refl _ _).alloc (Nat.le_refl _) _).alloc (by simp) _)
theorem namec3 {P : Program} {f : FuncId} {args : Array Value} {w : World} {R : Ending → World → Prop} {C1 C2 C3 : Array Value} {E1 E2 E3 : TypeId}
    (h : ∀ W, BK W w.heap.size C1 E1 → BK W (w.heap.size + 1) C2 E2 → BK W (w.heap.size + 2) C3 E3 → W.heap.size = w.heap.size + 3 → Below w.heap.size w W → Calls P f args W R) :
    Calls P f args (((w.alloc (.cells C1 E1)).alloc (.cells C2 E2)).alloc (.cells C3 E3)) R :=
  h _ (((BK.new _ _ _).alloc _).alloc _) (by simpa using (BK.new (w.alloc (.cells C1 E1)) C2 E2).alloc (.cells C3 E3)) (by simpa using BK.new ((w.alloc (.cells C1 E1)).alloc (.cells C2 E2)) C3 E3)
    (by simp) ((((Below.refl _ _).alloc (Nat.le_refl _) _).alloc (by simp) _).alloc (by simp; omega) _)
theorem RT.cellj {w : World} {A : Option Addr} {ts : List T4} (h : RT w A ts) {k : Nat} (hk : k < ts.length) :
    ∃ b o, A = some ⟨b, o, none⟩ ∧ b < w.heap.size ∧ ∀ j, j < 4 → w.cell? ⟨b, o + k * 4 + j, none⟩ = some (.int .i64 ((tk ts k).get j)) := by
  obtain ⟨b, o, e, hb, h0, h1, h2, h3⟩ := h k hk
  refine ⟨b, o, e, hb, fun j hj => ?_⟩
  match j, hj with
  | 0, _ => exact h0
  | 1, _ => exact h1
  | 2, _ => exact h2
  | 3, _ => exact h3
end Go.Proofs.Ytenlcakpcbmmdaa
namespace Go.Proofs.Ytenlcakpcbmmdaa
open Go Go.RowKit Go.Proofs
set_option linter.unusedVariables false
set_option linter.unusedSimpArgs false
theorem int_eq {k : IntKind} {a b : Int} (h : a = b) : Value.int k a = Value.int k b := by rw [h]
structure Only (lo hi : Nat) (w w' : World) : Prop where
  os : w'.os = w.os
  tape : w'.tape = w.tape
  output : w'.output = w.output
  size : w.heap.size ≤ w'.heap.size
  block : ∀ i, i < w.heap.size → i < lo ∨ hi ≤ i → w'.heap[i]? = w.heap[i]?
theorem only_of {w w' : World} (h : Below w.heap.size w w') (lo hi : Nat) : Only lo hi w w' := ⟨h.os, h.tape, h.output, h.size, fun i hi' _ => h.block i hi'⟩
theorem Only.refl (lo hi : Nat) (w : World) : Only lo hi w w := ⟨rfl, rfl, rfl, Nat.le_refl _, fun _ _ _ => rfl⟩
theorem Only.trans {lo hi : Nat} {a b c : World} (h : Only lo hi a b) (k : Only lo hi b c) : Only lo hi a c :=
  ⟨k.os.trans h.os, k.tape.trans h.tape, k.output.trans h.output, Nat.le_trans h.size k.size, fun i hi' hd => (k.block i (Nat.lt_of_lt_of_le hi' h.size) hd).trans (h.block i hi' hd)⟩
theorem Only.below {lo hi B : Nat} {w w' : World} (h : Only lo hi w w') (hB : B ≤ lo) (hs : B ≤ w.heap.size) : Below B w w' :=
  ⟨h.os, h.tape, h.output, h.size, fun i hi' => h.block i (by omega) (.inl (by omega))⟩
theorem Only.setCell {lo hi : Nat} {a w : World} (h : Only lo hi a w) {b : Nat} (h1 : lo ≤ b) (h2 : b < hi) (o : Nat) (u : Value) : Only lo hi a (w.setCell ⟨b, o, none⟩ u) :=
  h.trans ⟨rfl, rfl, rfl, by simp [World.setCell], fun k hk hd => Below.heap_setCell _ _ _ _ (by show k ≠ b; omega)⟩
theorem below_only {w0 w w' : World} {lo hi : Nat} (h : Below w0.heap.size w0 w) (k : Only lo hi w w') (hlo : w0.heap.size ≤ lo) : Below w0.heap.size w0 w' :=
  h.trans (k.below hlo h.size)
theorem BK.only {w w' : World} {b lo hi : Nat} {C : Array Value} {E : TypeId} (h : BK w b C E) (k : Only lo hi w w') (hd : b < lo ∨ hi ≤ b) : BK w' b C E := (k.block b h.lt hd).trans h
structure OW (w : World) (lo hi : Nat) (E : TypeId) (size : Nat) (v : Value) (n : Nat) (cells : List Value) : Prop where
  own : w.ownsRow lo E size v n cells
  up : ∀ b, v.ownBlock = some b → b < hi
  top : hi ≤ w.heap.size
theorem OW.of {w : World} {lo : Nat} {E : TypeId} {size n : Nat} {v : Value} {cells : List Value} (h : w.ownsRow lo E size v n cells) : OW w lo w.heap.size E size v n cells :=
  ⟨h, fun b hb => (h.lt b hb).2, Nat.le_refl _⟩
theorem OW.only {w w' : World} {lo hi lo' hi' : Nat} {E : TypeId} {size n : Nat} {v : Value} {cells : List Value} (h : OW w lo hi E size v n cells) (k : Only lo' hi' w w') (hd : hi ≤ lo' ∨ hi' ≤ lo) : OW w' lo hi E size v n cells := by
  refine ⟨?_, h.up, Nat.le_trans h.top k.size⟩
  obtain ⟨h1, h2⟩ := h.own
  refine ⟨h1, ?_⟩
  rcases h2 with h2 | ⟨g, cap, cur, hv, hg, hh, r⟩
  · exact .inl h2
  · refine .inr ⟨g, cap, cur, hv, hg, ?_, r⟩
    have hu := h.up g (by rw [hv]; rfl)
    exact (k.block g (Nat.lt_of_lt_of_le hu h.top) (by omega)).trans hh
theorem OW.to {w w' : World} {lo hi : Nat} {E : TypeId} {size n : Nat} {v : Value} {cells : List Value} (h : OW w lo hi E size v n cells) (k : Below w.heap.size w w') : OW w' lo hi E size v n cells :=
  h.only (only_of k w.heap.size w.heap.size) (.inl h.top)
theorem OW.form {w : World} {lo hi : Nat} {E : TypeId} {size n : Nat} {v : Value} {cells : List Value} (h : OW w lo hi E size v n cells) :
    ∃ A c, v = .slice A n c ∧ ((A = none ∧ n = 0 ∧ c = 0) ∨ ∃ g cur, A = some ⟨g, 0, none⟩ ∧ lo ≤ g ∧ g < hi ∧ BK w g cur E ∧ n ≤ c ∧ c ≤ 9223372036854775807 ∧ cur.size = c * size) := by
  rcases h.own.2 with ⟨rfl, hn⟩ | ⟨g, cap, cur, rfl, hb, hg, hle, hm, hsz, -⟩
  · exact ⟨none, 0, by rw [hn], .inl ⟨rfl, hn, rfl⟩⟩
  · exact ⟨_, cap, rfl, .inr ⟨g, cur, rfl, hb, h.up g rfl, hg, hle, by simpa [maxLen] using hm, hsz⟩⟩
def mkI (k : Int) (m : Nat) : List Int := (List.range m).map fun (j : Nat) => k + (j : Int)
theorem mkI_length (k : Int) (m : Nat) : (mkI k m).length = m := by simp [mkI]
theorem mkI_get {k : Int} {m j : Nat} (h : j < m) : ik (mkI k m) j = k + j := by simp [mkI, ik, h]
theorem OW.marked {w : World} {g lo hi : Nat} {E : TypeId} {size n c : Nat} {cur : Array Value} {k : Int} (h : BK w g cur E) (h1 : lo ≤ g) (h2 : g < hi) (ht : hi ≤ w.heap.size) (hn : n ≤ c) (hm : c ≤ 9223372036854775807) (hs : cur.size = c * size)
    (hall : ∀ j, j < n * size → cur[j]? = some (.int .i64 (k + (j : Int)))) : OW w lo hi E size (.slice (some ⟨g, 0, none⟩) n c) n (icells (mkI k (n * size))) := by
  refine ⟨⟨by rw [icells_length, mkI_length], .inr ⟨g, c, cur, rfl, h1, h, hn, by simpa [maxLen] using hm, hs, ?_⟩⟩, fun b hb => ?_, ht⟩
  · refine take_eq_of (by rw [icells_length, mkI_length]) (fun j u hu => ?_)
    have hj : j < n * size := by
      have := (List.getElem?_eq_some_iff.1 hu).1
      rwa [icells_length, mkI_length] at this
    rw [icells_get (by rw [mkI_length]; exact hj), mkI_get hj] at hu
    rw [Array.getElem?_toList, hall j hj]
    exact hu
  · have : g = b := by simpa [Value.ownBlock] using hb
    omega
theorem OW.nil (w : World) (lo hi : Nat) (E : TypeId) (size : Nat) (ht : hi ≤ w.heap.size) : OW w lo hi E size (.slice none 0 0) 0 [] := ⟨w.ownsRow_nil lo E size, fun b hb => by simp [Value.ownBlock] at hb, ht⟩
theorem OW.readsI {w : World} {lo hi : Nat} {E : TypeId} {v : Value} {xs : List Int} (h : OW w lo hi E 1 v xs.length (icells xs)) : ∃ A c, v = .slice A xs.length c ∧ RI w A xs ∧ xs.length ≤ c := OI.reads h.own
theorem OW.readsT {w : World} {lo hi : Nat} {E : TypeId} {v : Value} {ts : List T4} (h : OW w lo hi E 4 v ts.length (tcells ts)) : ∃ A c, v = .slice A ts.length c ∧ RT w A ts ∧ ts.length ≤ c := OT.reads h.own
theorem OW.cell {w : World} {lo hi : Nat} {E : TypeId} {size n c : Nat} {g : Nat} {cells : List Value} (h : OW w lo hi E size (.slice (some ⟨g, 0, none⟩) n c) n cells) {j : Nat} {u : Value} (hj : cells[j]? = some u) : w.cell? ⟨g, j, none⟩ = some u := own_cell h.own hj
theorem rt_of {w : World} {lo hi : Nat} {E : TypeId} {A : Option Addr} {n c : Nat} {ts : List T4} (h : OW w lo hi E 4 (.slice A n c) n (tcells ts)) (hn : n = ts.length) : RT w A ts := by
  subst hn
  obtain ⟨A', c', e, hr, -⟩ := h.readsT
  injection e with e1 e2 e3
  subst e1; exact hr
theorem ri_of {w : World} {lo hi : Nat} {E : TypeId} {A : Option Addr} {n c : Nat} {xs : List Int} (h : OW w lo hi E 1 (.slice A n c) n (icells xs)) (hn : n = xs.length) : RI w A xs := by
  subst hn
  obtain ⟨A', c', e, hr, -⟩ := h.readsI
  injection e with e1 e2 e3
  subst e1; exact hr
theorem le_of {w : World} {lo hi : Nat} {E : TypeId} {size : Nat} {A : Option Addr} {n c : Nat} {cells : List Value} (h : OW w lo hi E size (.slice A n c) n cells) : n ≤ c := by
  obtain ⟨A', c', e, hf⟩ := h.form
  injection e with e1 e2 e3
  subst e3
  rcases hf with ⟨-, h0, -⟩ | ⟨g, cur, -, -, -, -, hle, -⟩
  · omega
  · exact hle
section
variable {P : Program} {ops : Array Oper} {rest : List Oper} {o : Oper} {a : Act} {Q : Exit → Act → World → Prop}
end
theorem BK.grown {w w' : World} {b : Nat} {C : Array Value} {E : TypeId} {row : Option Nat} (h : BK w b C E) (hg : w.grownBy w' row) (hne : some b ≠ row) : BK w' b C E := (hg.block b h.lt hne).trans h
theorem OI.nil (w : World) (base : Nat) (E : TypeId) : OI w base E (.slice none 0 0) [] := w.ownsRow_nil base E 1
theorem OI.lit0 (w : World) (base : Nat) (E : TypeId) (hb : base ≤ w.heap.size) : OI (w.alloc (.cells #[] E)) base E (.slice (some ⟨w.heap.size, 0, none⟩) 0 0) [] := by
  have h := OI.of_block (BK.new w #[] E) (base := base) (xs := []) (cap := 0) hb rfl (Nat.le_refl _) (by omega) (fun k hk => by simp at hk)
  simpa using h
theorem OT.empty {w : World} {b base : Nat} {E : TypeId} (h : BK w b #[] E) (hb : base ≤ b) : OT w base E (.slice (some ⟨b, 0, none⟩) 0 0) [] := by
  have h := OT.of_block h (base := base) (ts := []) (cap := 0) hb rfl (Nat.le_refl _) (by omega) (fun k hk => by simp at hk)
  simpa using h
theorem OI.empty {w : World} {b base : Nat} {E : TypeId} (h : BK w b #[] E) (hb : base ≤ b) : OI w base E (.slice (some ⟨b, 0, none⟩) 0 0) [] := by
  have h := OI.of_block h (base := base) (xs := []) (cap := 0) hb rfl (Nat.le_refl _) (by omega) (fun k hk => by simp at hk)
  simpa using h
theorem OT.lit0 (w : World) (base : Nat) (E : TypeId) (hb : base ≤ w.heap.size) : OT (w.alloc (.cells #[] E)) base E (.slice (some ⟨w.heap.size, 0, none⟩) 0 0) [] := by
  have h := OT.of_block (BK.new w #[] E) (base := base) (ts := []) (cap := 0) hb rfl (Nat.le_refl _) (by omega) (fun k hk => by simp at hk)
  simpa using h
end Go.Proofs.Ytenlcakpcbmmdaa
namespace Go.Proofs.Ytenlcakpcbmmdaa
open Go Go.RowKit Go.Proofs
set_option linter.unusedVariables false
set_option linter.unusedSimpArgs false
section
variable {P : Program} {ops : Array Oper} {rest : List Oper} {o : Oper} {a : Act} {Q : Exit → Act → World → Prop}
end
end Go.Proofs.Ytenlcakpcbmmdaa
namespace Go.Proofs.Ytenlcakpcbmmdaa
open Go Go.RowKit Go.Proofs
set_option linter.unusedVariables false
set_option linter.unusedSimpArgs false
theorem add_off (b o j : Nat) : (⟨b, o, none⟩ : Addr).add j = ⟨b, o + j, none⟩ := by unfold Addr.add; split <;> simp_all
theorem RT.news {w : World} {ad : Addr} {us : List T4} (h : RT w (some ad) us) : ∀ (j : Nat) (u : Value), (tcells us)[j]? = some u → w.cell? (ad.add j) = some u := by
  intro j u hu
  have hj : j < us.length * 4 := by rw [← tcells_length us]; exact (List.getElem?_eq_some_iff.1 hu).1
  have hk : j / 4 < us.length := by omega
  obtain ⟨b, o, e, hb, hc⟩ := h.cellj hk
  injection e with e
  subst e
  have hr : j % 4 < 4 := by omega
  have hc' := hc (j % 4) hr
  have ej : j = j / 4 * 4 + j % 4 := by omega
  rw [ej, tcells_get hk hr] at hu
  rw [add_off, ← hu, ← hc', ej]
  congr 2; omega
theorem RI.news {w : World} {ad : Addr} {us : List Int} (h : RI w (some ad) us) : ∀ (j : Nat) (u : Value), (icells us)[j]? = some u → w.cell? (ad.add j) = some u := by
  intro j u hu
  have hj : j < us.length := by rw [← icells_length us]; exact (List.getElem?_eq_some_iff.1 hu).1
  obtain ⟨b, o, e, hb, hc⟩ := h j hj
  injection e with e
  subst e
  rw [icells_get hj] at hu
  rw [add_off, ← hu, ← hc]
theorem OT.one {w : World} {b base : Nat} {E : TypeId} {t : T4} (h : BK w b t.arr E) (hb : base ≤ b) : OT w base E (.slice (some ⟨b, 0, none⟩) 1 1) [t] := by
  have h := OT.of_block h (base := base) (ts := [t]) (cap := 1) hb rfl (Nat.le_refl _) (by omega) (fun k hk j hj => by
    obtain rfl : k = 0 := by simp at hk; omega
    simpa [tk] using t.cell j hj)
  simpa using h
theorem OI.one {w : World} {b base : Nat} {E : TypeId} {x : Int} (h : BK w b #[.int .i64 x] E) (hb : base ≤ b) : OI w base E (.slice (some ⟨b, 0, none⟩) 1 1) [x] := by
  have h := OI.of_block h (base := base) (xs := [x]) (cap := 1) hb rfl (Nat.le_refl _) (by omega) (fun k hk => by
    obtain rfl : k = 0 := by simp at hk; omega
    simp [ik])
  simpa using h
section
variable {P : Program} {ops : Array Oper} {rest : List Oper} {o : Oper} {a : Act} {Q : Exit → Act → World → Prop} {K : Act → World → Prop} {W : World}
end
theorem RT.drop {w : World} {b o : Nat} {ts : List T4} (h : RT w (some ⟨b, o, none⟩) ts) (i : Nat) : RT w (some ⟨b, o + i * 4, none⟩) (ts.drop i) := by
  intro k hk
  rw [List.length_drop] at hk
  obtain ⟨b', o', e, hb, h0, h1, h2, h3⟩ := h (i + k) (by omega)
  injection e with e; injection e with e1 e2; subst e1 e2
  have et : tk (ts.drop i) k = tk ts (i + k) := by simp [tk, List.getD, List.getElem?_drop]
  have eo : o + i * 4 + k * 4 = o + (i + k) * 4 := by omega
  refine ⟨b, _, rfl, hb, ?_, ?_, ?_, ?_⟩ <;> rw [et, eo] <;> assumption
theorem RT.take {w : World} {A : Option Addr} {ts : List T4} (h : RT w A ts) (i : Nat) : RT w A (ts.take i) := by
  intro k hk
  rw [List.length_take] at hk
  have et : tk (ts.take i) k = tk ts k := by simp [tk, List.getD, List.getElem?_take, show k < i by omega]
  rw [et]
  exact h k (by omega)
end Go.Proofs.Ytenlcakpcbmmdaa
namespace Go.Proofs.Ytenlcakpcbmmdaa
open Go Go.RowKit Go.Proofs Go.Proofs.YtenlcakpcbmmdaaW.PrintWords Go.Proofs.Ytenlcakpcbmmdaa.Q
set_option linter.unusedVariables false
set_option linter.unusedSimpArgs false
abbrev STile := Q.S77
def toT (s : STile) : T4 := ⟨s.f0, s.f1, s.f2, s.f3⟩
def toS (t : T4) : STile := ⟨t.a, t.b, t.c, t.d⟩
theorem toT_toS (t : T4) : toT (toS t) = t := rfl
theorem toS_toT (s : STile) : toS (toT s) = s := rfl
theorem map_toTS (l : List T4) : (l.map toS).map toT = l := by simp [List.map_map, Function.comp_def, toT_toS]
theorem map_toST (l : List STile) : (l.map toT).map toS = l := by simp [List.map_map, Function.comp_def, toS_toT]
theorem spot_none {w : World} {a : Addr} {v : Value} (h : w.cell? a = some v) : a.spot = none := by
  unfold World.cell? at h
  split at h
  · split at h
    · exact absurd h (by simp)
    · rename_i hn
      cases hs : a.spot with
      | none => rfl
      | some x => rw [hs] at hn; simp at hn
  · exact absurd h (by simp)
theorem tk_map (l : List STile) (k : Nat) (h : k < l.length) : tk (l.map toT) k = toT l[k] := by
  simp [tk, List.getD, List.getElem?_map, List.getElem?_eq_getElem h]
theorem rt_of_C {w : World} {A : Option Addr} {l : List STile} (h : Kd.C k77 w A l.length l) : RT w A (l.map toT) := by
  intro k hk
  rw [List.length_map] at hk
  obtain ⟨ad, e, hc⟩ := h.2.2 (by omega)
  have g : ∀ j (hj : j < l.length) i v, ([.int .i64 l[j].f0, .int .i64 l[j].f1, .int .i64 l[j].f2, .int .i64 l[j].f3] : List Value)[i]? = some v → w.cell? (ad.add (j * 4 + i)) = some v := by
    intro j hj i v hv
    obtain ⟨c, hcl, hK, hcell⟩ := hc j l[j] (List.getElem?_eq_getElem hj)
    rw [k77_open hK] at hcell
    exact hcell i v hv
  have h0 := g 0 (by omega) 0 _ rfl
  have hs : ad.spot = none := by
    have := spot_none h0
    simpa [Addr.add] using this
  obtain ⟨b, o, s⟩ := ad
  simp only at hs
  subst hs
  have hb : b < w.heap.size := by
    have := World.block_lt_of_cell? w _ h0
    simpa [Addr.add] using this
  refine ⟨b, o, e, hb, ?_, ?_, ?_, ?_⟩ <;> rw [tk_map _ _ hk]
  · have := g k hk 0 _ rfl; rwa [add_off] at this
  · have := g k hk 1 _ rfl; rwa [add_off, ← Nat.add_assoc] at this
  · have := g k hk 2 _ rfl; rwa [add_off, ← Nat.add_assoc] at this
  · have := g k hk 3 _ rfl; rwa [add_off, ← Nat.add_assoc] at this
theorem C_of_rt {w : World} {A : Option Addr} {ts : List T4} (h : RT w A ts) (hl : ts.length ≤ 9223372036854775807) : Kd.C k77 w A (ts.map toS).length (ts.map toS) := by
  refine ⟨rfl, by simpa using hl, fun hn => ?_⟩
  rw [List.length_map] at hn
  obtain ⟨b, o, e, hb, -⟩ := h 0 hn
  refine ⟨_, e, fun j p hj => ?_⟩
  have hjl : j < ts.length := by have := (List.getElem?_eq_some_iff.1 hj).1; simpa using this
  have hp : p = toS (tk ts j) := by
    rw [List.getElem?_map, List.getElem?_eq_getElem hjl] at hj
    simp only [Option.map_some, Option.some.injEq] at hj
    rw [← hj]; simp [tk, List.getD, List.getElem?_eq_getElem hjl]
  subst hp
  obtain ⟨b', o', e', -, c0, c1, c2, c3⟩ := h j hjl
  rw [e] at e'
  injection e' with e'; injection e' with e1 e2; subst e1 e2
  refine ⟨_, rfl, k77_mk w (toS (tk ts j)), fun i u hu => ?_⟩
  rw [add_off, ← Nat.add_assoc]
  match i, hu with
  | 0, hu => simp at hu; subst hu; exact c0
  | 1, hu => simp at hu; subst hu; exact c1
  | 2, hu => simp at hu; subst hu; exact c2
  | 3, hu => simp at hu; subst hu; exact c3
  | i + 4, hu => simp at hu
theorem C_of_ri {w : World} {A : Option Addr} {xs : List Int} (h : RI w A xs) (hl : xs.length ≤ 9223372036854775807) : Kd.C (Kd.int .i64) w A xs.length xs := by
  refine ⟨rfl, hl, fun hn => ?_⟩
  obtain ⟨b, o, e, hb, -⟩ := h 0 hn
  refine ⟨_, e, fun j p hj => ?_⟩
  have hjl := (List.getElem?_eq_some_iff.1 hj).1
  have hp : p = ik xs j := by
    rw [List.getElem?_eq_getElem hjl] at hj
    simp only [Option.some.injEq] at hj
    rw [← hj]; simp [ik, List.getD, List.getElem?_eq_getElem hjl]
  subst hp
  obtain ⟨b', o', e', -, c0⟩ := h j hjl
  rw [e] at e'
  injection e' with e'; injection e' with e1 e2; subst e1 e2
  refine ⟨[.int .i64 (ik xs j)], rfl, rfl, fun i u hu => ?_⟩
  have e1 : (Kd.int IntKind.i64).sz = 1 := rfl
  match i, hu with
  | 0, hu => simp at hu; subst hu; rw [e1, Nat.mul_one, Nat.add_zero, add_off]; exact c0
  | i + 1, hu => simp at hu
end Go.Proofs.Ytenlcakpcbmmdaa
namespace Go.Proofs.Ytenlcakpcbmmdaa
open Go Go.RowKit Go.Proofs Go.Proofs.YtenlcakpcbmmdaaW.PrintWords Go.Proofs.YtenlcakpcbmmdaaW.PrintMore Go.Proofs.Ytenlcakpcbmmdaa.Q
set_option linter.unusedVariables false
set_option linter.unusedSimpArgs false
theorem wrap_id {x : Int} (h : -9223372036854775808 ≤ x) (h2 : x ≤ 9223372036854775807) : wrap64 x = x := by unfold wrap64; omega
def cap (x : Int) : Int := if x ≤ 1000000000000000 then x else 1000000000000001
theorem cap_nn {x : Int} (h : 0 ≤ x) : 0 ≤ cap x := by unfold cap; split <;> omega
theorem cap_le (x : Int) : cap x ≤ 1000000000000001 := by unfold cap; split <;> omega
theorem mn_cap (x : Int) : mn x 1000000000000001 = cap x := by unfold mn cap; split <;> split <;> omega
theorem mn_cap' (x : Int) : mn 1000000000000001 x = cap x := by unfold mn cap; split <;> split <;> omega
theorem cap_add {x y : Int} (hx : 0 ≤ x) (hy : 0 ≤ y) : cap (cap x + cap y) = cap (x + y) := by unfold cap; split <;> split <;> split <;> (try split) <;> omega
theorem cap_small {x : Int} (h : x ≤ 1000000000000000) : cap x = x := by unfold cap; rw [if_pos h]
def dot : List Int → (Nat → Int) → Int
  | [], _ => 0
  | x :: xs, p => x * p 0 + dot xs (fun i => p (i + 1))
theorem rd_nat (xs : List Int) (i : Nat) : rd xs (i : Int) = xs.getD i 0 := by simp [rd]
theorem dot_set (v : List Int) (e : Nat) (x : Int) (p : Nat → Int) (h : e < v.length) : dot (v.set e x) p = dot v p + (x - v.getD e 0) * p e := by
  induction v generalizing e p with
  | nil => simp at h
  | cons y ys ih =>
    cases e with
    | zero => simp [dot, List.getD]; rw [Int.sub_mul]; omega
    | succ e =>
      simp only [List.set_cons_succ, dot]
      rw [ih e _ (by simpa using h)]
      simp only [List.getD_cons_succ]
      omega
theorem dot_zero (n : Nat) (p : Nat → Int) : dot (List.replicate n 0) p = 0 := by
  induction n generalizing p with
  | zero => rfl
  | succ n ih => simp [List.replicate_succ, dot, ih]
theorem dot_add (v : List Int) (p q : Nat → Int) : dot v (fun i => p i + q i) = dot v p + dot v q := by
  induction v generalizing p q with
  | nil => rfl
  | cons y ys ih =>
    simp only [dot]
    rw [ih (fun i => p (i + 1)) (fun i => q (i + 1)), Int.mul_add]; omega
theorem dot_nil (v : List Int) : dot v (fun _ => 0) = 0 := by
  induction v with
  | nil => rfl
  | cons y ys ih => simp only [dot, ih]; omega
theorem dot_one (v : List Int) (e : Nat) (y : Int) (h : e < v.length) : dot v (fun i => if i = e then y else 0) = v.getD e 0 * y := by
  induction v generalizing e with
  | nil => simp at h
  | cons z zs ih =>
    cases e with
    | zero =>
      simp only [dot]
      have : (fun i => if i + 1 = 0 then y else 0) = fun _ : Nat => (0 : Int) := by funext i; simp
      rw [this, dot_nil]; simp [List.getD]
    | succ e =>
      simp only [dot, List.getD_cons_succ]
      have : (fun i => if i + 1 = e + 1 then y else 0) = fun i : Nat => if i = e then y else 0 := by funext i; simp
      rw [this, ih e (by simpa using h)]; simp
theorem dot_sum (v : List Int) : dot v (fun _ => 1) = v.sum := by
  induction v with
  | nil => rfl
  | cons y ys ih => simp only [dot, ih, List.sum_cons]; omega
def Fine (c : Nat) (L : List STile) : Prop := ∀ t ∈ L, 0 ≤ t.f0 ∧ t.f0 < c ∧ 0 ≤ t.f2 ∧ t.f2 < c
def addT (now acc : List Int) (t : STile) : List Int := acc.set t.f2.toNat (rd acc t.f2 + rd now t.f0)
def stepW (c : Nat) (now : List Int) (L : List STile) : List Int := L.foldl (addT now) (List.replicate c 0)
def waysW (c : Nat) (now : List Int) (Ls : List (List STile)) : List Int := Ls.foldl (stepW c) now
def paths : List (List STile) → Nat → Int
  | [], _ => 1
  | L :: Ls, a => (L.map fun t => if a = t.f0.toNat then paths Ls t.f2.toNat else 0).sum
def capT (now acc : List Int) (t : STile) : List Int := acc.set t.f2.toNat (cap (rd acc t.f2 + rd now t.f0))
def stepC (c : Nat) (now : List Int) (L : List STile) : List Int := L.foldl (capT now) (List.replicate c 0)
def waysC (c : Nat) (now : List Int) (Ls : List (List STile)) : List Int := Ls.foldl (stepC c) now
theorem addT_len (now acc : List Int) (t : STile) : (addT now acc t).length = acc.length := by simp [addT]
theorem fold_len (f : List Int → STile → List Int) (hf : ∀ a t, (f a t).length = a.length) (L : List STile) (acc : List Int) : (L.foldl f acc).length = acc.length := by
  induction L generalizing acc with
  | nil => rfl
  | cons t L ih => simp only [List.foldl_cons]; rw [ih, hf]
theorem stepW_len (c : Nat) (now : List Int) (L : List STile) : (stepW c now L).length = c := by
  rw [stepW, fold_len _ (fun a t => addT_len now a t)]; simp
theorem capT_len (now acc : List Int) (t : STile) : (capT now acc t).length = acc.length := by simp [capT]
theorem stepC_len (c : Nat) (now : List Int) (L : List STile) : (stepC c now L).length = c := by
  rw [stepC, fold_len _ (fun a t => capT_len now a t)]; simp
theorem rd_at {xs : List Int} {i : Int} (h : 0 ≤ i) : rd xs i = xs.getD i.toNat 0 := by simp [rd]
theorem fold_dot (c : Nat) (now : List Int) (p : Nat → Int) (hn : now.length = c) (L : List STile) (hL : Fine c L) (acc : List Int) (ha : acc.length = c) :
    dot (L.foldl (addT now) acc) p = dot acc p + dot now (fun a => (L.map fun t => if a = t.f0.toNat then p t.f2.toNat else 0).sum) := by
  induction L generalizing acc with
  | nil => simp [dot_nil]
  | cons t L ih =>
    obtain ⟨h0, h1, h2, h3⟩ := hL t (by simp)
    simp only [List.foldl_cons]
    rw [ih (fun u hu => hL u (List.mem_cons_of_mem _ hu)) _ (by rw [addT_len, ha])]
    rw [addT, dot_set _ _ _ _ (by omega), rd_at h2, rd_at h0]
    simp only [List.map_cons, List.sum_cons]
    rw [dot_add, dot_one _ _ _ (by omega)]
    have : acc.getD t.f2.toNat 0 + now.getD t.f0.toNat 0 - acc.getD t.f2.toNat 0 = now.getD t.f0.toNat 0 := by omega
    rw [this]; omega
theorem ways_dot (c : Nat) (Ls : List (List STile)) (now : List Int) (hn : now.length = c) (hL : ∀ L ∈ Ls, Fine c L) : (waysW c now Ls).sum = dot now (paths Ls) := by
  induction Ls generalizing now with
  | nil => simp only [waysW, List.foldl_nil]; rw [← dot_sum]; rfl
  | cons L Ls ih =>
    simp only [waysW, List.foldl_cons]
    rw [show List.foldl (stepW c) (stepW c now L) Ls = waysW c (stepW c now L) Ls from rfl, ih _ (stepW_len _ _ _) (fun M hM => hL M (List.mem_cons_of_mem _ hM))]
    rw [stepW, fold_dot c now _ hn L (hL L (by simp)) _ (by simp), dot_zero, Int.zero_add]
    rfl
def Cut (u v : List Int) : Prop := u.length = v.length ∧ (∀ i, 0 ≤ v.getD i 0) ∧ ∀ i, u.getD i 0 = cap (v.getD i 0)
theorem getD_set (v : List Int) (e i : Nat) (x : Int) (h : e < v.length) : (v.set e x).getD i 0 = if i = e then x else v.getD i 0 := by
  simp only [List.getD_eq_getElem?_getD, List.getElem?_set]
  by_cases hi : e = i
  · subst hi; simp [h]
  · simp [hi, Ne.symm hi]
theorem Cut.step {c : Nat} {u v a b : List Int} (hn : Cut u v) (ha : Cut a b) (hu : u.length = c) (hb : a.length = c) {t : STile} (ht : 0 ≤ t.f0 ∧ t.f0 < c ∧ 0 ≤ t.f2 ∧ t.f2 < c) : Cut (capT u a t) (addT v b t) := by
  obtain ⟨h0, h1, h2, h3⟩ := ht
  have hl := ha.1
  refine ⟨by rw [capT_len, addT_len]; exact ha.1, fun i => ?_, fun i => ?_⟩
  · rw [addT, getD_set _ _ _ _ (by omega)]
    split
    · rw [rd_at h2, rd_at h0]; have := ha.2.1 t.f2.toNat; have := hn.2.1 t.f0.toNat; omega
    · exact ha.2.1 i
  · rw [capT, addT, getD_set _ _ _ _ (by omega), getD_set _ _ _ _ (by omega)]
    split
    · rw [rd_at h2, rd_at h0, rd_at h2, rd_at h0, ha.2.2, hn.2.2, cap_add (ha.2.1 _) (hn.2.1 _)]
    · exact ha.2.2 i
theorem cut_zero (c : Nat) : Cut (List.replicate c 0) (List.replicate c 0) := by
  refine ⟨rfl, fun i => ?_, fun i => ?_⟩
  · simp [List.getD_eq_getElem?_getD, List.getElem?_replicate]; split <;> simp
  · have h : (List.replicate c (0 : Int)).getD i 0 = 0 := by simp [List.getD_eq_getElem?_getD, List.getElem?_replicate]; split <;> simp
    rw [h]; rfl
theorem cut_fold {c : Nat} {u v : List Int} (hn : Cut u v) (hu : u.length = c) (L : List STile) (hL : Fine c L) : ∀ a b : List Int, Cut a b → a.length = c → Cut (L.foldl (capT u) a) (L.foldl (addT v) b) := by
  induction L with
  | nil => intro a b h _; exact h
  | cons t L ih =>
    intro a b h ha
    simp only [List.foldl_cons]
    exact ih (fun s hs => hL s (List.mem_cons_of_mem _ hs)) _ _ (hn.step h hu ha (hL t (by simp))) (by rw [capT_len, ha])
theorem cut_ways {c : Nat} (Ls : List (List STile)) (hL : ∀ L ∈ Ls, Fine c L) : ∀ u v : List Int, Cut u v → u.length = c → Cut (waysC c u Ls) (waysW c v Ls) := by
  induction Ls with
  | nil => intro u v h _; exact h
  | cons L Ls ih =>
    intro u v h hu
    simp only [waysC, waysW, List.foldl_cons]
    exact ih (fun M hM => hL M (List.mem_cons_of_mem _ hM)) _ _ (cut_fold h hu L (hL L (by simp)) _ _ (cut_zero c) (by simp)) (stepC_len _ _ _)
theorem waysC_len (c : Nat) (Ls : List (List STile)) (u : List Int) (h : u.length = c) : (waysC c u Ls).length = c := by
  induction Ls generalizing u with
  | nil => exact h
  | cons L Ls ih => simp only [waysC, List.foldl_cons]; exact ih _ (stepC_len _ _ _)
def capSum (u : List Int) : Int := u.foldl (fun s x => cap (s + x)) 0
theorem capSum_go {u v : List Int} (h : u.length = v.length) (h0 : ∀ i, 0 ≤ v.getD i 0) (hc : ∀ i, u.getD i 0 = cap (v.getD i 0)) : ∀ s, 0 ≤ s → u.foldl (fun s x => cap (s + x)) (cap s) = cap (s + v.sum) := by
  induction u generalizing v with
  | nil =>
    intro s _
    have : v = [] := List.eq_nil_of_length_eq_zero h.symm
    subst this; simp
  | cons x xs ih =>
    intro s hs
    cases v with
    | nil => simp at h
    | cons y ys =>
      have hx := hc 0; have hy := h0 0
      simp only [List.getD_cons_zero] at hx hy
      simp only [List.foldl_cons, List.sum_cons]
      rw [hx, cap_add hs hy, ih (by simpa using h) (fun i => by have := h0 (i + 1); simpa using this) (fun i => by have := hc (i + 1); simpa using this) (s + y) (by omega), Int.add_assoc]
theorem capSum_cut {u v : List Int} (h : Cut u v) : capSum u = cap v.sum := by
  have := capSum_go h.1 h.2.1 h.2.2 0 (by omega)
  simpa [capSum, cap] using this
end Go.Proofs.Ytenlcakpcbmmdaa
namespace Go.Proofs.Ytenlcakpcbmmdaa.Q
open Go.RowKit Go.Proofs.YtenlcakpcbmmdaaW.PrintWords Go.Proofs.YtenlcakpcbmmdaaW.PrintLast Go.Proofs.YtenlcakpcbmmdaaW.PrintMore
attribute [local go_sem] max2_int min2_int max_two min_two max_three min_three max_four min_four
set_option linter.unusedVariables false
set_option linter.unusedSimpArgs false
def spec_l01Own.f (l0 : List Int) : Option (List Int) := (some (([] : List Int) : List Int)).bind fun y104 => (if y104.length + l0.length < 17592186044416 then (some (y104 ++ l0)) else (none))
set_option maxHeartbeats 8000000 in
set_option maxRecDepth 100000 in
theorem spec_l01Own.calls (A0 : Option Addr) (c0 : Nat) (l0 : List Int) (r : List Int) (w : World) (hr0 : Kd.C (Kd.int .i64) w A0 l0.length l0) (hc0 : l0.length ≤ c0) (h : spec_l01Own.f l0 = some r) :
  Calls Try.prog 91 #[.slice A0 l0.length c0] w fun e w' => ∃ v0_ : Value, e = .returned (v0_) ∧ Kd.R (Kd.int .i64) 2 w' w.heap.size (fun _ => True) v0_ r ∧ Below w.heap.size w w' := by
 have HR0 := Aside0.mk hr0
 have HC0 := Aside0.mk hc0
 clear hr0 hc0
 have HB := Aside0.mk (Below.refl w.heap.size w)
 have H : ((some (([] : List Int) : List Int)).bind fun y104 => (if y104.length + l0.length < 17592186044416 then (some (y104 ++ l0)) else (none))) = some r := h
 clear h
 obtain ⟨y104, hy104⟩ : ∃ y_ : List Int, y_ = (([] : List Int)) := ⟨_, rfl⟩
 replace H : (if y104.length + l0.length < 17592186044416 then (some (y104 ++ l0)) else (none)) = some r := by first | (rw [hy104]; with_reducible exact H) | (have H2_ := (Option.bind_some _ _).symm.trans H; rw [hy104]; with_reducible exact H2_) | (have H2_ := (Option.bind_some _ _).symm.trans H; with_reducible exact H2_) | with_reducible exact H | (rw [hy104]; exact H) | exact H
 have Ny104 := Aside0.mk hy104
 clear hy104
 by_cases c2 : y104.length + l0.length < 17592186044416
 ·rw [if_pos c2] at H
  have LMc2 := Aside0.mk c2
  clear c2
  obtain ⟨y107, hy107⟩ : ∃ y_ : List Int, y_ = (y104 ++ l0) := ⟨_, rfl⟩
  replace H : (some y107) = some r := by first | (rw [hy107]; with_reducible exact H) | (have H2_ := (Option.bind_some _ _).symm.trans H; rw [hy107]; with_reducible exact H2_) | (have H2_ := (Option.bind_some _ _).symm.trans H; with_reducible exact H2_) | with_reducible exact H | (rw [hy107]; exact H) | exact H
  have Ny107 := Aside0.mk hy107
  clear hy107
  obtain rfl := Option.some.inj H
  go_enter Try.func91, Try.ntmps91
  go_wp2_with (first | ((with_reducible refine gate_dst (N := 3) rfl ?_); refine Kd.R_lit (Kd.int .i64) _ 2 ?hg (N := 3) ?hd (xs := ([] : List Int)) (inner := []) (ok := fun _ => True) (okp := fun _ => True) ?hr ?hp (fun _ hk => hk) trivial (Below.refl _ _) (Nat.le_refl _) (by simp) ?_; (case hd => rfl); (case hg => rfl); (case hr => first | (go_simp; done) | (go_simp; rfl)); (case hp => exact (Reps.none _ _)); intro v105 w3 ho4 hb hg_ hnew_; clear hg_ hnew_; (first | rw [← Ny104.out] at ho4 | (simp only [Int.reduceToNat] at ho4; rw [← Ny104.out] at ho4)); have n0_ := Aside0.mk (Kd.R_lower ho4 (below_size (by repeat (first | (with_reducible first | exact HB.out | apply below_alloc | apply pw_below_drewN | apply below_drew1) | exact HB.out)))); have n1_ := Aside0.mk (below_step (by repeat (first | (with_reducible first | exact HB.out | apply below_alloc | apply pw_below_drewN | apply below_drew1) | exact HB.out)) hb); clear HB; have HO106 := n0_; have HB := n1_; clear n0_ n1_; clear hb ho4) | ((with_reducible refine gate_builtin (b := .append) (xs := #[.tmp 3, .tmp 4]) rfl ?_); at_builtin; refine Kd.R_append_rows (Kd.int .i64) (w0 := w) w.heap.size rfl (.tmp 3) (.tmp 4) 34 2 (.int .i64 0) 8 rfl Try.underlying34 info2 rfl (by decide) (by omega) v105 y104 l0 _ _ _ (fun _ => True) (fun _ => False) rfl rfl ?aO ?aR (fun _ _ h => h) (fun _ h => h.elim) ?aF ?aB ?aS ?aL ?_; (case aR => repeat (first | exact (Kd.C_below HR0.out HB.out) | (with_reducible refine Kd.C_alloc ?_ _) | (with_reducible refine Kd.C_drewN ?_ _) | (with_reducible refine Kd.C_drew ?_))); (case aB => exact (by repeat (first | (with_reducible first | exact HB.out | apply below_alloc | apply pw_below_drewN | apply below_drew1) | exact HB.out))); (case aF => exact (fun _ _ => trivial)); (case aO => exact (by (with_reducible repeat (first | apply Kd.R_alloc | apply Kd.R_drewN | apply Kd.R_drew)); exact HO106.out)); (case aS => exact (below_size (by repeat (first | (with_reducible first | exact HB.out | apply below_alloc | apply pw_below_drewN | apply below_drew1) | exact HB.out)))); (case aL => have := LMc2.out; omega); intro v108 w5 ho hb hg hat; rw [← Ny107.out] at ho; have n0_ := Aside0.mk (hb); have n1_ := Aside0.mk (ho); clear HB; clear HO106; have HB := n0_; have HO109 := n1_; clear n0_ n1_; clear ho hb hg hat))
  go_ret
  exact ⟨_, by first | rfl | (simp [errW_none, errW_some] <;> rfl) | (simp [*, errW_none, errW_some] <;> rfl), by (with_reducible repeat (first | apply Kd.R_alloc | apply Kd.R_drewN | apply Kd.R_drew)); exact HO109.out, by repeat (first | (with_reducible first | exact HB.out | apply below_alloc | apply pw_below_drewN | apply below_drew1) | exact HB.out)⟩
 ·rw [if_neg c2] at H
  exact absurd H (by simp)
end Go.Proofs.Ytenlcakpcbmmdaa.Q
namespace Go.Proofs.Ytenlcakpcbmmdaa.Q
open Go.RowKit Go.Proofs.YtenlcakpcbmmdaaW.PrintWords Go.Proofs.YtenlcakpcbmmdaaW.PrintLast Go.Proofs.YtenlcakpcbmmdaaW.PrintMore
attribute [local go_sem] max2_int min2_int max_two min_two max_three min_three max_four min_four
set_option linter.unusedVariables false
set_option linter.unusedSimpArgs false
mutual
def spec_l02Ways.l0 : Nat → Int → List Int → List Int → Int → Int → List (S77) → Option (List Int)
 | 0, _, _, _, _, _, _ => none
 | k + 1, x2, x3, x9, x10, x111000, x111001 => if x10 < x2 then (if 0 ≤ x111000 then (if (x111000 : Int).toNat ≤ 35184372088832 then (spec_l02Ways.l1 k x2 x3 x9 x10 (List.replicate (x111000 : Int).toNat 0) 0 x111000 x111001) else (none)) else (none)) else (some x9)
def spec_l02Ways.l1 : Nat → Int → List Int → List Int → Int → List Int → Int → Int → List (S77) → Option (List Int)
 | 0, _, _, _, _, _, _, _, _ => none
 | k + 1, x2, x3, x9, x10, x11, x12, x111000, x111001 => if x12 < (x111001.length : Int) then (if 0 ≤ x12 then (if (x3.length : Int) > 0 then (if 0 ≤ x10 then (if x10 < (x3.length : Int) then (if (rd x3 x10) = ((rd_T77 x111001 x12).f1) then (if 0 ≤ ((rd_T77 x111001 x12).f2) then (if ((rd_T77 x111001 x12).f2) < (x11.length : Int) then (if 0 ≤ ((rd_T77 x111001 x12).f0) then (if ((rd_T77 x111001 x12).f0) < (x9.length : Int) then (spec_l02Ways.l1 k x2 x3 x9 x10 (x11.set (((rd_T77 x111001 x12).f2) : Int).toNat (mn (wrap64 ((rd x11 ((rd_T77 x111001 x12).f2)) + (rd x9 ((rd_T77 x111001 x12).f0)))) 1000000000000001)) (wrap64 (x12 + 1)) x111000 x111001) else (none)) else (none)) else (none)) else (none)) else (spec_l02Ways.l1 k x2 x3 x9 x10 x11 (wrap64 (x12 + 1)) x111000 x111001)) else (none)) else (none)) else (if 0 ≤ ((rd_T77 x111001 x12).f2) then (if ((rd_T77 x111001 x12).f2) < (x11.length : Int) then (if 0 ≤ ((rd_T77 x111001 x12).f0) then (if ((rd_T77 x111001 x12).f0) < (x9.length : Int) then (spec_l02Ways.l1 k x2 x3 x9 x10 (x11.set (((rd_T77 x111001 x12).f2) : Int).toNat (mn (wrap64 ((rd x11 ((rd_T77 x111001 x12).f2)) + (rd x9 ((rd_T77 x111001 x12).f0)))) 1000000000000001)) (wrap64 (x12 + 1)) x111000 x111001) else (none)) else (none)) else (none)) else (none))) else (none)) else (spec_l02Ways.l0 k x2 x3 x11 (wrap64 (x10 + 1)) x111000 x111001)
end
def spec_l02Ways.f (k : Nat) (a0_0 : Int) (l0_1 : List (S77)) (l1 : List Int) (a2 : Int) (l3 : List Int) : Option (List Int) := (spec_l01Own.f l1).bind fun t111 => (spec_l02Ways.l0 k a2 l3 t111 0 a0_0 l0_1)
theorem spec_l02Ways.mono_l : ∀ k, (∀ y0 y1 y2 y3 y4 y5, LeO (spec_l02Ways.l0 k y0 y1 y2 y3 y4 y5) (spec_l02Ways.l0 (k + 1) y0 y1 y2 y3 y4 y5)) ∧ (∀ y0 y1 y2 y3 y4 y5 y6 y7, LeO (spec_l02Ways.l1 k y0 y1 y2 y3 y4 y5 y6 y7) (spec_l02Ways.l1 (k + 1) y0 y1 y2 y3 y4 y5 y6 y7))
 | 0 => ⟨fun _ _ _ _ _ _ r h => by simp [spec_l02Ways.l0] at h, fun _ _ _ _ _ _ _ _ r h => by simp [spec_l02Ways.l1] at h⟩
 | k + 1 => by
  obtain ⟨ih0, ih1⟩ := spec_l02Ways.mono_l k
  refine ⟨?_, ?_⟩
  ·intro y0 y1 y2 y3 y4 y5
   unfold spec_l02Ways.l0
   repeat' first
   | (with_reducible exact ih0 _ _ _ _ _ _)
   | (with_reducible exact ih1 _ _ _ _ _ _ _ _)
   | (with_reducible exact LeO.refl _)
   | (with_reducible exact LeO.none _)
   | (with_reducible refine LeO.ite ?_ ?_)
   | (with_reducible refine LeO.bind ?_ (fun _ => ?_))
   | exact ih0 _ _ _ _ _ _
   | exact ih1 _ _ _ _ _ _ _ _
   | exact LeO.none _
   | refine LeO.ite ?_ ?_
   | refine LeO.bind ?_ (fun _ => ?_)
  ·intro y0 y1 y2 y3 y4 y5 y6 y7
   unfold spec_l02Ways.l1
   repeat' first
   | (with_reducible exact ih0 _ _ _ _ _ _)
   | (with_reducible exact ih1 _ _ _ _ _ _ _ _)
   | (with_reducible exact LeO.refl _)
   | (with_reducible exact LeO.none _)
   | (with_reducible refine LeO.ite ?_ ?_)
   | (with_reducible refine LeO.bind ?_ (fun _ => ?_))
   | exact ih0 _ _ _ _ _ _
   | exact ih1 _ _ _ _ _ _ _ _
   | exact LeO.none _
   | refine LeO.ite ?_ ?_
   | refine LeO.bind ?_ (fun _ => ?_)
theorem spec_l02Ways.mono : ∀ a0 a1 a2 a3 a4 k, LeO (spec_l02Ways.f k a0 a1 a2 a3 a4) (spec_l02Ways.f (k + 1) a0 a1 a2 a3 a4) := by
 intro a0 a1 a2 a3 a4 k
 obtain ⟨ih0, ih1⟩ := spec_l02Ways.mono_l k
 unfold spec_l02Ways.f
 repeat' first
   | (with_reducible exact ih0 _ _ _ _ _ _)
   | (with_reducible exact ih1 _ _ _ _ _ _ _ _)
   | (with_reducible exact LeO.refl _)
   | (with_reducible exact LeO.none _)
   | (with_reducible refine LeO.ite ?_ ?_)
   | (with_reducible refine LeO.bind ?_ (fun _ => ?_))
   | exact ih0 _ _ _ _ _ _
   | exact ih1 _ _ _ _ _ _ _ _
   | exact LeO.none _
   | refine LeO.ite ?_ ?_
   | refine LeO.bind ?_ (fun _ => ?_)
def spec_l02Ways.T10 : Bool × List (List Nat × List Nat) := (true, [([], []), ([0], [0]), ([1], [1]), ([2], [2]), ([3], [3]), ([3], [3]), ([4, 5, 3], [3, 4, 5]), ([6, 3], [3, 6]), ([3], [3]), ([8, 3], [3, 8]), ([7, 9, 3], [3, 7, 9]), ([3, 10], [3, 10])])
def spec_l02Ways.B10 : List Nat := [0, 1, 3, 7, 15, 15, 63, 127, 15, 271, 1023, 2047]
theorem spec_l02Ways.tab10 : rtab .any (opsOf Try.f51 10) = spec_l02Ways.T10 := by kernel_rfl
theorem spec_l02Ways.bits10 : waitsOk spec_l02Ways.T10.2 spec_l02Ways.B10 = true := by kernel_rfl
def spec_l02Ways.T11 : Bool × List (List Nat × List Nat) := (true, [([], []), ([], []), ([1], [1]), ([], []), ([], []), ([4], [4]), ([3, 5], [3, 5]), ([6], [6]), ([], []), ([], []), ([9], [9]), ([8, 10], [8, 10]), ([11], [11]), ([7, 12], [7, 12]), ([13], [13]), ([0, 2, 0, 1, 2, 3, 4, 5, 6, 7, 8, 9, 10, 11, 12, 13, 14], [0, 2]), ([15, 14, 0, 1, 2, 3, 4, 5, 6, 7, 8, 9, 10, 11, 12, 13, 14], [14, 15])])
def spec_l02Ways.B11 : List Nat := [0, 0, 2, 0, 0, 16, 56, 120, 0, 0, 512, 1792, 3840, 8184, 16376, 32767, 65535]
theorem spec_l02Ways.tab11 : rtab .any (opsOf Try.f51 11) = spec_l02Ways.T11 := by kernel_rfl
theorem spec_l02Ways.bits11 : waitsOk spec_l02Ways.T11.2 spec_l02Ways.B11 = true := by kernel_rfl
set_option maxHeartbeats 8000000 in
set_option maxRecDepth 100000 in
theorem spec_l02Ways.calls (k : Nat) (a0_0 : Int) (A0_1 : Option Addr) (c0_1 : Nat) (l0_1 : List (S77)) (A1 : Option Addr) (c1 : Nat) (l1 : List Int) (a2 : Int) (A3 : Option Addr) (c3 : Nat) (l3 : List Int) (r : List Int) (w : World) (hr0_1 : Kd.C k77 w A0_1 l0_1.length l0_1) (hc0_1 : l0_1.length ≤ c0_1) (hr1 : Kd.C (Kd.int .i64) w A1 l1.length l1) (hc1 : l1.length ≤ c1) (hr3 : Kd.C (Kd.int .i64) w A3 l3.length l3) (hc3 : l3.length ≤ c3) (h : spec_l02Ways.f k a0_0 l0_1 l1 a2 l3 = some r) :
  Calls Try.prog 51 #[.agg #[.int .i64 a0_0, .slice A0_1 l0_1.length c0_1], .slice A1 l1.length c1, .int .i64 a2, .slice A3 l3.length c3] w fun e w' => ∃ v0_ : Value, e = .returned (v0_) ∧ Kd.R (Kd.int .i64) 2 w' w.heap.size (fun _ => True) v0_ r ∧ Below w.heap.size w w' := by
 have hu30 := Try.underlying30
 have hu77 := Try.underlying77
 have HR0_1 := Aside0.mk hr0_1
 have HC0_1 := Aside0.mk hc0_1
 clear hr0_1 hc0_1
 have HR1 := Aside0.mk hr1
 have HC1 := Aside0.mk hc1
 clear hr1 hc1
 have HR3 := Aside0.mk hr3
 have HC3 := Aside0.mk hc3
 clear hr3 hc3
 have HB := Aside0.mk (Below.refl w.heap.size w)
 have H : ((spec_l01Own.f l1).bind fun t111 => (spec_l02Ways.l0 k a2 l3 t111 0 a0_0 l0_1)) = some r := h
 clear h
 replace H := Option.bind_eq_some_iff.mp H
 obtain ⟨t111, A50, H⟩ := H
 replace H : (spec_l02Ways.l0 k a2 l3 t111 0 a0_0 l0_1) = some r := H
 have A5 := Aside0.mk A50
 clear A50
 have H' := Aside0.mk H
 clear H
 go_enter Try.func51, Try.ntmps51
 go_wp2_with (first | ((with_reducible refine gate_dst (N := 4) rfl ?_); refine box_event ?hg (N := 4) ?hd (cs := #[.int .i64 a0_0, .slice A0_1 l0_1.length c0_1]) (t := 30) ?hr ?_; (case hd => rfl); (case hg => rfl); (case hr => first | (go_simp; done) | (go_simp; rfl)); intro gb110 hg w6 hbox hb; have n0_ := Aside0.mk (below_step (by repeat (first | (with_reducible first | exact HB.out | apply below_alloc | apply pw_below_drewN | apply below_drew1) | exact HB.out)) hb); have n1_ := Aside0.mk (hbox); have n2_ := Aside0.mk ((by rw [hg]; exact (below_size (by repeat (first | (with_reducible first | exact HB.out | apply below_alloc | apply pw_below_drewN | apply below_drew1) | exact HB.out))) : w.heap.size ≤ gb110)); have n3_ := Aside0.mk ((by rw [hg]; exact (below_size (by repeat (first | (with_reducible first | exact HB.out | apply below_alloc | apply pw_below_drewN | apply below_drew1) | exact HB.out))) : w.heap.size ≤ gb110)); clear HB; have HB := n0_; have BK110 := n1_; have GW110 := n2_; have GE110 := n3_; clear n0_ n1_ n2_ n3_; clear hb hbox hg) | ((with_reducible refine gate_callee (f := 91) rfl ?_); refine goesL_ (some 15) rfl rfl Try.func91 (by kernel_rfl) rfl #[.slice A1 l1.length c1] rfl (by (try simp only [List.map_toArray, List.map_cons, List.map_nil]); first | done | rfl | (simp only [List.length_drop, List.length_take]; rfl)) ?_; (with_reducible refine (spec_l01Own.calls _ _ l1 t111 _ ?side1 ?side2 A5.out).mono ?_); (case side1 => repeat (first | exact (Kd.C_below HR1.out HB.out) | (with_reducible refine Kd.C_alloc ?_ _) | (with_reducible refine Kd.C_drewN ?_ _) | (with_reducible refine Kd.C_drew ?_))); (case side2 => exact HC1.out); rintro e w7 ⟨v112, rfl, ho0, hb⟩; refine ⟨_, rfl, ?_⟩; have n0_ := Aside0.mk (Kd.R_lower ho0 (below_size (by repeat (first | (with_reducible first | exact HB.out | apply below_alloc | apply pw_below_drewN | apply below_drew1 | refine below_set ?_ GE110.out) | exact HB.out)))); have n1_ := Aside0.mk (blk_below (g := gb110) (o := .cells #[.int .i64 a0_0, .slice A0_1 l0_1.length c0_1] 30 (0, 0)) (by (with_reducible repeat (first | refine blk_drewN ?_ _ | refine blk_drew ?_ | refine blk_alloc ?_ _)); exact BK110.out) hb); have n2_ := Aside0.mk (below_step (by repeat (first | (with_reducible first | exact HB.out | apply below_alloc | apply pw_below_drewN | apply below_drew1 | refine below_set ?_ GE110.out) | exact HB.out)) hb); clear BK110; clear HB; have HO113 := n0_; have BK110 := n1_; have HB := n2_; clear n0_ n1_ n2_; (try clear hb); (try clear hb2); (try clear hk); (try clear hi); (try clear ho0)))
 go_loopg [9, 10] k (fun kq v9 v10 w' => ∃ (x9_1 : List Int) (x10_1 : Int), v10 = .int .i64 x10_1 ∧ Aside0 (spec_l02Ways.l0 kq a2 l3 x9_1 x10_1 a0_0 l0_1 = some r) ∧ Aside0 (kq ≤ k) ∧ Aside0 (Kd.R (Kd.int .i64) 2 w' w.heap.size (fun _ => True) v9 x9_1) ∧ Aside0 (w'.heap[gb110]? = some (.cells #[.int .i64 a0_0, (.slice A0_1 l0_1.length c0_1)] 30 (0, 0))) ∧ Aside0 (Below w.heap.size w w'))
 case atStart => exact ⟨(t111), (0), (by first | rfl | (simp; done) | (simp [*]; done)), H', ⟨Nat.le_refl _⟩, ⟨by (with_reducible repeat (first | apply Kd.R_alloc | apply Kd.R_drewN | apply Kd.R_drew)); exact HO113.out⟩, ⟨by (with_reducible repeat (first | refine blk_drewN ?_ _ | refine blk_drew ?_ | refine blk_alloc ?_ _)); exact BK110.out⟩, ⟨by repeat (first | (with_reducible first | exact HB.out | apply below_alloc | apply pw_below_drewN | apply below_drew1 | refine below_set ?_ GE110.out) | exact HB.out)⟩⟩
 case round =>
  clear H'
  try clear c1
  try clear p2
  try clear c3
  try clear c5
  obtain ⟨x9_1, x10_1, rfl, HA, HK1, HO_9, BK110, HB⟩ := hrel
  cases gk with
  | zero => exact absurd HA.out (by simp [spec_l02Ways.l0])
  | succ k1 =>
   have H := HA.out
   clear HA
   simp only [spec_l02Ways.l0] at H
   by_cases c8 : x10_1 < a2
   ·rw [if_pos c8] at H
    have c8b0 : decide (x10_1 < a2) = true := decide_eq_true c8
    clear c8
    by_cases c9 : 0 ≤ a0_0
    ·rw [if_pos c9] at H
     have c9b0 := eq_true c9
     have c9b1 : decide (0 ≤ a0_0) = true := decide_eq_true c9
     clear c9
     by_cases c10 : (a0_0 : Int).toNat ≤ 35184372088832
     ·rw [if_pos c10] at H
      have c10b0 := eq_true c10
      have c10b1 : decide ((a0_0 : Int).toNat ≤ 35184372088832) = true := decide_eq_true c10
      clear c10
      obtain ⟨y114, hy114⟩ : ∃ y_ : List Int, y_ = (List.replicate (a0_0 : Int).toNat 0) := ⟨_, rfl⟩
      replace H : (spec_l02Ways.l1 k1 a2 l3 x9_1 x10_1 y114 0 a0_0 l0_1) = some r := by first | (rw [hy114]; with_reducible exact H) | (have H2_ := (Option.bind_some _ _).symm.trans H; rw [hy114]; with_reducible exact H2_) | (have H2_ := (Option.bind_some _ _).symm.trans H; with_reducible exact H2_) | with_reducible exact H | (rw [hy114]; exact H) | exact H
      have Ny114 := Aside0.mk hy114
      clear hy114
      have H' := Aside0.mk H
      clear H
      have hcz11_0 : wr.cell? ⟨gb110, 0, none⟩ = some (.int .i64 a0_0) := (blk_cell BK110.out 0).trans rfl
      have hcz11_1 : wr.cell? ⟨gb110, 1, none⟩ = some (.slice A0_1 l0_1.length c0_1) := (blk_cell BK110.out 1).trans rfl
      have hfz11_0 := blk_frozen BK110.out 0
      have hfz11_1 := blk_frozen BK110.out 1
      go_wp2_with (first | ((with_reducible refine gate_dst (N := 23) rfl ?_); refine Kd.R_make (Kd.int .i64) _ 2 rfl (N := 23) rfl 34 _ _ rfl a0_0 rfl rfl Try.underlying34 (.int .i64 0) 8 info2 rfl (by decide) (by omega) 0 (ok := fun _ => True) (okp := fun _ => True) rfl (fun _ hk => hk) trivial (of_decide_eq_true (by first | (with_reducible assumption) | assumption)) (Nat.le_trans (Nat.mul_le_mul_right _ (of_decide_eq_true (by first | (with_reducible assumption) | assumption) : a0_0.toNat ≤ 35184372088832)) (by omega)) (Below.refl _ _) (Nat.le_refl _) ?_; intro v115 w12 ho13 hb hg_ hnew_; clear hg_ hnew_; (first | rw [← Ny114.out] at ho13 | (simp only [Int.reduceToNat] at ho13; rw [← Ny114.out] at ho13)); have n0_ := Aside0.mk (Kd.R_elder' (by (with_reducible repeat (first | apply Kd.R_alloc | apply Kd.R_drewN | apply Kd.R_drew)); exact HO_9.out) (Kd.R_base ho13) hb); have n1_ := Aside0.mk (Kd.R_lower (Kd.R_new' ho13 (Kd.R_lt (by (with_reducible repeat (first | apply Kd.R_alloc | apply Kd.R_drewN | apply Kd.R_drew)); exact HO_9.out))) (below_size (by repeat (first | (with_reducible first | exact HB.out | apply below_alloc | apply pw_below_drewN | apply below_drew1 | refine below_set ?_ GE110.out) | exact HB.out)))); have n2_ := Aside0.mk (blk_below (g := gb110) (o := .cells #[.int .i64 a0_0, .slice A0_1 l0_1.length c0_1] 30 (0, 0)) (by (with_reducible repeat (first | refine blk_drewN ?_ _ | refine blk_drew ?_ | refine blk_alloc ?_ _)); exact BK110.out) hb); have n3_ := Aside0.mk (below_step (by repeat (first | (with_reducible first | exact HB.out | apply below_alloc | apply pw_below_drewN | apply below_drew1 | refine below_set ?_ GE110.out) | exact HB.out)) hb); clear HO_9; clear BK110; clear HB; have HO_9 := n0_; have HO116 := n1_; have BK110 := n2_; have HB := n3_; clear n0_ n1_ n2_ n3_; clear hb ho13))
      go_loopg [12] k1 (fun kq v12 w' => ∃ (x11_2 : List Int) (x12_2 : Int), v12 = .int .i64 x12_2 ∧ Aside0 (spec_l02Ways.l1 kq a2 l3 x9_1 x10_1 x11_2 x12_2 a0_0 l0_1 = some r) ∧ Aside0 (kq ≤ k1) ∧ Aside0 (Kd.R (Kd.int .i64) 2 w' w.heap.size (fun k_ => some k_ ≠ (v115 : Value).ownBlock) u9 x9_1) ∧ Aside0 (Kd.R (Kd.int .i64) 2 w' w.heap.size (fun k_ => some k_ ≠ (u9 : Value).ownBlock) v115 x11_2) ∧ Aside0 (w'.heap[gb110]? = some (.cells #[.int .i64 a0_0, (.slice A0_1 l0_1.length c0_1)] 30 (0, 0))) ∧ Aside0 (Below w.heap.size w w'))
      case atStart => exact ⟨(y114), (0), (by first | rfl | (simp; done) | (simp [*]; done)), H', ⟨Nat.le_refl _⟩, ⟨by (with_reducible repeat (first | apply Kd.R_alloc | apply Kd.R_drewN | apply Kd.R_drew)); exact Kd.R_mono HO_9.out (fun _ hk => hk.2)⟩, ⟨by (with_reducible repeat (first | apply Kd.R_alloc | apply Kd.R_drewN | apply Kd.R_drew)); exact Kd.R_mono HO116.out (fun _ hk => hk.2)⟩, ⟨by (with_reducible repeat (first | refine blk_drewN ?_ _ | refine blk_drew ?_ | refine blk_alloc ?_ _)); exact BK110.out⟩, ⟨by repeat (first | (with_reducible first | exact HB.out | apply below_alloc | apply pw_below_drewN | apply below_drew1 | refine below_set ?_ GE110.out) | exact HB.out)⟩⟩
      case round =>
       clear H'
       try clear c1
       try clear p2
       try clear c3
       try clear c5
       try clear c8
       try clear c8b0
       try clear c9
       try clear c9b0
       try clear c9b1
       try clear c10
       try clear c10b0
       try clear c10b1
       try clear hcz11_0
       try clear hcz11_1
       try clear hfz11_0
       try clear hfz11_1
       try clear p2
       obtain ⟨x11_2, x12_2, rfl, HA, HK2, HO_9, HO_11, BK110, HB⟩ := hrel
       cases gk with
       | zero => exact absurd HA.out (by simp [spec_l02Ways.l1])
       | succ k2 =>
        have H := HA.out
        clear HA
        simp only [spec_l02Ways.l1] at H
        by_cases c14 : x12_2 < (l0_1.length : Int)
        ·rw [if_pos c14] at H
         have c14b0 : decide (x12_2 < (l0_1.length : Int)) = true := decide_eq_true c14
         clear c14
         by_cases c15 : 0 ≤ x12_2
         ·rw [if_pos c15] at H
          have c15b0 : decide (0 ≤ x12_2) = true := decide_eq_true c15
          clear c15
          by_cases c16 : (l3.length : Int) > 0
          ·rw [if_pos c16] at H
           have c16b0 : decide (0 < (l3.length : Int)) = true := decide_eq_true c16
           have c16b1 : decide (0 < l3.length) = true := decide_eq_true (by omega)
           clear c16
           by_cases c17 : 0 ≤ x10_1
           ·rw [if_pos c17] at H
            have c17b0 : decide (0 ≤ x10_1) = true := decide_eq_true c17
            clear c17
            by_cases c18 : x10_1 < (l3.length : Int)
            ·rw [if_pos c18] at H
             have c18b0 : decide (x10_1 < (l3.length : Int)) = true := decide_eq_true c18
             clear c18
             by_cases c19 : (rd l3 x10_1) = ((rd_T77 l0_1 x12_2).f1)
             ·rw [if_pos c19] at H
              have c19b0 : ((rd l3 x10_1) == ((rd_T77 l0_1 x12_2).f1)) = true := beq_iff_eq.mpr c19
              have c19b1 : ((rd l3 x10_1) != ((rd_T77 l0_1 x12_2).f1)) = false := bne_eq_false_iff_eq.mpr c19
              clear c19
              by_cases c20 : 0 ≤ ((rd_T77 l0_1 x12_2).f2)
              ·rw [if_pos c20] at H
               have c20b0 : decide (0 ≤ ((rd_T77 l0_1 x12_2).f2)) = true := decide_eq_true c20
               clear c20
               by_cases c21 : ((rd_T77 l0_1 x12_2).f2) < (x11_2.length : Int)
               ·rw [if_pos c21] at H
                have c21b0 : decide (((rd_T77 l0_1 x12_2).f2) < (x11_2.length : Int)) = true := decide_eq_true c21
                clear c21
                by_cases c22 : 0 ≤ ((rd_T77 l0_1 x12_2).f0)
                ·rw [if_pos c22] at H
                 have c22b0 : decide (0 ≤ ((rd_T77 l0_1 x12_2).f0)) = true := decide_eq_true c22
                 clear c22
                 by_cases c23 : ((rd_T77 l0_1 x12_2).f0) < (x9_1.length : Int)
                 ·rw [if_pos c23] at H
                  have c23b0 : decide (((rd_T77 l0_1 x12_2).f0) < (x9_1.length : Int)) = true := decide_eq_true c23
                  clear c23
                  obtain ⟨ji24, hji24⟩ : ∃ j_ : Int, (mn (wrap64 ((rd x11_2 ((rd_T77 l0_1 x12_2).f2)) + (rd x9_1 ((rd_T77 l0_1 x12_2).f0)))) 1000000000000001) = j_ := ⟨_, rfl⟩
                  replace H : (spec_l02Ways.l1 k2 a2 l3 x9_1 x10_1 (x11_2.set (((rd_T77 l0_1 x12_2).f2) : Int).toNat (ji24)) (wrap64 (x12_2 + 1)) a0_0 l0_1) = some r := by first | (rw [hji24] at H; exact H) | (simp only [hji24] at H ⊢; exact H)
                  have hji24_ : (if 1000000000000001 < (wrap64 ((rd x11_2 ((rd_T77 l0_1 x12_2).f2)) + (rd x9_1 ((rd_T77 l0_1 x12_2).f0)))) then 1000000000000001 else (wrap64 ((rd x11_2 ((rd_T77 l0_1 x12_2).f2)) + (rd x9_1 ((rd_T77 l0_1 x12_2).f0))))) = ji24 := hji24
                  obtain ⟨y122, hy122⟩ : ∃ y_ : List Int, y_ = (x11_2.set (((rd_T77 l0_1 x12_2).f2) : Int).toNat (ji24)) := ⟨_, rfl⟩
                  replace H : (spec_l02Ways.l1 k2 a2 l3 x9_1 x10_1 y122 (wrap64 (x12_2 + 1)) a0_0 l0_1) = some r := by first | (rw [hy122]; with_reducible exact H) | (have H2_ := (Option.bind_some _ _).symm.trans H; rw [hy122]; with_reducible exact H2_) | (have H2_ := (Option.bind_some _ _).symm.trans H; with_reducible exact H2_) | with_reducible exact H | (rw [hy122]; exact H) | exact H
                  have Ny122 := Aside0.mk hy122
                  clear hy122
                  have H' := Aside0.mk H
                  clear H
                  have hcz26_0 : wr.cell? ⟨gb110, 0, none⟩ = some (.int .i64 a0_0) := (blk_cell BK110.out 0).trans rfl
                  have hcz26_1 : wr.cell? ⟨gb110, 1, none⟩ = some (.slice A0_1 l0_1.length c0_1) := (blk_cell BK110.out 1).trans rfl
                  have hfz26_0 := blk_frozen BK110.out 0
                  have hfz26_1 := blk_frozen BK110.out 1
                  have p117 : 0 ≤ (x12_2 : Int) := of_decide_eq_true (by first | (with_reducible assumption) | assumption)
                  have q117 : x12_2 < (l0_1.length : Int) := of_decide_eq_true (by first | (with_reducible assumption) | assumption)
                  obtain ⟨ad117, e117, hx117_0, hx117_1, hx117_2, hx117_3⟩ := at_T77 HR0_1.out x12_2 p117 q117
                  cases e117
                  replace hx117_0 := (HB.out.cell (World.block_lt_of_cell? w _ hx117_0)).trans hx117_0
                  replace hx117_1 := (HB.out.cell (World.block_lt_of_cell? w _ hx117_1)).trans hx117_1
                  replace hx117_2 := (HB.out.cell (World.block_lt_of_cell? w _ hx117_2)).trans hx117_2
                  replace hx117_3 := (HB.out.cell (World.block_lt_of_cell? w _ hx117_3)).trans hx117_3
                  replace p117 := eq_true p117
                  replace q117 := eq_true q117
                  try go_wp2_with (first | ((with_reducible refine gate_dst (N := 13) rfl ?_); refine box_event ?hg (N := 13) ?hd (cs := #[.int .i64 0, .int .i64 0, .int .i64 0, .int .i64 0]) (t := 77) ?hr ?_; (case hd => rfl); (case hg => rfl); (case hr => first | (go_simp; done) | (go_simp; rfl)); intro gb118 hg w27 hbox hb; have n0_ := Aside0.mk (Kd.R_below (by (with_reducible repeat (first | apply Kd.R_alloc | apply Kd.R_drewN | apply Kd.R_drew)); exact HO_9.out) hb); have n1_ := Aside0.mk (Kd.R_below (by (with_reducible repeat (first | apply Kd.R_alloc | apply Kd.R_drewN | apply Kd.R_drew)); exact HO_11.out) hb); have n2_ := Aside0.mk (blk_below (g := gb110) (o := .cells #[.int .i64 a0_0, .slice (some ad117) l0_1.length c0_1] 30 (0, 0)) (by (with_reducible repeat (first | refine blk_drewN ?_ _ | refine blk_drew ?_ | refine blk_alloc ?_ _)); exact BK110.out) hb); have n3_ := Aside0.mk (below_step (by repeat (first | (with_reducible first | exact HB.out | apply below_alloc | apply pw_below_drewN | apply below_drew1 | refine below_set ?_ GE110.out) | exact HB.out)) hb); have n4_ := Aside0.mk (hbox); have n5_ := Aside0.mk ((by rw [hg]; exact (below_size (by repeat (first | (with_reducible first | exact HB.out | apply below_alloc | apply pw_below_drewN | apply below_drew1 | refine below_set ?_ GE110.out) | exact HB.out))) : w.heap.size ≤ gb118)); have n6_ := Aside0.mk ((by rw [hg]; exact (below_size (by repeat (first | (with_reducible first | exact HB.out | apply below_alloc | apply pw_below_drewN | apply below_drew1 | refine below_set ?_ GE110.out) | exact HB.out))) : w.heap.size ≤ gb118)); have n7_ := Aside0.mk ((by rw [hg]; exact Nat.ne_of_lt (blk_lt (g := gb110) (o := .cells #[.int .i64 a0_0, .slice (some ad117) l0_1.length c0_1] 30 (0, 0)) (by (with_reducible repeat (first | refine blk_drewN ?_ _ | refine blk_drew ?_ | refine blk_alloc ?_ _)); exact BK110.out)) : gb110 ≠ gb118)); have n8_ := Aside0.mk ((by rw [hg]; exact Nat.ne_of_gt (blk_lt (g := gb110) (o := .cells #[.int .i64 a0_0, .slice (some ad117) l0_1.length c0_1] 30 (0, 0)) (by (with_reducible repeat (first | refine blk_drewN ?_ _ | refine blk_drew ?_ | refine blk_alloc ?_ _)); exact BK110.out)) : gb118 ≠ gb110)); clear HO_9; clear HO_11; clear BK110; clear HB; have HO_9 := n0_; have HO_11 := n1_; have BK110 := n2_; have HB := n3_; have BK118 := n4_; have GW118 := n5_; have GE118 := n6_; have NB110_118 := n7_; have NB118_110 := n8_; clear n0_ n1_ n2_ n3_ n4_ n5_ n6_ n7_ n8_; clear hb hbox hg; have hnb28 := NB118_110.out; have hnc28 := NB110_118.out; have hcz29_0 : w27.cell? ⟨gb118, 0, none⟩ = some (.int .i64 0) := (blk_cell BK118.out 0).trans rfl; have hcz29_1 : w27.cell? ⟨gb118, 1, none⟩ = some (.int .i64 0) := (blk_cell BK118.out 1).trans rfl; have hcz29_2 : w27.cell? ⟨gb118, 2, none⟩ = some (.int .i64 0) := (blk_cell BK118.out 2).trans rfl; have hcz29_3 : w27.cell? ⟨gb118, 3, none⟩ = some (.int .i64 0) := (blk_cell BK118.out 3).trans rfl; have hfz29_0 := blk_frozen BK118.out 0; have hfz29_1 := blk_frozen BK118.out 1; have hfz29_2 := blk_frozen BK118.out 2; have hfz29_3 := blk_frozen BK118.out 3))
                  have n0_ : Aside0 (Kd.R (Kd.int .i64) 2 ((((w27.setCell ⟨gb118, 0, none⟩ (.int .i64 ((rd_T77 l0_1 x12_2).f0))).setCell ⟨gb118, 1, none⟩ (.int .i64 ((rd_T77 l0_1 x12_2).f1))).setCell ⟨gb118, 2, none⟩ (.int .i64 ((rd_T77 l0_1 x12_2).f2))).setCell ⟨gb118, 3, none⟩ (.int .i64 ((rd_T77 l0_1 x12_2).f3))) w.heap.size (fun k_ => some k_ ≠ (v115 : Value).ownBlock) u9 x9_1) := ⟨by (with_reducible repeat (first | apply Kd.R_alloc | apply Kd.R_drewN | apply Kd.R_drew)); exact Kd.R_mono (Kd.R_far (p := ⟨gb118, 3, none⟩) (Kd.R_far (p := ⟨gb118, 2, none⟩) (Kd.R_far (p := ⟨gb118, 1, none⟩) (Kd.R_far (p := ⟨gb118, 0, none⟩) (Kd.R_types HO_9.out BK118.out (by decide)) (fun _ hk => hk.2) (.int .i64 ((rd_T77 l0_1 x12_2).f0))) (fun _ hk => hk.2) (.int .i64 ((rd_T77 l0_1 x12_2).f1))) (fun _ hk => hk.2) (.int .i64 ((rd_T77 l0_1 x12_2).f2))) (fun _ hk => hk.2) (.int .i64 ((rd_T77 l0_1 x12_2).f3))) (fun _ hk => hk.1)⟩
                  have n1_ : Aside0 (Kd.R (Kd.int .i64) 2 ((((w27.setCell ⟨gb118, 0, none⟩ (.int .i64 ((rd_T77 l0_1 x12_2).f0))).setCell ⟨gb118, 1, none⟩ (.int .i64 ((rd_T77 l0_1 x12_2).f1))).setCell ⟨gb118, 2, none⟩ (.int .i64 ((rd_T77 l0_1 x12_2).f2))).setCell ⟨gb118, 3, none⟩ (.int .i64 ((rd_T77 l0_1 x12_2).f3))) w.heap.size (fun k_ => some k_ ≠ (u9 : Value).ownBlock) v115 x11_2) := ⟨by (with_reducible repeat (first | apply Kd.R_alloc | apply Kd.R_drewN | apply Kd.R_drew)); exact Kd.R_mono (Kd.R_far (p := ⟨gb118, 3, none⟩) (Kd.R_far (p := ⟨gb118, 2, none⟩) (Kd.R_far (p := ⟨gb118, 1, none⟩) (Kd.R_far (p := ⟨gb118, 0, none⟩) (Kd.R_types HO_11.out BK118.out (by decide)) (fun _ hk => hk.2) (.int .i64 ((rd_T77 l0_1 x12_2).f0))) (fun _ hk => hk.2) (.int .i64 ((rd_T77 l0_1 x12_2).f1))) (fun _ hk => hk.2) (.int .i64 ((rd_T77 l0_1 x12_2).f2))) (fun _ hk => hk.2) (.int .i64 ((rd_T77 l0_1 x12_2).f3))) (fun _ hk => hk.1)⟩
                  have n2_ : Aside0 (((((w27.setCell ⟨gb118, 0, none⟩ (.int .i64 ((rd_T77 l0_1 x12_2).f0))).setCell ⟨gb118, 1, none⟩ (.int .i64 ((rd_T77 l0_1 x12_2).f1))).setCell ⟨gb118, 2, none⟩ (.int .i64 ((rd_T77 l0_1 x12_2).f2))).setCell ⟨gb118, 3, none⟩ (.int .i64 ((rd_T77 l0_1 x12_2).f3))).heap[gb110]? = some (.cells #[.int .i64 a0_0, .slice (some ad117) l0_1.length c0_1] 30 (0, 0))) := ⟨by (with_reducible repeat (first | refine blk_drewN ?_ _ | refine blk_drew ?_ | refine blk_alloc ?_ _)); refine blk_far ?_ NB110_118.out _; (with_reducible repeat (first | refine blk_drewN ?_ _ | refine blk_drew ?_ | refine blk_alloc ?_ _)); refine blk_far ?_ NB110_118.out _; (with_reducible repeat (first | refine blk_drewN ?_ _ | refine blk_drew ?_ | refine blk_alloc ?_ _)); refine blk_far ?_ NB110_118.out _; (with_reducible repeat (first | refine blk_drewN ?_ _ | refine blk_drew ?_ | refine blk_alloc ?_ _)); refine blk_far ?_ NB110_118.out _; (with_reducible repeat (first | refine blk_drewN ?_ _ | refine blk_drew ?_ | refine blk_alloc ?_ _)); exact BK110.out⟩
                  have n3_ : Aside0 (((((w27.setCell ⟨gb118, 0, none⟩ (.int .i64 ((rd_T77 l0_1 x12_2).f0))).setCell ⟨gb118, 1, none⟩ (.int .i64 ((rd_T77 l0_1 x12_2).f1))).setCell ⟨gb118, 2, none⟩ (.int .i64 ((rd_T77 l0_1 x12_2).f2))).setCell ⟨gb118, 3, none⟩ (.int .i64 ((rd_T77 l0_1 x12_2).f3))).heap[gb118]? = some (.cells #[.int .i64 ((rd_T77 l0_1 x12_2).f0), .int .i64 ((rd_T77 l0_1 x12_2).f1), .int .i64 ((rd_T77 l0_1 x12_2).f2), .int .i64 ((rd_T77 l0_1 x12_2).f3)] 77 (0, 0))) := ⟨by (with_reducible repeat (first | refine blk_drewN ?_ _ | refine blk_drew ?_ | refine blk_alloc ?_ _)); refine blk_put (cs := #[.int .i64 ((rd_T77 l0_1 x12_2).f0), .int .i64 ((rd_T77 l0_1 x12_2).f1), .int .i64 ((rd_T77 l0_1 x12_2).f2), .int .i64 0]) ?_ 3 _ rfl; (with_reducible repeat (first | refine blk_drewN ?_ _ | refine blk_drew ?_ | refine blk_alloc ?_ _)); refine blk_put (cs := #[.int .i64 ((rd_T77 l0_1 x12_2).f0), .int .i64 ((rd_T77 l0_1 x12_2).f1), .int .i64 0, .int .i64 0]) ?_ 2 _ rfl; (with_reducible repeat (first | refine blk_drewN ?_ _ | refine blk_drew ?_ | refine blk_alloc ?_ _)); refine blk_put (cs := #[.int .i64 ((rd_T77 l0_1 x12_2).f0), .int .i64 0, .int .i64 0, .int .i64 0]) ?_ 1 _ rfl; (with_reducible repeat (first | refine blk_drewN ?_ _ | refine blk_drew ?_ | refine blk_alloc ?_ _)); refine blk_put (cs := #[.int .i64 0, .int .i64 0, .int .i64 0, .int .i64 0]) ?_ 0 _ rfl; (with_reducible repeat (first | refine blk_drewN ?_ _ | refine blk_drew ?_ | refine blk_alloc ?_ _)); exact BK118.out⟩
                  have n4_ : Aside0 (Below w.heap.size w ((((w27.setCell ⟨gb118, 0, none⟩ (.int .i64 ((rd_T77 l0_1 x12_2).f0))).setCell ⟨gb118, 1, none⟩ (.int .i64 ((rd_T77 l0_1 x12_2).f1))).setCell ⟨gb118, 2, none⟩ (.int .i64 ((rd_T77 l0_1 x12_2).f2))).setCell ⟨gb118, 3, none⟩ (.int .i64 ((rd_T77 l0_1 x12_2).f3)))) := ⟨by repeat (first | (with_reducible first | exact HB.out | apply below_alloc | apply pw_below_drewN | apply below_drew1 | refine below_set ?_ GE110.out | refine below_set ?_ GE118.out) | exact HB.out)⟩
                  (try clear HO_9)
                  (try clear HO_11)
                  (try clear BK110)
                  (try clear BK118)
                  (try clear HB)
                  generalize ((((w27.setCell ⟨gb118, 0, none⟩ (.int .i64 ((rd_T77 l0_1 x12_2).f0))).setCell ⟨gb118, 1, none⟩ (.int .i64 ((rd_T77 l0_1 x12_2).f1))).setCell ⟨gb118, 2, none⟩ (.int .i64 ((rd_T77 l0_1 x12_2).f2))).setCell ⟨gb118, 3, none⟩ (.int .i64 ((rd_T77 l0_1 x12_2).f3))) = w30 at n0_ n1_ n2_ n3_ n4_ ⊢
                  have HO_9 := n0_
                  have HO_11 := n1_
                  have BK110 := n2_
                  have BK118 := n3_
                  have HB := n4_
                  clear n0_ n1_ n2_ n3_ n4_
                  have n0_ := Aside0.mk (Kd.R_drew HO_9.out)
                  have n1_ := Aside0.mk (Kd.R_drew HO_11.out)
                  have n2_ := Aside0.mk (blk_drew BK110.out)
                  have n3_ := Aside0.mk (blk_drew BK118.out)
                  have n4_ := Aside0.mk (below_drew1 HB.out)
                  clear HO_9
                  clear HO_11
                  clear BK110
                  clear BK118
                  clear HB
                  have HO_9 := n0_
                  have HO_11 := n1_
                  have BK110 := n2_
                  have BK118 := n3_
                  have HB := n4_
                  clear n0_ n1_ n2_ n3_ n4_
                  have p119 : 0 ≤ (x10_1 : Int) := of_decide_eq_true (by first | (with_reducible assumption) | assumption)
                  have q119 : x10_1 < (l3.length : Int) := of_decide_eq_true (by first | (with_reducible assumption) | assumption)
                  obtain ⟨ad119, e119, hx119_0⟩ := Kd.at_int HR3.out x10_1 p119 q119
                  have hw119_0 := hx119_0
                  cases e119
                  replace hx119_0 := (HB.out.cell (World.block_lt_of_cell? w _ hx119_0)).trans hx119_0
                  replace p119 := eq_true p119
                  replace q119 := eq_true q119
                  refine start_ (n := 12) (S := fun w' => w'.cell? ⟨gb118, 0, none⟩ = some (.int .i64 ((rd_T77 l0_1 x12_2).f0)) ∧ w'.cell? ⟨gb118, 1, none⟩ = some (.int .i64 ((rd_T77 l0_1 x12_2).f1)) ∧ w'.cell? ⟨gb118, 2, none⟩ = some (.int .i64 ((rd_T77 l0_1 x12_2).f2)) ∧ w'.cell? ⟨gb118, 3, none⟩ = some (.int .i64 ((rd_T77 l0_1 x12_2).f3)) ∧ w'.cell? (ad119.add (x10_1).toNat) = some (.int .i64 (rd l3 x10_1))) (ds := []) #[false, false, false, false, false, false, false, false, false, false, false, false] (by kernel_rfl) rfl rfl ⟨(blk_cell BK118.out 0).trans rfl, (blk_cell BK118.out 1).trans rfl, (blk_cell BK118.out 2).trans rfl, (blk_cell BK118.out 3).trans rfl, ((HB.out.cell (World.block_lt_of_cell? w _ hw119_0)).trans hw119_0)⟩ (fun hHeld => ?_); refine with_tabW spec_l02Ways.tab10 spec_l02Ways.bits10 (fun HT_ HW_ => ?_)
                  generalize w30.drew = w31 at HO_9 HO_11 BK110 BK118 HB hx119_0 hHeld ⊢
                  refine pure_ (i := 0) (N := some 36) (v := ?_) (a' := ?_) #[true, false, false, false, false, false, false, false, false, false, false, false] rfl rfl (any_of HT_.out (by kernel_rfl)) (fun _ _ _ h => h) (Or.inl ⟨by rfl, ?_⟩) ?_ ?_
                  rotate_left
                  ·intro w'
                   go_simp
                   with_reducible rfl
                  rotate_left
                  ·simp only [Act.put, List.setIfInBounds_toArray, List.set_cons_zero, List.set_cons_succ, i64_w, i32_w]
                   rfl
                  refine pure_ (i := 1) (N := some 37) (v := ?_) (a' := ?_) #[true, true, false, false, false, false, false, false, false, false, false, false] rfl rfl (any_of HT_.out (by kernel_rfl)) (fun _ _ _ h => h) (Or.inl ⟨by rfl, ?_⟩) ?_ ?_
                  rotate_left
                  ·intro w'
                   go_simp
                   with_reducible rfl
                  rotate_left
                  ·simp only [Act.put, List.setIfInBounds_toArray, List.set_cons_zero, List.set_cons_succ, i64_w, i32_w]
                   rfl
                  refine pure_ (i := 2) (N := some 38) (v := ?_) (a' := ?_) #[true, true, true, false, false, false, false, false, false, false, false, false] rfl rfl (any_of HT_.out (by kernel_rfl)) (fun _ _ _ h => h) (Or.inl ⟨by rfl, ?_⟩) ?_ ?_
                  rotate_left
                  ·intro w'
                   go_simp
                   with_reducible rfl
                  rotate_left
                  ·simp only [Act.put, List.setIfInBounds_toArray, List.set_cons_zero, List.set_cons_succ, i64_w, i32_w]
                   rfl
                  refine pure_ (i := 3) (N := some 39) (v := ?_) (a' := ?_) #[true, true, true, true, false, false, false, false, false, false, false, false] rfl rfl (any_of HT_.out (by kernel_rfl)) (fun _ _ _ h => h) (Or.inl ⟨by rfl, ?_⟩) ?_ ?_
                  rotate_left
                  ·intro w'
                   go_simp
                   with_reducible rfl
                  rotate_left
                  ·simp only [Act.put, List.setIfInBounds_toArray, List.set_cons_zero, List.set_cons_succ, i64_w, i32_w]
                   rfl
                  refine pure_ (i := 4) (N := some 40) (v := ?_) (a' := ?_) #[true, true, true, true, true, false, false, false, false, false, false, false] rfl rfl (any_of HT_.out (by kernel_rfl)) (fun _ _ _ h => h) (Or.inl ⟨by rfl, ?_⟩) ?_ ?_
                  rotate_left
                  ·intro w'
                   go_simp
                   with_reducible rfl
                  rotate_left
                  ·simp only [Act.put, List.setIfInBounds_toArray, List.set_cons_zero, List.set_cons_succ, i64_w, i32_w]
                   rfl
                  refine pure_ (i := 5) (N := some 41) (v := ?_) (a' := ?_) #[true, true, true, true, true, true, false, false, false, false, false, false] rfl rfl (any_of HT_.out (by kernel_rfl)) (fun _ _ _ h => h) (Or.inl ⟨by rfl, ?_⟩) ?_ ?_
                  rotate_left
                  ·intro w'
                   go_simp
                   with_reducible rfl
                  rotate_left
                  ·simp only [Act.put, List.setIfInBounds_toArray, List.set_cons_zero, List.set_cons_succ, i64_w, i32_w]
                   rfl
                  refine pure_ (i := 6) (N := some 42) (v := ?_) (a' := ?_) #[true, true, true, true, true, true, true, false, false, false, false, false] rfl rfl (any_of HT_.out (by kernel_rfl)) (fun _ _ _ h => h) (Or.inl ⟨by rfl, ?_⟩) ?_ ?_
                  rotate_left
                  ·intro w'
                   go_simp
                   with_reducible rfl
                  rotate_left
                  ·simp only [Act.put, List.setIfInBounds_toArray, List.set_cons_zero, List.set_cons_succ, i64_w, i32_w]
                   rfl
                  refine pure_ (i := 8) (N := some 44) (v := ?_) (a' := ?_) #[true, true, true, true, true, true, true, false, true, false, false, false] rfl rfl (any_of HT_.out (by kernel_rfl)) (fun _ _ _ h => h) (Or.inl ⟨by rfl, ?_⟩) ?_ ?_
                  rotate_left
                  ·intro w'
                   go_simp
                   with_reducible rfl
                  rotate_left
                  ·simp only [Act.put, List.setIfInBounds_toArray, List.set_cons_zero, List.set_cons_succ, i64_w, i32_w]
                   rfl
                  refine take_ (i := 7) (N := some 43) (v := ?_) (a' := ?_) #[true, true, true, true, true, true, true, true, true, false, false, false] rfl rfl (take_ofW HT_.out HW_.out (by kernel_rfl)) (fun _ _ _ h => h) (Or.inl ⟨by rfl, ?_⟩) hHeld ?_ ?_
                  rotate_left
                  ·rintro w' ⟨s0, s1, s2, s3, s4⟩
                   go_simp
                   with_reducible rfl
                  rotate_left
                  ·simp only [Act.put, List.setIfInBounds_toArray, List.set_cons_zero, List.set_cons_succ, i64_w, i32_w]
                   rfl
                  refine take_ (i := 9) (N := some 45) (v := ?_) (a' := ?_) #[true, true, true, true, true, true, true, true, true, true, false, false] rfl rfl (take_ofW HT_.out HW_.out (by kernel_rfl)) (fun _ _ _ h => h) (Or.inl ⟨by rfl, ?_⟩) hHeld ?_ ?_
                  rotate_left
                  ·rintro w' ⟨s0, s1, s2, s3, s4⟩
                   go_simp
                   with_reducible rfl
                  rotate_left
                  ·simp only [Act.put, List.setIfInBounds_toArray, List.set_cons_zero, List.set_cons_succ, i64_w, i32_w]
                   rfl
                  refine pure_ (i := 10) (N := some 46) (v := ?_) (a' := ?_) #[true, true, true, true, true, true, true, true, true, true, true, false] rfl rfl (any_of HT_.out (by kernel_rfl)) (fun _ _ _ h => h) (Or.inl ⟨by rfl, ?_⟩) ?_ ?_
                  rotate_left
                  ·intro w'
                   go_simp
                   with_reducible rfl
                  rotate_left
                  ·simp only [Act.put, List.setIfInBounds_toArray, List.set_cons_zero, List.set_cons_succ, i64_w, i32_w]
                   rfl
                  refine pure_ (i := 11) (N := some 47) (v := ?_) (a' := ?_) #[true, true, true, true, true, true, true, true, true, true, true, true] rfl rfl (any_of HT_.out (by kernel_rfl)) (fun _ _ _ h => h) (Or.inl ⟨by rfl, ?_⟩) ?_ ?_
                  rotate_left
                  ·intro w'
                   go_simp
                   with_reducible rfl
                  rotate_left
                  ·simp only [Act.put, List.setIfInBounds_toArray, List.set_cons_zero, List.set_cons_succ, i64_w, i32_w]
                   rfl
                  refine done_ (done_of HT_.out (by kernel_rfl)) ?_
                  try go_wp2
                  have n0_ := Aside0.mk (Kd.R_drew HO_9.out)
                  have n1_ := Aside0.mk (Kd.R_drew HO_11.out)
                  have n2_ := Aside0.mk (blk_drew BK110.out)
                  have n3_ := Aside0.mk (blk_drew BK118.out)
                  have n4_ := Aside0.mk (below_drew1 HB.out)
                  clear HO_9
                  clear HO_11
                  clear BK110
                  clear BK118
                  clear HB
                  have HO_9 := n0_
                  have HO_11 := n1_
                  have BK110 := n2_
                  have BK118 := n3_
                  have HB := n4_
                  clear n0_ n1_ n2_ n3_ n4_
                  obtain ⟨Ao33, co33, eo33⟩ := Kd.R_slice HO_11.out
                  (first | subst eo33 | (injection eo33 with f1_ f2_ f3_; have f4_ := f1_.symm; have f5_ := f3_.symm; clear f1_ f2_ f3_; subst f4_; subst f5_))
                  have p120 : 0 ≤ (((rd_T77 l0_1 x12_2).f2) : Int) := of_decide_eq_true (by first | (with_reducible assumption) | assumption)
                  have q120 : ((rd_T77 l0_1 x12_2).f2) < (x11_2.length : Int) := of_decide_eq_true (by first | (with_reducible assumption) | assumption)
                  obtain ⟨ad120, e120, hx120_0⟩ := Kd.at_int (Kd.R_reads' HO_11.out).2.2 ((rd_T77 l0_1 x12_2).f2) p120 q120
                  cases e120
                  replace p120 := eq_true p120
                  replace q120 := eq_true q120
                  obtain ⟨Ao34, co34, eo34⟩ := Kd.R_slice HO_9.out
                  (first | subst eo34 | (injection eo34 with f1_ f2_ f3_; have f4_ := f1_.symm; have f5_ := f3_.symm; clear f1_ f2_ f3_; subst f4_; subst f5_))
                  have p121 : 0 ≤ (((rd_T77 l0_1 x12_2).f0) : Int) := of_decide_eq_true (by first | (with_reducible assumption) | assumption)
                  have q121 : ((rd_T77 l0_1 x12_2).f0) < (x9_1.length : Int) := of_decide_eq_true (by first | (with_reducible assumption) | assumption)
                  obtain ⟨ad121, e121, hx121_0⟩ := Kd.at_int (Kd.R_reads' HO_9.out).2.2 ((rd_T77 l0_1 x12_2).f0) p121 q121
                  cases e121
                  replace p121 := eq_true p121
                  replace q121 := eq_true q121
                  have p25 : 0 ≤ (((rd_T77 l0_1 x12_2).f2) : Int) := of_decide_eq_true (by first | (with_reducible assumption) | assumption)
                  have q25 : (((rd_T77 l0_1 x12_2).f2) : Int) < ((x11_2.length : Int) : Int) := of_decide_eq_true (by first | (with_reducible assumption) | assumption)
                  obtain ⟨go25, co25, eo25, gb25, gl25, cl25, HG25⟩ := Kd.R_form HO_11.out (by omega)
                  (first | cases eo25 | (injection eo25 with ea_ en_ ec_; (first | subst ea_ | (injection ea_ with ea_; subst ea_)); subst ec_; clear en_))
                  have GB25 := Aside0.mk gb25
                  have GG25 := Aside0.mk HG25
                  clear gb25 gl25 HG25
                  (first | simp only [add_plain] at hx120_0 | skip)
                  obtain ⟨hx25_0, hf25_0⟩ := Kd.R_celln 0 HO_11.out (((rd_T77 l0_1 x12_2).f2) : Int) p25 q25
                  replace p25 := eq_true p25
                  replace q25 := eq_true q25
                  have HP35 := Kd.R_putn HO_11.out (((rd_T77 l0_1 x12_2).f2) : Int) ji24
                  rw [← Ny122.out] at HP35
                  have HQ35 := Aside0.mk HP35
                  clear HP35
                  refine start_ (n := 17) (S := fun w' => w'.cell? ⟨gb118, 0, none⟩ = some (.int .i64 ((rd_T77 l0_1 x12_2).f0)) ∧ w'.cell? ⟨gb118, 1, none⟩ = some (.int .i64 ((rd_T77 l0_1 x12_2).f1)) ∧ w'.cell? ⟨gb118, 2, none⟩ = some (.int .i64 ((rd_T77 l0_1 x12_2).f2)) ∧ w'.cell? ⟨gb118, 3, none⟩ = some (.int .i64 ((rd_T77 l0_1 x12_2).f3)) ∧ w'.cell? ⟨go25, (((rd_T77 l0_1 x12_2).f2)).toNat, none⟩ = some (.int .i64 (rd x11_2 ((rd_T77 l0_1 x12_2).f2))) ∧ w'.cell? (ad121.add (((rd_T77 l0_1 x12_2).f0)).toNat) = some (.int .i64 (rd x9_1 ((rd_T77 l0_1 x12_2).f0)))) (ds := [16]) #[false, false, false, false, false, false, false, false, false, false, false, false, false, false, false, false, false] (by kernel_rfl) rfl rfl ⟨(blk_cell BK118.out 0).trans rfl, (blk_cell BK118.out 1).trans rfl, (blk_cell BK118.out 2).trans rfl, (blk_cell BK118.out 3).trans rfl, hx120_0, hx121_0⟩ (fun hHeld => ?_); refine with_tabW spec_l02Ways.tab11 spec_l02Ways.bits11 (fun HT_ HW_ => ?_)
                  generalize w31.drew = w32 at HO_9 HO_11 BK110 BK118 HB GG25 HQ35 hf25_0 hx120_0 hx121_0 hx25_0 hHeld ⊢
                  refine pure_ (i := 0) (N := some 48) (v := ?_) (a' := ?_) #[true, false, false, false, false, false, false, false, false, false, false, false, false, false, false, false, false] rfl rfl (any_of HT_.out (by kernel_rfl)) (fun _ _ _ h => h) (Or.inl ⟨by rfl, ?_⟩) ?_ ?_
                  rotate_left
                  ·intro w'
                   go_simp
                   with_reducible rfl
                  rotate_left
                  ·simp only [Act.put, List.setIfInBounds_toArray, List.set_cons_zero, List.set_cons_succ, i64_w, i32_w]
                   rfl
                  refine pure_ (i := 1) (N := some 49) (v := ?_) (a' := ?_) #[true, true, false, false, false, false, false, false, false, false, false, false, false, false, false, false, false] rfl rfl (any_of HT_.out (by kernel_rfl)) (fun _ _ _ h => h) (Or.inl ⟨by rfl, ?_⟩) ?_ ?_
                  rotate_left
                  ·intro w'
                   go_simp
                   with_reducible rfl
                  rotate_left
                  ·simp only [Act.put, List.setIfInBounds_toArray, List.set_cons_zero, List.set_cons_succ, i64_w, i32_w]
                   rfl
                  refine pure_ (i := 3) (N := some 51) (v := ?_) (a' := ?_) #[true, true, false, true, false, false, false, false, false, false, false, false, false, false, false, false, false] rfl rfl (any_of HT_.out (by kernel_rfl)) (fun _ _ _ h => h) (Or.inl ⟨by rfl, ?_⟩) ?_ ?_
                  rotate_left
                  ·intro w'
                   go_simp
                   with_reducible rfl
                  rotate_left
                  ·simp only [Act.put, List.setIfInBounds_toArray, List.set_cons_zero, List.set_cons_succ, i64_w, i32_w]
                   rfl
                  refine pure_ (i := 4) (N := some 52) (v := ?_) (a' := ?_) #[true, true, false, true, true, false, false, false, false, false, false, false, false, false, false, false, false] rfl rfl (any_of HT_.out (by kernel_rfl)) (fun _ _ _ h => h) (Or.inl ⟨by rfl, ?_⟩) ?_ ?_
                  rotate_left
                  ·intro w'
                   go_simp
                   with_reducible rfl
                  rotate_left
                  ·simp only [Act.put, List.setIfInBounds_toArray, List.set_cons_zero, List.set_cons_succ, i64_w, i32_w]
                   rfl
                  refine pure_ (i := 8) (N := some 56) (v := ?_) (a' := ?_) #[true, true, false, true, true, false, false, false, true, false, false, false, false, false, false, false, false] rfl rfl (any_of HT_.out (by kernel_rfl)) (fun _ _ _ h => h) (Or.inl ⟨by rfl, ?_⟩) ?_ ?_
                  rotate_left
                  ·intro w'
                   go_simp
                   with_reducible rfl
                  rotate_left
                  ·simp only [Act.put, List.setIfInBounds_toArray, List.set_cons_zero, List.set_cons_succ, i64_w, i32_w]
                   rfl
                  refine pure_ (i := 9) (N := some 57) (v := ?_) (a' := ?_) #[true, true, false, true, true, false, false, false, true, true, false, false, false, false, false, false, false] rfl rfl (any_of HT_.out (by kernel_rfl)) (fun _ _ _ h => h) (Or.inl ⟨by rfl, ?_⟩) ?_ ?_
                  rotate_left
                  ·intro w'
                   go_simp
                   with_reducible rfl
                  rotate_left
                  ·simp only [Act.put, List.setIfInBounds_toArray, List.set_cons_zero, List.set_cons_succ, i64_w, i32_w]
                   rfl
                  refine take_ (i := 2) (N := some 50) (v := ?_) (a' := ?_) #[true, true, true, true, true, false, false, false, true, true, false, false, false, false, false, false, false] rfl rfl (take_ofW HT_.out HW_.out (by kernel_rfl)) (fun _ _ _ h => h) (Or.inl ⟨by rfl, ?_⟩) hHeld ?_ ?_
                  rotate_left
                  ·rintro w' ⟨s0, s1, s2, s3, s4, s5⟩
                   go_simp
                   with_reducible rfl
                  rotate_left
                  ·simp only [Act.put, List.setIfInBounds_toArray, List.set_cons_zero, List.set_cons_succ, i64_w, i32_w]
                   rfl
                  refine take_ (i := 5) (N := some 53) (v := ?_) (a' := ?_) #[true, true, true, true, true, true, false, false, true, true, false, false, false, false, false, false, false] rfl rfl (take_ofW HT_.out HW_.out (by kernel_rfl)) (fun _ _ _ h => h) (Or.inl ⟨by rfl, ?_⟩) hHeld ?_ ?_
                  rotate_left
                  ·rintro w' ⟨s0, s1, s2, s3, s4, s5⟩
                   go_simp
                   with_reducible rfl
                  rotate_left
                  ·simp only [Act.put, List.setIfInBounds_toArray, List.set_cons_zero, List.set_cons_succ, i64_w, i32_w]
                   rfl
                  refine pure_ (i := 6) (N := some 54) (v := ?_) (a' := ?_) #[true, true, true, true, true, true, true, false, true, true, false, false, false, false, false, false, false] rfl rfl (any_of HT_.out (by kernel_rfl)) (fun _ _ _ h => h) (Or.inl ⟨by rfl, ?_⟩) ?_ ?_
                  rotate_left
                  ·intro w'
                   go_simp
                   with_reducible rfl
                  rotate_left
                  ·simp only [Act.put, List.setIfInBounds_toArray, List.set_cons_zero, List.set_cons_succ, i64_w, i32_w]
                   rfl
                  refine take_ (i := 7) (N := some 55) (v := ?_) (a' := ?_) #[true, true, true, true, true, true, true, true, true, true, false, false, false, false, false, false, false] rfl rfl (take_ofW HT_.out HW_.out (by kernel_rfl)) (fun _ _ _ h => h) (Or.inl ⟨by rfl, ?_⟩) hHeld ?_ ?_
                  rotate_left
                  ·rintro w' ⟨s0, s1, s2, s3, s4, s5⟩
                   go_simp
                   with_reducible rfl
                  rotate_left
                  ·simp only [Act.put, List.setIfInBounds_toArray, List.set_cons_zero, List.set_cons_succ, i64_w, i32_w]
                   rfl
                  refine take_ (i := 10) (N := some 58) (v := ?_) (a' := ?_) #[true, true, true, true, true, true, true, true, true, true, true, false, false, false, false, false, false] rfl rfl (take_ofW HT_.out HW_.out (by kernel_rfl)) (fun _ _ _ h => h) (Or.inl ⟨by rfl, ?_⟩) hHeld ?_ ?_
                  rotate_left
                  ·rintro w' ⟨s0, s1, s2, s3, s4, s5⟩
                   go_simp
                   with_reducible rfl
                  rotate_left
                  ·simp only [Act.put, List.setIfInBounds_toArray, List.set_cons_zero, List.set_cons_succ, i64_w, i32_w]
                   rfl
                  refine pure_ (i := 11) (N := some 59) (v := ?_) (a' := ?_) #[true, true, true, true, true, true, true, true, true, true, true, true, false, false, false, false, false] rfl rfl (any_of HT_.out (by kernel_rfl)) (fun _ _ _ h => h) (Or.inl ⟨by rfl, ?_⟩) ?_ ?_
                  rotate_left
                  ·intro w'
                   go_simp
                   with_reducible rfl
                  rotate_left
                  ·simp only [Act.put, List.setIfInBounds_toArray, List.set_cons_zero, List.set_cons_succ, i64_w, i32_w]
                   rfl
                  refine take_ (i := 12) (N := some 60) (v := ?_) (a' := ?_) #[true, true, true, true, true, true, true, true, true, true, true, true, true, false, false, false, false] rfl rfl (take_ofW HT_.out HW_.out (by kernel_rfl)) (fun _ _ _ h => h) (Or.inl ⟨by rfl, ?_⟩) hHeld ?_ ?_
                  rotate_left
                  ·rintro w' ⟨s0, s1, s2, s3, s4, s5⟩
                   go_simp
                   with_reducible rfl
                  rotate_left
                  ·simp only [Act.put, List.setIfInBounds_toArray, List.set_cons_zero, List.set_cons_succ, i64_w, i32_w]
                   rfl
                  refine pure_ (i := 13) (N := some 61) (v := ?_) (a' := ?_) #[true, true, true, true, true, true, true, true, true, true, true, true, true, true, false, false, false] rfl rfl (any_of HT_.out (by kernel_rfl)) (fun _ _ _ h => h) (Or.inl ⟨by rfl, ?_⟩) ?_ ?_
                  rotate_left
                  ·intro w'
                   go_simp
                   with_reducible rfl
                  rotate_left
                  ·simp only [Act.put, List.setIfInBounds_toArray, List.set_cons_zero, List.set_cons_succ, i64_w, i32_w]
                   rfl
                  refine pure_ (i := 14) (N := some 62) (v := ?_) (a' := ?_) #[true, true, true, true, true, true, true, true, true, true, true, true, true, true, true, false, false] rfl rfl (any_of HT_.out (by kernel_rfl)) (fun _ _ _ h => h) (Or.inl ⟨by rfl, ?_⟩) ?_ ?_
                  rotate_left
                  ·intro w'
                   go_simp
                   with_reducible rfl
                  rotate_left
                  ·simp only [Act.put, List.setIfInBounds_toArray, List.set_cons_zero, List.set_cons_succ, i64_w, i32_w]
                   rfl
                  refine pure_ (i := 15) (N := some 63) (v := ?_) (a' := ?_) #[true, true, true, true, true, true, true, true, true, true, true, true, true, true, true, true, false] rfl rfl (any_of HT_.out (by kernel_rfl)) (fun _ _ _ h => h) (Or.inl ⟨by rfl, ?_⟩) ?_ ?_
                  rotate_left
                  ·intro w'
                   go_simp
                   with_reducible rfl
                  rotate_left
                  ·simp only [Act.put, List.setIfInBounds_toArray, List.set_cons_zero, List.set_cons_succ, i64_w, i32_w]
                   rfl
                  refine last_ (i := 16) (N := none) #[true, true, true, true, true, true, true, true, true, true, true, true, true, true, true, true, true] rfl rfl (one_of HT_.out (by kernel_rfl)) (by decide) (fun K hK => ?_)
                  refine skip_ (w1 := ?_) (by rfl) rfl ?_ ?_
                  rotate_left
                  ·go_simp
                   rfl
                  refine hK.out _ _ ?_
                  clear hK K
                  refine done_ (done_of HT_.out (by kernel_rfl)) ?_
                  try go_wp2
                  go_roundg k2
                  case measure => have := HK1.out; have := HK2.out; omega
                  case rel => exact ⟨(y122), (wrap64 (x12_2 + 1)), (by first | rfl | (simp; done) | (simp [*]; done)), H', ⟨by have := HK1.out; have := HK2.out; omega⟩, ⟨by (with_reducible repeat (first | apply Kd.R_alloc | apply Kd.R_drewN | apply Kd.R_drew)); exact Kd.R_mono (Kd.R_far (p := ⟨go25, (((rd_T77 l0_1 x12_2).f2) : Int).toNat, none⟩) (Kd.R_mono HO_9.out (fun k_ hk => (⟨hk, fun e_ => hk (by rw [e_]; rfl)⟩ : _ ∧ k_ ≠ go25))) (fun _ hk => hk.2) (.int .i64 ji24)) (fun _ hk => hk.1)⟩, ⟨by (with_reducible repeat (first | apply Kd.R_alloc | apply Kd.R_drewN | apply Kd.R_drew)); exact HQ35.out⟩, ⟨by (with_reducible repeat (first | refine blk_drewN ?_ _ | refine blk_drew ?_ | refine blk_alloc ?_ _)); refine blk_far ?_ (by have h_ := Kd.R_ne HO_11.out BK110.out (by decide); intro e_; exact h_ (by rw [e_]; rfl)) _; (with_reducible repeat (first | refine blk_drewN ?_ _ | refine blk_drew ?_ | refine blk_alloc ?_ _)); exact BK110.out⟩, ⟨by repeat (first | (with_reducible first | exact HB.out | apply below_alloc | apply pw_below_drewN | apply below_drew1 | refine below_set ?_ GB25.out | refine below_set ?_ GE110.out | refine below_set ?_ GE118.out) | exact HB.out)⟩⟩
                 ·rw [if_neg c23] at H
                  exact absurd H (by simp)
                ·rw [if_neg c22] at H
                 exact absurd H (by simp)
               ·rw [if_neg c21] at H
                exact absurd H (by simp)
              ·rw [if_neg c20] at H
               exact absurd H (by simp)
             ·rw [if_neg c19] at H
              have c19b0 : ((rd l3 x10_1) == ((rd_T77 l0_1 x12_2).f1)) = false := beq_eq_false_iff_ne.mpr c19
              have c19b1 : ((rd l3 x10_1) != ((rd_T77 l0_1 x12_2).f1)) = true := bne_iff_ne.mpr c19
              have H' := Aside0.mk H
              clear H
              have hcz36_0 : wr.cell? ⟨gb110, 0, none⟩ = some (.int .i64 a0_0) := (blk_cell BK110.out 0).trans rfl
              have hcz36_1 : wr.cell? ⟨gb110, 1, none⟩ = some (.slice A0_1 l0_1.length c0_1) := (blk_cell BK110.out 1).trans rfl
              have hfz36_0 := blk_frozen BK110.out 0
              have hfz36_1 := blk_frozen BK110.out 1
              have p117 : 0 ≤ (x12_2 : Int) := of_decide_eq_true (by first | (with_reducible assumption) | assumption)
              have q117 : x12_2 < (l0_1.length : Int) := of_decide_eq_true (by first | (with_reducible assumption) | assumption)
              obtain ⟨ad117, e117, hx117_0, hx117_1, hx117_2, hx117_3⟩ := at_T77 HR0_1.out x12_2 p117 q117
              cases e117
              replace hx117_0 := (HB.out.cell (World.block_lt_of_cell? w _ hx117_0)).trans hx117_0
              replace hx117_1 := (HB.out.cell (World.block_lt_of_cell? w _ hx117_1)).trans hx117_1
              replace hx117_2 := (HB.out.cell (World.block_lt_of_cell? w _ hx117_2)).trans hx117_2
              replace hx117_3 := (HB.out.cell (World.block_lt_of_cell? w _ hx117_3)).trans hx117_3
              replace p117 := eq_true p117
              replace q117 := eq_true q117
              try go_wp2_with (first | ((with_reducible refine gate_dst (N := 13) rfl ?_); refine box_event ?hg (N := 13) ?hd (cs := #[.int .i64 0, .int .i64 0, .int .i64 0, .int .i64 0]) (t := 77) ?hr ?_; (case hd => rfl); (case hg => rfl); (case hr => first | (go_simp; done) | (go_simp; rfl)); intro gb118 hg w37 hbox hb; have n0_ := Aside0.mk (Kd.R_below (by (with_reducible repeat (first | apply Kd.R_alloc | apply Kd.R_drewN | apply Kd.R_drew)); exact HO_9.out) hb); have n1_ := Aside0.mk (Kd.R_below (by (with_reducible repeat (first | apply Kd.R_alloc | apply Kd.R_drewN | apply Kd.R_drew)); exact HO_11.out) hb); have n2_ := Aside0.mk (blk_below (g := gb110) (o := .cells #[.int .i64 a0_0, .slice (some ad117) l0_1.length c0_1] 30 (0, 0)) (by (with_reducible repeat (first | refine blk_drewN ?_ _ | refine blk_drew ?_ | refine blk_alloc ?_ _)); exact BK110.out) hb); have n3_ := Aside0.mk (below_step (by repeat (first | (with_reducible first | exact HB.out | apply below_alloc | apply pw_below_drewN | apply below_drew1 | refine below_set ?_ GE110.out) | exact HB.out)) hb); have n4_ := Aside0.mk (hbox); have n5_ := Aside0.mk ((by rw [hg]; exact (below_size (by repeat (first | (with_reducible first | exact HB.out | apply below_alloc | apply pw_below_drewN | apply below_drew1 | refine below_set ?_ GE110.out) | exact HB.out))) : w.heap.size ≤ gb118)); have n6_ := Aside0.mk ((by rw [hg]; exact (below_size (by repeat (first | (with_reducible first | exact HB.out | apply below_alloc | apply pw_below_drewN | apply below_drew1 | refine below_set ?_ GE110.out) | exact HB.out))) : w.heap.size ≤ gb118)); have n7_ := Aside0.mk ((by rw [hg]; exact Nat.ne_of_lt (blk_lt (g := gb110) (o := .cells #[.int .i64 a0_0, .slice (some ad117) l0_1.length c0_1] 30 (0, 0)) (by (with_reducible repeat (first | refine blk_drewN ?_ _ | refine blk_drew ?_ | refine blk_alloc ?_ _)); exact BK110.out)) : gb110 ≠ gb118)); have n8_ := Aside0.mk ((by rw [hg]; exact Nat.ne_of_gt (blk_lt (g := gb110) (o := .cells #[.int .i64 a0_0, .slice (some ad117) l0_1.length c0_1] 30 (0, 0)) (by (with_reducible repeat (first | refine blk_drewN ?_ _ | refine blk_drew ?_ | refine blk_alloc ?_ _)); exact BK110.out)) : gb118 ≠ gb110)); clear HO_9; clear HO_11; clear BK110; clear HB; have HO_9 := n0_; have HO_11 := n1_; have BK110 := n2_; have HB := n3_; have BK118 := n4_; have GW118 := n5_; have GE118 := n6_; have NB110_118 := n7_; have NB118_110 := n8_; clear n0_ n1_ n2_ n3_ n4_ n5_ n6_ n7_ n8_; clear hb hbox hg; have hnb38 := NB118_110.out; have hnc38 := NB110_118.out; have hcz39_0 : w37.cell? ⟨gb118, 0, none⟩ = some (.int .i64 0) := (blk_cell BK118.out 0).trans rfl; have hcz39_1 : w37.cell? ⟨gb118, 1, none⟩ = some (.int .i64 0) := (blk_cell BK118.out 1).trans rfl; have hcz39_2 : w37.cell? ⟨gb118, 2, none⟩ = some (.int .i64 0) := (blk_cell BK118.out 2).trans rfl; have hcz39_3 : w37.cell? ⟨gb118, 3, none⟩ = some (.int .i64 0) := (blk_cell BK118.out 3).trans rfl; have hfz39_0 := blk_frozen BK118.out 0; have hfz39_1 := blk_frozen BK118.out 1; have hfz39_2 := blk_frozen BK118.out 2; have hfz39_3 := blk_frozen BK118.out 3))
              have n0_ : Aside0 (Kd.R (Kd.int .i64) 2 ((((w37.setCell ⟨gb118, 0, none⟩ (.int .i64 ((rd_T77 l0_1 x12_2).f0))).setCell ⟨gb118, 1, none⟩ (.int .i64 ((rd_T77 l0_1 x12_2).f1))).setCell ⟨gb118, 2, none⟩ (.int .i64 ((rd_T77 l0_1 x12_2).f2))).setCell ⟨gb118, 3, none⟩ (.int .i64 ((rd_T77 l0_1 x12_2).f3))) w.heap.size (fun k_ => some k_ ≠ (v115 : Value).ownBlock) u9 x9_1) := ⟨by (with_reducible repeat (first | apply Kd.R_alloc | apply Kd.R_drewN | apply Kd.R_drew)); exact Kd.R_mono (Kd.R_far (p := ⟨gb118, 3, none⟩) (Kd.R_far (p := ⟨gb118, 2, none⟩) (Kd.R_far (p := ⟨gb118, 1, none⟩) (Kd.R_far (p := ⟨gb118, 0, none⟩) (Kd.R_types HO_9.out BK118.out (by decide)) (fun _ hk => hk.2) (.int .i64 ((rd_T77 l0_1 x12_2).f0))) (fun _ hk => hk.2) (.int .i64 ((rd_T77 l0_1 x12_2).f1))) (fun _ hk => hk.2) (.int .i64 ((rd_T77 l0_1 x12_2).f2))) (fun _ hk => hk.2) (.int .i64 ((rd_T77 l0_1 x12_2).f3))) (fun _ hk => hk.1)⟩
              have n1_ : Aside0 (Kd.R (Kd.int .i64) 2 ((((w37.setCell ⟨gb118, 0, none⟩ (.int .i64 ((rd_T77 l0_1 x12_2).f0))).setCell ⟨gb118, 1, none⟩ (.int .i64 ((rd_T77 l0_1 x12_2).f1))).setCell ⟨gb118, 2, none⟩ (.int .i64 ((rd_T77 l0_1 x12_2).f2))).setCell ⟨gb118, 3, none⟩ (.int .i64 ((rd_T77 l0_1 x12_2).f3))) w.heap.size (fun k_ => some k_ ≠ (u9 : Value).ownBlock) v115 x11_2) := ⟨by (with_reducible repeat (first | apply Kd.R_alloc | apply Kd.R_drewN | apply Kd.R_drew)); exact Kd.R_mono (Kd.R_far (p := ⟨gb118, 3, none⟩) (Kd.R_far (p := ⟨gb118, 2, none⟩) (Kd.R_far (p := ⟨gb118, 1, none⟩) (Kd.R_far (p := ⟨gb118, 0, none⟩) (Kd.R_types HO_11.out BK118.out (by decide)) (fun _ hk => hk.2) (.int .i64 ((rd_T77 l0_1 x12_2).f0))) (fun _ hk => hk.2) (.int .i64 ((rd_T77 l0_1 x12_2).f1))) (fun _ hk => hk.2) (.int .i64 ((rd_T77 l0_1 x12_2).f2))) (fun _ hk => hk.2) (.int .i64 ((rd_T77 l0_1 x12_2).f3))) (fun _ hk => hk.1)⟩
              have n2_ : Aside0 (((((w37.setCell ⟨gb118, 0, none⟩ (.int .i64 ((rd_T77 l0_1 x12_2).f0))).setCell ⟨gb118, 1, none⟩ (.int .i64 ((rd_T77 l0_1 x12_2).f1))).setCell ⟨gb118, 2, none⟩ (.int .i64 ((rd_T77 l0_1 x12_2).f2))).setCell ⟨gb118, 3, none⟩ (.int .i64 ((rd_T77 l0_1 x12_2).f3))).heap[gb110]? = some (.cells #[.int .i64 a0_0, .slice (some ad117) l0_1.length c0_1] 30 (0, 0))) := ⟨by (with_reducible repeat (first | refine blk_drewN ?_ _ | refine blk_drew ?_ | refine blk_alloc ?_ _)); refine blk_far ?_ NB110_118.out _; (with_reducible repeat (first | refine blk_drewN ?_ _ | refine blk_drew ?_ | refine blk_alloc ?_ _)); refine blk_far ?_ NB110_118.out _; (with_reducible repeat (first | refine blk_drewN ?_ _ | refine blk_drew ?_ | refine blk_alloc ?_ _)); refine blk_far ?_ NB110_118.out _; (with_reducible repeat (first | refine blk_drewN ?_ _ | refine blk_drew ?_ | refine blk_alloc ?_ _)); refine blk_far ?_ NB110_118.out _; (with_reducible repeat (first | refine blk_drewN ?_ _ | refine blk_drew ?_ | refine blk_alloc ?_ _)); exact BK110.out⟩
              have n3_ : Aside0 (((((w37.setCell ⟨gb118, 0, none⟩ (.int .i64 ((rd_T77 l0_1 x12_2).f0))).setCell ⟨gb118, 1, none⟩ (.int .i64 ((rd_T77 l0_1 x12_2).f1))).setCell ⟨gb118, 2, none⟩ (.int .i64 ((rd_T77 l0_1 x12_2).f2))).setCell ⟨gb118, 3, none⟩ (.int .i64 ((rd_T77 l0_1 x12_2).f3))).heap[gb118]? = some (.cells #[.int .i64 ((rd_T77 l0_1 x12_2).f0), .int .i64 ((rd_T77 l0_1 x12_2).f1), .int .i64 ((rd_T77 l0_1 x12_2).f2), .int .i64 ((rd_T77 l0_1 x12_2).f3)] 77 (0, 0))) := ⟨by (with_reducible repeat (first | refine blk_drewN ?_ _ | refine blk_drew ?_ | refine blk_alloc ?_ _)); refine blk_put (cs := #[.int .i64 ((rd_T77 l0_1 x12_2).f0), .int .i64 ((rd_T77 l0_1 x12_2).f1), .int .i64 ((rd_T77 l0_1 x12_2).f2), .int .i64 0]) ?_ 3 _ rfl; (with_reducible repeat (first | refine blk_drewN ?_ _ | refine blk_drew ?_ | refine blk_alloc ?_ _)); refine blk_put (cs := #[.int .i64 ((rd_T77 l0_1 x12_2).f0), .int .i64 ((rd_T77 l0_1 x12_2).f1), .int .i64 0, .int .i64 0]) ?_ 2 _ rfl; (with_reducible repeat (first | refine blk_drewN ?_ _ | refine blk_drew ?_ | refine blk_alloc ?_ _)); refine blk_put (cs := #[.int .i64 ((rd_T77 l0_1 x12_2).f0), .int .i64 0, .int .i64 0, .int .i64 0]) ?_ 1 _ rfl; (with_reducible repeat (first | refine blk_drewN ?_ _ | refine blk_drew ?_ | refine blk_alloc ?_ _)); refine blk_put (cs := #[.int .i64 0, .int .i64 0, .int .i64 0, .int .i64 0]) ?_ 0 _ rfl; (with_reducible repeat (first | refine blk_drewN ?_ _ | refine blk_drew ?_ | refine blk_alloc ?_ _)); exact BK118.out⟩
              have n4_ : Aside0 (Below w.heap.size w ((((w37.setCell ⟨gb118, 0, none⟩ (.int .i64 ((rd_T77 l0_1 x12_2).f0))).setCell ⟨gb118, 1, none⟩ (.int .i64 ((rd_T77 l0_1 x12_2).f1))).setCell ⟨gb118, 2, none⟩ (.int .i64 ((rd_T77 l0_1 x12_2).f2))).setCell ⟨gb118, 3, none⟩ (.int .i64 ((rd_T77 l0_1 x12_2).f3)))) := ⟨by repeat (first | (with_reducible first | exact HB.out | apply below_alloc | apply pw_below_drewN | apply below_drew1 | refine below_set ?_ GE110.out | refine below_set ?_ GE118.out) | exact HB.out)⟩
              (try clear HO_9)
              (try clear HO_11)
              (try clear BK110)
              (try clear BK118)
              (try clear HB)
              generalize ((((w37.setCell ⟨gb118, 0, none⟩ (.int .i64 ((rd_T77 l0_1 x12_2).f0))).setCell ⟨gb118, 1, none⟩ (.int .i64 ((rd_T77 l0_1 x12_2).f1))).setCell ⟨gb118, 2, none⟩ (.int .i64 ((rd_T77 l0_1 x12_2).f2))).setCell ⟨gb118, 3, none⟩ (.int .i64 ((rd_T77 l0_1 x12_2).f3))) = w40 at n0_ n1_ n2_ n3_ n4_ ⊢
              have HO_9 := n0_
              have HO_11 := n1_
              have BK110 := n2_
              have BK118 := n3_
              have HB := n4_
              clear n0_ n1_ n2_ n3_ n4_
              have n0_ := Aside0.mk (Kd.R_drew HO_9.out)
              have n1_ := Aside0.mk (Kd.R_drew HO_11.out)
              have n2_ := Aside0.mk (blk_drew BK110.out)
              have n3_ := Aside0.mk (blk_drew BK118.out)
              have n4_ := Aside0.mk (below_drew1 HB.out)
              clear HO_9
              clear HO_11
              clear BK110
              clear BK118
              clear HB
              have HO_9 := n0_
              have HO_11 := n1_
              have BK110 := n2_
              have BK118 := n3_
              have HB := n4_
              clear n0_ n1_ n2_ n3_ n4_
              have p119 : 0 ≤ (x10_1 : Int) := of_decide_eq_true (by first | (with_reducible assumption) | assumption)
              have q119 : x10_1 < (l3.length : Int) := of_decide_eq_true (by first | (with_reducible assumption) | assumption)
              obtain ⟨ad119, e119, hx119_0⟩ := Kd.at_int HR3.out x10_1 p119 q119
              have hw119_0 := hx119_0
              cases e119
              replace hx119_0 := (HB.out.cell (World.block_lt_of_cell? w _ hx119_0)).trans hx119_0
              replace p119 := eq_true p119
              replace q119 := eq_true q119
              refine start_ (n := 12) (S := fun w' => w'.cell? ⟨gb118, 0, none⟩ = some (.int .i64 ((rd_T77 l0_1 x12_2).f0)) ∧ w'.cell? ⟨gb118, 1, none⟩ = some (.int .i64 ((rd_T77 l0_1 x12_2).f1)) ∧ w'.cell? ⟨gb118, 2, none⟩ = some (.int .i64 ((rd_T77 l0_1 x12_2).f2)) ∧ w'.cell? ⟨gb118, 3, none⟩ = some (.int .i64 ((rd_T77 l0_1 x12_2).f3)) ∧ w'.cell? (ad119.add (x10_1).toNat) = some (.int .i64 (rd l3 x10_1))) (ds := []) #[false, false, false, false, false, false, false, false, false, false, false, false] (by kernel_rfl) rfl rfl ⟨(blk_cell BK118.out 0).trans rfl, (blk_cell BK118.out 1).trans rfl, (blk_cell BK118.out 2).trans rfl, (blk_cell BK118.out 3).trans rfl, ((HB.out.cell (World.block_lt_of_cell? w _ hw119_0)).trans hw119_0)⟩ (fun hHeld => ?_); refine with_tabW spec_l02Ways.tab10 spec_l02Ways.bits10 (fun HT_ HW_ => ?_)
              generalize w40.drew = w41 at HO_9 HO_11 BK110 BK118 HB hx119_0 hHeld ⊢
              refine pure_ (i := 0) (N := some 36) (v := ?_) (a' := ?_) #[true, false, false, false, false, false, false, false, false, false, false, false] rfl rfl (any_of HT_.out (by kernel_rfl)) (fun _ _ _ h => h) (Or.inl ⟨by rfl, ?_⟩) ?_ ?_
              rotate_left
              ·intro w'
               go_simp
               with_reducible rfl
              rotate_left
              ·simp only [Act.put, List.setIfInBounds_toArray, List.set_cons_zero, List.set_cons_succ, i64_w, i32_w]
               rfl
              refine pure_ (i := 1) (N := some 37) (v := ?_) (a' := ?_) #[true, true, false, false, false, false, false, false, false, false, false, false] rfl rfl (any_of HT_.out (by kernel_rfl)) (fun _ _ _ h => h) (Or.inl ⟨by rfl, ?_⟩) ?_ ?_
              rotate_left
              ·intro w'
               go_simp
               with_reducible rfl
              rotate_left
              ·simp only [Act.put, List.setIfInBounds_toArray, List.set_cons_zero, List.set_cons_succ, i64_w, i32_w]
               rfl
              refine pure_ (i := 2) (N := some 38) (v := ?_) (a' := ?_) #[true, true, true, false, false, false, false, false, false, false, false, false] rfl rfl (any_of HT_.out (by kernel_rfl)) (fun _ _ _ h => h) (Or.inl ⟨by rfl, ?_⟩) ?_ ?_
              rotate_left
              ·intro w'
               go_simp
               with_reducible rfl
              rotate_left
              ·simp only [Act.put, List.setIfInBounds_toArray, List.set_cons_zero, List.set_cons_succ, i64_w, i32_w]
               rfl
              refine pure_ (i := 3) (N := some 39) (v := ?_) (a' := ?_) #[true, true, true, true, false, false, false, false, false, false, false, false] rfl rfl (any_of HT_.out (by kernel_rfl)) (fun _ _ _ h => h) (Or.inl ⟨by rfl, ?_⟩) ?_ ?_
              rotate_left
              ·intro w'
               go_simp
               with_reducible rfl
              rotate_left
              ·simp only [Act.put, List.setIfInBounds_toArray, List.set_cons_zero, List.set_cons_succ, i64_w, i32_w]
               rfl
              refine pure_ (i := 4) (N := some 40) (v := ?_) (a' := ?_) #[true, true, true, true, true, false, false, false, false, false, false, false] rfl rfl (any_of HT_.out (by kernel_rfl)) (fun _ _ _ h => h) (Or.inl ⟨by rfl, ?_⟩) ?_ ?_
              rotate_left
              ·intro w'
               go_simp
               with_reducible rfl
              rotate_left
              ·simp only [Act.put, List.setIfInBounds_toArray, List.set_cons_zero, List.set_cons_succ, i64_w, i32_w]
               rfl
              refine pure_ (i := 5) (N := some 41) (v := ?_) (a' := ?_) #[true, true, true, true, true, true, false, false, false, false, false, false] rfl rfl (any_of HT_.out (by kernel_rfl)) (fun _ _ _ h => h) (Or.inl ⟨by rfl, ?_⟩) ?_ ?_
              rotate_left
              ·intro w'
               go_simp
               with_reducible rfl
              rotate_left
              ·simp only [Act.put, List.setIfInBounds_toArray, List.set_cons_zero, List.set_cons_succ, i64_w, i32_w]
               rfl
              refine pure_ (i := 6) (N := some 42) (v := ?_) (a' := ?_) #[true, true, true, true, true, true, true, false, false, false, false, false] rfl rfl (any_of HT_.out (by kernel_rfl)) (fun _ _ _ h => h) (Or.inl ⟨by rfl, ?_⟩) ?_ ?_
              rotate_left
              ·intro w'
               go_simp
               with_reducible rfl
              rotate_left
              ·simp only [Act.put, List.setIfInBounds_toArray, List.set_cons_zero, List.set_cons_succ, i64_w, i32_w]
               rfl
              refine pure_ (i := 8) (N := some 44) (v := ?_) (a' := ?_) #[true, true, true, true, true, true, true, false, true, false, false, false] rfl rfl (any_of HT_.out (by kernel_rfl)) (fun _ _ _ h => h) (Or.inl ⟨by rfl, ?_⟩) ?_ ?_
              rotate_left
              ·intro w'
               go_simp
               with_reducible rfl
              rotate_left
              ·simp only [Act.put, List.setIfInBounds_toArray, List.set_cons_zero, List.set_cons_succ, i64_w, i32_w]
               rfl
              refine take_ (i := 7) (N := some 43) (v := ?_) (a' := ?_) #[true, true, true, true, true, true, true, true, true, false, false, false] rfl rfl (take_ofW HT_.out HW_.out (by kernel_rfl)) (fun _ _ _ h => h) (Or.inl ⟨by rfl, ?_⟩) hHeld ?_ ?_
              rotate_left
              ·rintro w' ⟨s0, s1, s2, s3, s4⟩
               go_simp
               with_reducible rfl
              rotate_left
              ·simp only [Act.put, List.setIfInBounds_toArray, List.set_cons_zero, List.set_cons_succ, i64_w, i32_w]
               rfl
              refine take_ (i := 9) (N := some 45) (v := ?_) (a' := ?_) #[true, true, true, true, true, true, true, true, true, true, false, false] rfl rfl (take_ofW HT_.out HW_.out (by kernel_rfl)) (fun _ _ _ h => h) (Or.inl ⟨by rfl, ?_⟩) hHeld ?_ ?_
              rotate_left
              ·rintro w' ⟨s0, s1, s2, s3, s4⟩
               go_simp
               with_reducible rfl
              rotate_left
              ·simp only [Act.put, List.setIfInBounds_toArray, List.set_cons_zero, List.set_cons_succ, i64_w, i32_w]
               rfl
              refine pure_ (i := 10) (N := some 46) (v := ?_) (a' := ?_) #[true, true, true, true, true, true, true, true, true, true, true, false] rfl rfl (any_of HT_.out (by kernel_rfl)) (fun _ _ _ h => h) (Or.inl ⟨by rfl, ?_⟩) ?_ ?_
              rotate_left
              ·intro w'
               go_simp
               with_reducible rfl
              rotate_left
              ·simp only [Act.put, List.setIfInBounds_toArray, List.set_cons_zero, List.set_cons_succ, i64_w, i32_w]
               rfl
              refine pure_ (i := 11) (N := some 47) (v := ?_) (a' := ?_) #[true, true, true, true, true, true, true, true, true, true, true, true] rfl rfl (any_of HT_.out (by kernel_rfl)) (fun _ _ _ h => h) (Or.inl ⟨by rfl, ?_⟩) ?_ ?_
              rotate_left
              ·intro w'
               go_simp
               with_reducible rfl
              rotate_left
              ·simp only [Act.put, List.setIfInBounds_toArray, List.set_cons_zero, List.set_cons_succ, i64_w, i32_w]
               rfl
              refine done_ (done_of HT_.out (by kernel_rfl)) ?_
              try go_wp2
              go_roundg k2
              case measure => have := HK1.out; have := HK2.out; omega
              case rel => exact ⟨(x11_2), (wrap64 (x12_2 + 1)), (by first | rfl | (simp; done) | (simp [*]; done)), H', ⟨by have := HK1.out; have := HK2.out; omega⟩, ⟨by (with_reducible repeat (first | apply Kd.R_alloc | apply Kd.R_drewN | apply Kd.R_drew)); exact HO_9.out⟩, ⟨by (with_reducible repeat (first | apply Kd.R_alloc | apply Kd.R_drewN | apply Kd.R_drew)); exact HO_11.out⟩, ⟨by (with_reducible repeat (first | refine blk_drewN ?_ _ | refine blk_drew ?_ | refine blk_alloc ?_ _)); exact BK110.out⟩, ⟨by repeat (first | (with_reducible first | exact HB.out | apply below_alloc | apply pw_below_drewN | apply below_drew1 | refine below_set ?_ GE110.out | refine below_set ?_ GE118.out) | exact HB.out)⟩⟩
            ·rw [if_neg c18] at H
             exact absurd H (by simp)
           ·rw [if_neg c17] at H
            exact absurd H (by simp)
          ·rw [if_neg c16] at H
           have c16b0 : decide (0 < (l3.length : Int)) = false := decide_eq_false c16
           have c16b1 : decide (0 < l3.length) = false := decide_eq_false (by omega)
           clear c16
           by_cases c42 : 0 ≤ ((rd_T77 l0_1 x12_2).f2)
           ·rw [if_pos c42] at H
            have c42b0 : decide (0 ≤ ((rd_T77 l0_1 x12_2).f2)) = true := decide_eq_true c42
            clear c42
            by_cases c43 : ((rd_T77 l0_1 x12_2).f2) < (x11_2.length : Int)
            ·rw [if_pos c43] at H
             have c43b0 : decide (((rd_T77 l0_1 x12_2).f2) < (x11_2.length : Int)) = true := decide_eq_true c43
             clear c43
             by_cases c44 : 0 ≤ ((rd_T77 l0_1 x12_2).f0)
             ·rw [if_pos c44] at H
              have c44b0 : decide (0 ≤ ((rd_T77 l0_1 x12_2).f0)) = true := decide_eq_true c44
              clear c44
              by_cases c45 : ((rd_T77 l0_1 x12_2).f0) < (x9_1.length : Int)
              ·rw [if_pos c45] at H
               have c45b0 : decide (((rd_T77 l0_1 x12_2).f0) < (x9_1.length : Int)) = true := decide_eq_true c45
               clear c45
               obtain ⟨ji46, hji46⟩ : ∃ j_ : Int, (mn (wrap64 ((rd x11_2 ((rd_T77 l0_1 x12_2).f2)) + (rd x9_1 ((rd_T77 l0_1 x12_2).f0)))) 1000000000000001) = j_ := ⟨_, rfl⟩
               replace H : (spec_l02Ways.l1 k2 a2 l3 x9_1 x10_1 (x11_2.set (((rd_T77 l0_1 x12_2).f2) : Int).toNat (ji46)) (wrap64 (x12_2 + 1)) a0_0 l0_1) = some r := by first | (rw [hji46] at H; exact H) | (simp only [hji46] at H ⊢; exact H)
               have hji46_ : (if 1000000000000001 < (wrap64 ((rd x11_2 ((rd_T77 l0_1 x12_2).f2)) + (rd x9_1 ((rd_T77 l0_1 x12_2).f0)))) then 1000000000000001 else (wrap64 ((rd x11_2 ((rd_T77 l0_1 x12_2).f2)) + (rd x9_1 ((rd_T77 l0_1 x12_2).f0))))) = ji46 := hji46
               obtain ⟨y125, hy125⟩ : ∃ y_ : List Int, y_ = (x11_2.set (((rd_T77 l0_1 x12_2).f2) : Int).toNat (ji46)) := ⟨_, rfl⟩
               replace H : (spec_l02Ways.l1 k2 a2 l3 x9_1 x10_1 y125 (wrap64 (x12_2 + 1)) a0_0 l0_1) = some r := by first | (rw [hy125]; with_reducible exact H) | (have H2_ := (Option.bind_some _ _).symm.trans H; rw [hy125]; with_reducible exact H2_) | (have H2_ := (Option.bind_some _ _).symm.trans H; with_reducible exact H2_) | with_reducible exact H | (rw [hy125]; exact H) | exact H
               have Ny125 := Aside0.mk hy125
               clear hy125
               have H' := Aside0.mk H
               clear H
               have hcz48_0 : wr.cell? ⟨gb110, 0, none⟩ = some (.int .i64 a0_0) := (blk_cell BK110.out 0).trans rfl
               have hcz48_1 : wr.cell? ⟨gb110, 1, none⟩ = some (.slice A0_1 l0_1.length c0_1) := (blk_cell BK110.out 1).trans rfl
               have hfz48_0 := blk_frozen BK110.out 0
               have hfz48_1 := blk_frozen BK110.out 1
               have p117 : 0 ≤ (x12_2 : Int) := of_decide_eq_true (by first | (with_reducible assumption) | assumption)
               have q117 : x12_2 < (l0_1.length : Int) := of_decide_eq_true (by first | (with_reducible assumption) | assumption)
               obtain ⟨ad117, e117, hx117_0, hx117_1, hx117_2, hx117_3⟩ := at_T77 HR0_1.out x12_2 p117 q117
               cases e117
               replace hx117_0 := (HB.out.cell (World.block_lt_of_cell? w _ hx117_0)).trans hx117_0
               replace hx117_1 := (HB.out.cell (World.block_lt_of_cell? w _ hx117_1)).trans hx117_1
               replace hx117_2 := (HB.out.cell (World.block_lt_of_cell? w _ hx117_2)).trans hx117_2
               replace hx117_3 := (HB.out.cell (World.block_lt_of_cell? w _ hx117_3)).trans hx117_3
               replace p117 := eq_true p117
               replace q117 := eq_true q117
               try go_wp2_with (first | ((with_reducible refine gate_dst (N := 13) rfl ?_); refine box_event ?hg (N := 13) ?hd (cs := #[.int .i64 0, .int .i64 0, .int .i64 0, .int .i64 0]) (t := 77) ?hr ?_; (case hd => rfl); (case hg => rfl); (case hr => first | (go_simp; done) | (go_simp; rfl)); intro gb118 hg w49 hbox hb; have n0_ := Aside0.mk (Kd.R_below (by (with_reducible repeat (first | apply Kd.R_alloc | apply Kd.R_drewN | apply Kd.R_drew)); exact HO_9.out) hb); have n1_ := Aside0.mk (Kd.R_below (by (with_reducible repeat (first | apply Kd.R_alloc | apply Kd.R_drewN | apply Kd.R_drew)); exact HO_11.out) hb); have n2_ := Aside0.mk (blk_below (g := gb110) (o := .cells #[.int .i64 a0_0, .slice (some ad117) l0_1.length c0_1] 30 (0, 0)) (by (with_reducible repeat (first | refine blk_drewN ?_ _ | refine blk_drew ?_ | refine blk_alloc ?_ _)); exact BK110.out) hb); have n3_ := Aside0.mk (below_step (by repeat (first | (with_reducible first | exact HB.out | apply below_alloc | apply pw_below_drewN | apply below_drew1 | refine below_set ?_ GE110.out) | exact HB.out)) hb); have n4_ := Aside0.mk (hbox); have n5_ := Aside0.mk ((by rw [hg]; exact (below_size (by repeat (first | (with_reducible first | exact HB.out | apply below_alloc | apply pw_below_drewN | apply below_drew1 | refine below_set ?_ GE110.out) | exact HB.out))) : w.heap.size ≤ gb118)); have n6_ := Aside0.mk ((by rw [hg]; exact (below_size (by repeat (first | (with_reducible first | exact HB.out | apply below_alloc | apply pw_below_drewN | apply below_drew1 | refine below_set ?_ GE110.out) | exact HB.out))) : w.heap.size ≤ gb118)); have n7_ := Aside0.mk ((by rw [hg]; exact Nat.ne_of_lt (blk_lt (g := gb110) (o := .cells #[.int .i64 a0_0, .slice (some ad117) l0_1.length c0_1] 30 (0, 0)) (by (with_reducible repeat (first | refine blk_drewN ?_ _ | refine blk_drew ?_ | refine blk_alloc ?_ _)); exact BK110.out)) : gb110 ≠ gb118)); have n8_ := Aside0.mk ((by rw [hg]; exact Nat.ne_of_gt (blk_lt (g := gb110) (o := .cells #[.int .i64 a0_0, .slice (some ad117) l0_1.length c0_1] 30 (0, 0)) (by (with_reducible repeat (first | refine blk_drewN ?_ _ | refine blk_drew ?_ | refine blk_alloc ?_ _)); exact BK110.out)) : gb118 ≠ gb110)); clear HO_9; clear HO_11; clear BK110; clear HB; have HO_9 := n0_; have HO_11 := n1_; have BK110 := n2_; have HB := n3_; have BK118 := n4_; have GW118 := n5_; have GE118 := n6_; have NB110_118 := n7_; have NB118_110 := n8_; clear n0_ n1_ n2_ n3_ n4_ n5_ n6_ n7_ n8_; clear hb hbox hg; have hnb50 := NB118_110.out; have hnc50 := NB110_118.out; have hcz51_0 : w49.cell? ⟨gb118, 0, none⟩ = some (.int .i64 0) := (blk_cell BK118.out 0).trans rfl; have hcz51_1 : w49.cell? ⟨gb118, 1, none⟩ = some (.int .i64 0) := (blk_cell BK118.out 1).trans rfl; have hcz51_2 : w49.cell? ⟨gb118, 2, none⟩ = some (.int .i64 0) := (blk_cell BK118.out 2).trans rfl; have hcz51_3 : w49.cell? ⟨gb118, 3, none⟩ = some (.int .i64 0) := (blk_cell BK118.out 3).trans rfl; have hfz51_0 := blk_frozen BK118.out 0; have hfz51_1 := blk_frozen BK118.out 1; have hfz51_2 := blk_frozen BK118.out 2; have hfz51_3 := blk_frozen BK118.out 3))
               have n0_ : Aside0 (Kd.R (Kd.int .i64) 2 ((((w49.setCell ⟨gb118, 0, none⟩ (.int .i64 ((rd_T77 l0_1 x12_2).f0))).setCell ⟨gb118, 1, none⟩ (.int .i64 ((rd_T77 l0_1 x12_2).f1))).setCell ⟨gb118, 2, none⟩ (.int .i64 ((rd_T77 l0_1 x12_2).f2))).setCell ⟨gb118, 3, none⟩ (.int .i64 ((rd_T77 l0_1 x12_2).f3))) w.heap.size (fun k_ => some k_ ≠ (v115 : Value).ownBlock) u9 x9_1) := ⟨by (with_reducible repeat (first | apply Kd.R_alloc | apply Kd.R_drewN | apply Kd.R_drew)); exact Kd.R_mono (Kd.R_far (p := ⟨gb118, 3, none⟩) (Kd.R_far (p := ⟨gb118, 2, none⟩) (Kd.R_far (p := ⟨gb118, 1, none⟩) (Kd.R_far (p := ⟨gb118, 0, none⟩) (Kd.R_types HO_9.out BK118.out (by decide)) (fun _ hk => hk.2) (.int .i64 ((rd_T77 l0_1 x12_2).f0))) (fun _ hk => hk.2) (.int .i64 ((rd_T77 l0_1 x12_2).f1))) (fun _ hk => hk.2) (.int .i64 ((rd_T77 l0_1 x12_2).f2))) (fun _ hk => hk.2) (.int .i64 ((rd_T77 l0_1 x12_2).f3))) (fun _ hk => hk.1)⟩
               have n1_ : Aside0 (Kd.R (Kd.int .i64) 2 ((((w49.setCell ⟨gb118, 0, none⟩ (.int .i64 ((rd_T77 l0_1 x12_2).f0))).setCell ⟨gb118, 1, none⟩ (.int .i64 ((rd_T77 l0_1 x12_2).f1))).setCell ⟨gb118, 2, none⟩ (.int .i64 ((rd_T77 l0_1 x12_2).f2))).setCell ⟨gb118, 3, none⟩ (.int .i64 ((rd_T77 l0_1 x12_2).f3))) w.heap.size (fun k_ => some k_ ≠ (u9 : Value).ownBlock) v115 x11_2) := ⟨by (with_reducible repeat (first | apply Kd.R_alloc | apply Kd.R_drewN | apply Kd.R_drew)); exact Kd.R_mono (Kd.R_far (p := ⟨gb118, 3, none⟩) (Kd.R_far (p := ⟨gb118, 2, none⟩) (Kd.R_far (p := ⟨gb118, 1, none⟩) (Kd.R_far (p := ⟨gb118, 0, none⟩) (Kd.R_types HO_11.out BK118.out (by decide)) (fun _ hk => hk.2) (.int .i64 ((rd_T77 l0_1 x12_2).f0))) (fun _ hk => hk.2) (.int .i64 ((rd_T77 l0_1 x12_2).f1))) (fun _ hk => hk.2) (.int .i64 ((rd_T77 l0_1 x12_2).f2))) (fun _ hk => hk.2) (.int .i64 ((rd_T77 l0_1 x12_2).f3))) (fun _ hk => hk.1)⟩
               have n2_ : Aside0 (((((w49.setCell ⟨gb118, 0, none⟩ (.int .i64 ((rd_T77 l0_1 x12_2).f0))).setCell ⟨gb118, 1, none⟩ (.int .i64 ((rd_T77 l0_1 x12_2).f1))).setCell ⟨gb118, 2, none⟩ (.int .i64 ((rd_T77 l0_1 x12_2).f2))).setCell ⟨gb118, 3, none⟩ (.int .i64 ((rd_T77 l0_1 x12_2).f3))).heap[gb110]? = some (.cells #[.int .i64 a0_0, .slice (some ad117) l0_1.length c0_1] 30 (0, 0))) := ⟨by (with_reducible repeat (first | refine blk_drewN ?_ _ | refine blk_drew ?_ | refine blk_alloc ?_ _)); refine blk_far ?_ NB110_118.out _; (with_reducible repeat (first | refine blk_drewN ?_ _ | refine blk_drew ?_ | refine blk_alloc ?_ _)); refine blk_far ?_ NB110_118.out _; (with_reducible repeat (first | refine blk_drewN ?_ _ | refine blk_drew ?_ | refine blk_alloc ?_ _)); refine blk_far ?_ NB110_118.out _; (with_reducible repeat (first | refine blk_drewN ?_ _ | refine blk_drew ?_ | refine blk_alloc ?_ _)); refine blk_far ?_ NB110_118.out _; (with_reducible repeat (first | refine blk_drewN ?_ _ | refine blk_drew ?_ | refine blk_alloc ?_ _)); exact BK110.out⟩
               have n3_ : Aside0 (((((w49.setCell ⟨gb118, 0, none⟩ (.int .i64 ((rd_T77 l0_1 x12_2).f0))).setCell ⟨gb118, 1, none⟩ (.int .i64 ((rd_T77 l0_1 x12_2).f1))).setCell ⟨gb118, 2, none⟩ (.int .i64 ((rd_T77 l0_1 x12_2).f2))).setCell ⟨gb118, 3, none⟩ (.int .i64 ((rd_T77 l0_1 x12_2).f3))).heap[gb118]? = some (.cells #[.int .i64 ((rd_T77 l0_1 x12_2).f0), .int .i64 ((rd_T77 l0_1 x12_2).f1), .int .i64 ((rd_T77 l0_1 x12_2).f2), .int .i64 ((rd_T77 l0_1 x12_2).f3)] 77 (0, 0))) := ⟨by (with_reducible repeat (first | refine blk_drewN ?_ _ | refine blk_drew ?_ | refine blk_alloc ?_ _)); refine blk_put (cs := #[.int .i64 ((rd_T77 l0_1 x12_2).f0), .int .i64 ((rd_T77 l0_1 x12_2).f1), .int .i64 ((rd_T77 l0_1 x12_2).f2), .int .i64 0]) ?_ 3 _ rfl; (with_reducible repeat (first | refine blk_drewN ?_ _ | refine blk_drew ?_ | refine blk_alloc ?_ _)); refine blk_put (cs := #[.int .i64 ((rd_T77 l0_1 x12_2).f0), .int .i64 ((rd_T77 l0_1 x12_2).f1), .int .i64 0, .int .i64 0]) ?_ 2 _ rfl; (with_reducible repeat (first | refine blk_drewN ?_ _ | refine blk_drew ?_ | refine blk_alloc ?_ _)); refine blk_put (cs := #[.int .i64 ((rd_T77 l0_1 x12_2).f0), .int .i64 0, .int .i64 0, .int .i64 0]) ?_ 1 _ rfl; (with_reducible repeat (first | refine blk_drewN ?_ _ | refine blk_drew ?_ | refine blk_alloc ?_ _)); refine blk_put (cs := #[.int .i64 0, .int .i64 0, .int .i64 0, .int .i64 0]) ?_ 0 _ rfl; (with_reducible repeat (first | refine blk_drewN ?_ _ | refine blk_drew ?_ | refine blk_alloc ?_ _)); exact BK118.out⟩
               have n4_ : Aside0 (Below w.heap.size w ((((w49.setCell ⟨gb118, 0, none⟩ (.int .i64 ((rd_T77 l0_1 x12_2).f0))).setCell ⟨gb118, 1, none⟩ (.int .i64 ((rd_T77 l0_1 x12_2).f1))).setCell ⟨gb118, 2, none⟩ (.int .i64 ((rd_T77 l0_1 x12_2).f2))).setCell ⟨gb118, 3, none⟩ (.int .i64 ((rd_T77 l0_1 x12_2).f3)))) := ⟨by repeat (first | (with_reducible first | exact HB.out | apply below_alloc | apply pw_below_drewN | apply below_drew1 | refine below_set ?_ GE110.out | refine below_set ?_ GE118.out) | exact HB.out)⟩
               (try clear HO_9)
               (try clear HO_11)
               (try clear BK110)
               (try clear BK118)
               (try clear HB)
               generalize ((((w49.setCell ⟨gb118, 0, none⟩ (.int .i64 ((rd_T77 l0_1 x12_2).f0))).setCell ⟨gb118, 1, none⟩ (.int .i64 ((rd_T77 l0_1 x12_2).f1))).setCell ⟨gb118, 2, none⟩ (.int .i64 ((rd_T77 l0_1 x12_2).f2))).setCell ⟨gb118, 3, none⟩ (.int .i64 ((rd_T77 l0_1 x12_2).f3))) = w52 at n0_ n1_ n2_ n3_ n4_ ⊢
               have HO_9 := n0_
               have HO_11 := n1_
               have BK110 := n2_
               have BK118 := n3_
               have HB := n4_
               clear n0_ n1_ n2_ n3_ n4_
               have n0_ := Aside0.mk (Kd.R_drew HO_9.out)
               have n1_ := Aside0.mk (Kd.R_drew HO_11.out)
               have n2_ := Aside0.mk (blk_drew BK110.out)
               have n3_ := Aside0.mk (blk_drew BK118.out)
               have n4_ := Aside0.mk (below_drew1 HB.out)
               clear HO_9
               clear HO_11
               clear BK110
               clear BK118
               clear HB
               have HO_9 := n0_
               have HO_11 := n1_
               have BK110 := n2_
               have BK118 := n3_
               have HB := n4_
               clear n0_ n1_ n2_ n3_ n4_
               refine start_ (n := 12) (S := fun w' => True) (ds := []) #[false, false, false, false, false, false, false, false, false, false, false, false] (by kernel_rfl) rfl rfl trivial (fun hHeld => ?_); refine with_tabW spec_l02Ways.tab10 spec_l02Ways.bits10 (fun HT_ HW_ => ?_)
               generalize w52.drew = w53 at HO_9 HO_11 BK110 BK118 HB hHeld ⊢
               refine pure_ (i := 0) (N := some 36) (v := ?_) (a' := ?_) #[true, false, false, false, false, false, false, false, false, false, false, false] rfl rfl (any_of HT_.out (by kernel_rfl)) (fun _ _ _ h => h) (Or.inl ⟨by rfl, ?_⟩) ?_ ?_
               rotate_left
               ·intro w'
                go_simp
                with_reducible rfl
               rotate_left
               ·simp only [Act.put, List.setIfInBounds_toArray, List.set_cons_zero, List.set_cons_succ, i64_w, i32_w]
                rfl
               refine pure_ (i := 1) (N := some 37) (v := ?_) (a' := ?_) #[true, true, false, false, false, false, false, false, false, false, false, false] rfl rfl (any_of HT_.out (by kernel_rfl)) (fun _ _ _ h => h) (Or.inl ⟨by rfl, ?_⟩) ?_ ?_
               rotate_left
               ·intro w'
                go_simp
                with_reducible rfl
               rotate_left
               ·simp only [Act.put, List.setIfInBounds_toArray, List.set_cons_zero, List.set_cons_succ, i64_w, i32_w]
                rfl
               refine pure_ (i := 2) (N := some 38) (v := ?_) (a' := ?_) #[true, true, true, false, false, false, false, false, false, false, false, false] rfl rfl (any_of HT_.out (by kernel_rfl)) (fun _ _ _ h => h) (Or.inl ⟨by rfl, ?_⟩) ?_ ?_
               rotate_left
               ·intro w'
                go_simp
                with_reducible rfl
               rotate_left
               ·simp only [Act.put, List.setIfInBounds_toArray, List.set_cons_zero, List.set_cons_succ, i64_w, i32_w]
                rfl
               refine pure_ (i := 3) (N := some 39) (v := ?_) (a' := ?_) #[true, true, true, true, false, false, false, false, false, false, false, false] rfl rfl (any_of HT_.out (by kernel_rfl)) (fun _ _ _ h => h) (Or.inl ⟨by rfl, ?_⟩) ?_ ?_
               rotate_left
               ·intro w'
                go_simp
                with_reducible rfl
               rotate_left
               ·simp only [Act.put, List.setIfInBounds_toArray, List.set_cons_zero, List.set_cons_succ, i64_w, i32_w]
                rfl
               refine pure_ (i := 4) (N := some 40) (v := undef) (a' := ?_) #[true, true, true, true, true, false, false, false, false, false, false, false] rfl rfl (any_of HT_.out (by kernel_rfl)) (fun _ _ _ h => h) (Or.inr ⟨by rfl, rfl⟩) ?_ ?_
               rotate_left
               ·simp only [Act.put, List.setIfInBounds_toArray, List.set_cons_zero, List.set_cons_succ, i64_w, i32_w]
                rfl
               refine pure_ (i := 5) (N := some 41) (v := undef) (a' := ?_) #[true, true, true, true, true, true, false, false, false, false, false, false] rfl rfl (any_of HT_.out (by kernel_rfl)) (fun _ _ _ h => h) (Or.inr ⟨by rfl, rfl⟩) ?_ ?_
               rotate_left
               ·simp only [Act.put, List.setIfInBounds_toArray, List.set_cons_zero, List.set_cons_succ, i64_w, i32_w]
                rfl
               refine pure_ (i := 6) (N := some 42) (v := undef) (a' := ?_) #[true, true, true, true, true, true, true, false, false, false, false, false] rfl rfl (any_of HT_.out (by kernel_rfl)) (fun _ _ _ h => h) (Or.inr ⟨by rfl, rfl⟩) ?_ ?_
               rotate_left
               ·simp only [Act.put, List.setIfInBounds_toArray, List.set_cons_zero, List.set_cons_succ, i64_w, i32_w]
                rfl
               refine pure_ (i := 7) (N := some 43) (v := undef) (a' := ?_) #[true, true, true, true, true, true, true, true, false, false, false, false] rfl rfl (any_of HT_.out (by kernel_rfl)) (fun _ _ _ h => h) (Or.inr ⟨by rfl, rfl⟩) ?_ ?_
               rotate_left
               ·simp only [Act.put, List.setIfInBounds_toArray, List.set_cons_zero, List.set_cons_succ, i64_w, i32_w]
                rfl
               refine pure_ (i := 8) (N := some 44) (v := undef) (a' := ?_) #[true, true, true, true, true, true, true, true, true, false, false, false] rfl rfl (any_of HT_.out (by kernel_rfl)) (fun _ _ _ h => h) (Or.inr ⟨by rfl, rfl⟩) ?_ ?_
               rotate_left
               ·simp only [Act.put, List.setIfInBounds_toArray, List.set_cons_zero, List.set_cons_succ, i64_w, i32_w]
                rfl
               refine pure_ (i := 9) (N := some 45) (v := undef) (a' := ?_) #[true, true, true, true, true, true, true, true, true, true, false, false] rfl rfl (any_of HT_.out (by kernel_rfl)) (fun _ _ _ h => h) (Or.inr ⟨by rfl, rfl⟩) ?_ ?_
               rotate_left
               ·simp only [Act.put, List.setIfInBounds_toArray, List.set_cons_zero, List.set_cons_succ, i64_w, i32_w]
                rfl
               refine pure_ (i := 10) (N := some 46) (v := undef) (a' := ?_) #[true, true, true, true, true, true, true, true, true, true, true, false] rfl rfl (any_of HT_.out (by kernel_rfl)) (fun _ _ _ h => h) (Or.inr ⟨by rfl, rfl⟩) ?_ ?_
               rotate_left
               ·simp only [Act.put, List.setIfInBounds_toArray, List.set_cons_zero, List.set_cons_succ, i64_w, i32_w]
                rfl
               refine pure_ (i := 11) (N := some 47) (v := ?_) (a' := ?_) #[true, true, true, true, true, true, true, true, true, true, true, true] rfl rfl (any_of HT_.out (by kernel_rfl)) (fun _ _ _ h => h) (Or.inl ⟨by rfl, ?_⟩) ?_ ?_
               rotate_left
               ·intro w'
                go_simp
                with_reducible rfl
               rotate_left
               ·simp only [Act.put, List.setIfInBounds_toArray, List.set_cons_zero, List.set_cons_succ, i64_w, i32_w]
                rfl
               refine done_ (done_of HT_.out (by kernel_rfl)) ?_
               try go_wp2
               have n0_ := Aside0.mk (Kd.R_drew HO_9.out)
               have n1_ := Aside0.mk (Kd.R_drew HO_11.out)
               have n2_ := Aside0.mk (blk_drew BK110.out)
               have n3_ := Aside0.mk (blk_drew BK118.out)
               have n4_ := Aside0.mk (below_drew1 HB.out)
               clear HO_9
               clear HO_11
               clear BK110
               clear BK118
               clear HB
               have HO_9 := n0_
               have HO_11 := n1_
               have BK110 := n2_
               have BK118 := n3_
               have HB := n4_
               clear n0_ n1_ n2_ n3_ n4_
               obtain ⟨Ao55, co55, eo55⟩ := Kd.R_slice HO_11.out
               (first | subst eo55 | (injection eo55 with f1_ f2_ f3_; have f4_ := f1_.symm; have f5_ := f3_.symm; clear f1_ f2_ f3_; subst f4_; subst f5_))
               have p123 : 0 ≤ (((rd_T77 l0_1 x12_2).f2) : Int) := of_decide_eq_true (by first | (with_reducible assumption) | assumption)
               have q123 : ((rd_T77 l0_1 x12_2).f2) < (x11_2.length : Int) := of_decide_eq_true (by first | (with_reducible assumption) | assumption)
               obtain ⟨ad123, e123, hx123_0⟩ := Kd.at_int (Kd.R_reads' HO_11.out).2.2 ((rd_T77 l0_1 x12_2).f2) p123 q123
               cases e123
               replace p123 := eq_true p123
               replace q123 := eq_true q123
               obtain ⟨Ao56, co56, eo56⟩ := Kd.R_slice HO_9.out
               (first | subst eo56 | (injection eo56 with f1_ f2_ f3_; have f4_ := f1_.symm; have f5_ := f3_.symm; clear f1_ f2_ f3_; subst f4_; subst f5_))
               have p124 : 0 ≤ (((rd_T77 l0_1 x12_2).f0) : Int) := of_decide_eq_true (by first | (with_reducible assumption) | assumption)
               have q124 : ((rd_T77 l0_1 x12_2).f0) < (x9_1.length : Int) := of_decide_eq_true (by first | (with_reducible assumption) | assumption)
               obtain ⟨ad124, e124, hx124_0⟩ := Kd.at_int (Kd.R_reads' HO_9.out).2.2 ((rd_T77 l0_1 x12_2).f0) p124 q124
               cases e124
               replace p124 := eq_true p124
               replace q124 := eq_true q124
               have p47 : 0 ≤ (((rd_T77 l0_1 x12_2).f2) : Int) := of_decide_eq_true (by first | (with_reducible assumption) | assumption)
               have q47 : (((rd_T77 l0_1 x12_2).f2) : Int) < ((x11_2.length : Int) : Int) := of_decide_eq_true (by first | (with_reducible assumption) | assumption)
               obtain ⟨go47, co47, eo47, gb47, gl47, cl47, HG47⟩ := Kd.R_form HO_11.out (by omega)
               (first | cases eo47 | (injection eo47 with ea_ en_ ec_; (first | subst ea_ | (injection ea_ with ea_; subst ea_)); subst ec_; clear en_))
               have GB47 := Aside0.mk gb47
               have GG47 := Aside0.mk HG47
               clear gb47 gl47 HG47
               (first | simp only [add_plain] at hx123_0 | skip)
               obtain ⟨hx47_0, hf47_0⟩ := Kd.R_celln 0 HO_11.out (((rd_T77 l0_1 x12_2).f2) : Int) p47 q47
               replace p47 := eq_true p47
               replace q47 := eq_true q47
               have HP57 := Kd.R_putn HO_11.out (((rd_T77 l0_1 x12_2).f2) : Int) ji46
               rw [← Ny125.out] at HP57
               have HQ57 := Aside0.mk HP57
               clear HP57
               refine start_ (n := 17) (S := fun w' => w'.cell? ⟨gb118, 0, none⟩ = some (.int .i64 ((rd_T77 l0_1 x12_2).f0)) ∧ w'.cell? ⟨gb118, 1, none⟩ = some (.int .i64 ((rd_T77 l0_1 x12_2).f1)) ∧ w'.cell? ⟨gb118, 2, none⟩ = some (.int .i64 ((rd_T77 l0_1 x12_2).f2)) ∧ w'.cell? ⟨gb118, 3, none⟩ = some (.int .i64 ((rd_T77 l0_1 x12_2).f3)) ∧ w'.cell? ⟨go47, (((rd_T77 l0_1 x12_2).f2)).toNat, none⟩ = some (.int .i64 (rd x11_2 ((rd_T77 l0_1 x12_2).f2))) ∧ w'.cell? (ad124.add (((rd_T77 l0_1 x12_2).f0)).toNat) = some (.int .i64 (rd x9_1 ((rd_T77 l0_1 x12_2).f0)))) (ds := [16]) #[false, false, false, false, false, false, false, false, false, false, false, false, false, false, false, false, false] (by kernel_rfl) rfl rfl ⟨(blk_cell BK118.out 0).trans rfl, (blk_cell BK118.out 1).trans rfl, (blk_cell BK118.out 2).trans rfl, (blk_cell BK118.out 3).trans rfl, hx123_0, hx124_0⟩ (fun hHeld => ?_); refine with_tabW spec_l02Ways.tab11 spec_l02Ways.bits11 (fun HT_ HW_ => ?_)
               generalize w53.drew = w54 at HO_9 HO_11 BK110 BK118 HB GG47 HQ57 hf47_0 hx123_0 hx124_0 hx47_0 hHeld ⊢
               refine pure_ (i := 0) (N := some 48) (v := ?_) (a' := ?_) #[true, false, false, false, false, false, false, false, false, false, false, false, false, false, false, false, false] rfl rfl (any_of HT_.out (by kernel_rfl)) (fun _ _ _ h => h) (Or.inl ⟨by rfl, ?_⟩) ?_ ?_
               rotate_left
               ·intro w'
                go_simp
                with_reducible rfl
               rotate_left
               ·simp only [Act.put, List.setIfInBounds_toArray, List.set_cons_zero, List.set_cons_succ, i64_w, i32_w]
                rfl
               refine pure_ (i := 1) (N := some 49) (v := ?_) (a' := ?_) #[true, true, false, false, false, false, false, false, false, false, false, false, false, false, false, false, false] rfl rfl (any_of HT_.out (by kernel_rfl)) (fun _ _ _ h => h) (Or.inl ⟨by rfl, ?_⟩) ?_ ?_
               rotate_left
               ·intro w'
                go_simp
                with_reducible rfl
               rotate_left
               ·simp only [Act.put, List.setIfInBounds_toArray, List.set_cons_zero, List.set_cons_succ, i64_w, i32_w]
                rfl
               refine pure_ (i := 3) (N := some 51) (v := ?_) (a' := ?_) #[true, true, false, true, false, false, false, false, false, false, false, false, false, false, false, false, false] rfl rfl (any_of HT_.out (by kernel_rfl)) (fun _ _ _ h => h) (Or.inl ⟨by rfl, ?_⟩) ?_ ?_
               rotate_left
               ·intro w'
                go_simp
                with_reducible rfl
               rotate_left
               ·simp only [Act.put, List.setIfInBounds_toArray, List.set_cons_zero, List.set_cons_succ, i64_w, i32_w]
                rfl
               refine pure_ (i := 4) (N := some 52) (v := ?_) (a' := ?_) #[true, true, false, true, true, false, false, false, false, false, false, false, false, false, false, false, false] rfl rfl (any_of HT_.out (by kernel_rfl)) (fun _ _ _ h => h) (Or.inl ⟨by rfl, ?_⟩) ?_ ?_
               rotate_left
               ·intro w'
                go_simp
                with_reducible rfl
               rotate_left
               ·simp only [Act.put, List.setIfInBounds_toArray, List.set_cons_zero, List.set_cons_succ, i64_w, i32_w]
                rfl
               refine pure_ (i := 8) (N := some 56) (v := ?_) (a' := ?_) #[true, true, false, true, true, false, false, false, true, false, false, false, false, false, false, false, false] rfl rfl (any_of HT_.out (by kernel_rfl)) (fun _ _ _ h => h) (Or.inl ⟨by rfl, ?_⟩) ?_ ?_
               rotate_left
               ·intro w'
                go_simp
                with_reducible rfl
               rotate_left
               ·simp only [Act.put, List.setIfInBounds_toArray, List.set_cons_zero, List.set_cons_succ, i64_w, i32_w]
                rfl
               refine pure_ (i := 9) (N := some 57) (v := ?_) (a' := ?_) #[true, true, false, true, true, false, false, false, true, true, false, false, false, false, false, false, false] rfl rfl (any_of HT_.out (by kernel_rfl)) (fun _ _ _ h => h) (Or.inl ⟨by rfl, ?_⟩) ?_ ?_
               rotate_left
               ·intro w'
                go_simp
                with_reducible rfl
               rotate_left
               ·simp only [Act.put, List.setIfInBounds_toArray, List.set_cons_zero, List.set_cons_succ, i64_w, i32_w]
                rfl
               refine take_ (i := 2) (N := some 50) (v := ?_) (a' := ?_) #[true, true, true, true, true, false, false, false, true, true, false, false, false, false, false, false, false] rfl rfl (take_ofW HT_.out HW_.out (by kernel_rfl)) (fun _ _ _ h => h) (Or.inl ⟨by rfl, ?_⟩) hHeld ?_ ?_
               rotate_left
               ·rintro w' ⟨s0, s1, s2, s3, s4, s5⟩
                go_simp
                with_reducible rfl
               rotate_left
               ·simp only [Act.put, List.setIfInBounds_toArray, List.set_cons_zero, List.set_cons_succ, i64_w, i32_w]
                rfl
               refine take_ (i := 5) (N := some 53) (v := ?_) (a' := ?_) #[true, true, true, true, true, true, false, false, true, true, false, false, false, false, false, false, false] rfl rfl (take_ofW HT_.out HW_.out (by kernel_rfl)) (fun _ _ _ h => h) (Or.inl ⟨by rfl, ?_⟩) hHeld ?_ ?_
               rotate_left
               ·rintro w' ⟨s0, s1, s2, s3, s4, s5⟩
                go_simp
                with_reducible rfl
               rotate_left
               ·simp only [Act.put, List.setIfInBounds_toArray, List.set_cons_zero, List.set_cons_succ, i64_w, i32_w]
                rfl
               refine pure_ (i := 6) (N := some 54) (v := ?_) (a' := ?_) #[true, true, true, true, true, true, true, false, true, true, false, false, false, false, false, false, false] rfl rfl (any_of HT_.out (by kernel_rfl)) (fun _ _ _ h => h) (Or.inl ⟨by rfl, ?_⟩) ?_ ?_
               rotate_left
               ·intro w'
                go_simp
                with_reducible rfl
               rotate_left
               ·simp only [Act.put, List.setIfInBounds_toArray, List.set_cons_zero, List.set_cons_succ, i64_w, i32_w]
                rfl
               refine take_ (i := 7) (N := some 55) (v := ?_) (a' := ?_) #[true, true, true, true, true, true, true, true, true, true, false, false, false, false, false, false, false] rfl rfl (take_ofW HT_.out HW_.out (by kernel_rfl)) (fun _ _ _ h => h) (Or.inl ⟨by rfl, ?_⟩) hHeld ?_ ?_
               rotate_left
               ·rintro w' ⟨s0, s1, s2, s3, s4, s5⟩
                go_simp
                with_reducible rfl
               rotate_left
               ·simp only [Act.put, List.setIfInBounds_toArray, List.set_cons_zero, List.set_cons_succ, i64_w, i32_w]
                rfl
               refine take_ (i := 10) (N := some 58) (v := ?_) (a' := ?_) #[true, true, true, true, true, true, true, true, true, true, true, false, false, false, false, false, false] rfl rfl (take_ofW HT_.out HW_.out (by kernel_rfl)) (fun _ _ _ h => h) (Or.inl ⟨by rfl, ?_⟩) hHeld ?_ ?_
               rotate_left
               ·rintro w' ⟨s0, s1, s2, s3, s4, s5⟩
                go_simp
                with_reducible rfl
               rotate_left
               ·simp only [Act.put, List.setIfInBounds_toArray, List.set_cons_zero, List.set_cons_succ, i64_w, i32_w]
                rfl
               refine pure_ (i := 11) (N := some 59) (v := ?_) (a' := ?_) #[true, true, true, true, true, true, true, true, true, true, true, true, false, false, false, false, false] rfl rfl (any_of HT_.out (by kernel_rfl)) (fun _ _ _ h => h) (Or.inl ⟨by rfl, ?_⟩) ?_ ?_
               rotate_left
               ·intro w'
                go_simp
                with_reducible rfl
               rotate_left
               ·simp only [Act.put, List.setIfInBounds_toArray, List.set_cons_zero, List.set_cons_succ, i64_w, i32_w]
                rfl
               refine take_ (i := 12) (N := some 60) (v := ?_) (a' := ?_) #[true, true, true, true, true, true, true, true, true, true, true, true, true, false, false, false, false] rfl rfl (take_ofW HT_.out HW_.out (by kernel_rfl)) (fun _ _ _ h => h) (Or.inl ⟨by rfl, ?_⟩) hHeld ?_ ?_
               rotate_left
               ·rintro w' ⟨s0, s1, s2, s3, s4, s5⟩
                go_simp
                with_reducible rfl
               rotate_left
               ·simp only [Act.put, List.setIfInBounds_toArray, List.set_cons_zero, List.set_cons_succ, i64_w, i32_w]
                rfl
               refine pure_ (i := 13) (N := some 61) (v := ?_) (a' := ?_) #[true, true, true, true, true, true, true, true, true, true, true, true, true, true, false, false, false] rfl rfl (any_of HT_.out (by kernel_rfl)) (fun _ _ _ h => h) (Or.inl ⟨by rfl, ?_⟩) ?_ ?_
               rotate_left
               ·intro w'
                go_simp
                with_reducible rfl
               rotate_left
               ·simp only [Act.put, List.setIfInBounds_toArray, List.set_cons_zero, List.set_cons_succ, i64_w, i32_w]
                rfl
               refine pure_ (i := 14) (N := some 62) (v := ?_) (a' := ?_) #[true, true, true, true, true, true, true, true, true, true, true, true, true, true, true, false, false] rfl rfl (any_of HT_.out (by kernel_rfl)) (fun _ _ _ h => h) (Or.inl ⟨by rfl, ?_⟩) ?_ ?_
               rotate_left
               ·intro w'
                go_simp
                with_reducible rfl
               rotate_left
               ·simp only [Act.put, List.setIfInBounds_toArray, List.set_cons_zero, List.set_cons_succ, i64_w, i32_w]
                rfl
               refine pure_ (i := 15) (N := some 63) (v := ?_) (a' := ?_) #[true, true, true, true, true, true, true, true, true, true, true, true, true, true, true, true, false] rfl rfl (any_of HT_.out (by kernel_rfl)) (fun _ _ _ h => h) (Or.inl ⟨by rfl, ?_⟩) ?_ ?_
               rotate_left
               ·intro w'
                go_simp
                with_reducible rfl
               rotate_left
               ·simp only [Act.put, List.setIfInBounds_toArray, List.set_cons_zero, List.set_cons_succ, i64_w, i32_w]
                rfl
               refine last_ (i := 16) (N := none) #[true, true, true, true, true, true, true, true, true, true, true, true, true, true, true, true, true] rfl rfl (one_of HT_.out (by kernel_rfl)) (by decide) (fun K hK => ?_)
               refine skip_ (w1 := ?_) (by rfl) rfl ?_ ?_
               rotate_left
               ·go_simp
                rfl
               refine hK.out _ _ ?_
               clear hK K
               refine done_ (done_of HT_.out (by kernel_rfl)) ?_
               try go_wp2
               go_roundg k2
               case measure => have := HK1.out; have := HK2.out; omega
               case rel => exact ⟨(y125), (wrap64 (x12_2 + 1)), (by first | rfl | (simp; done) | (simp [*]; done)), H', ⟨by have := HK1.out; have := HK2.out; omega⟩, ⟨by (with_reducible repeat (first | apply Kd.R_alloc | apply Kd.R_drewN | apply Kd.R_drew)); exact Kd.R_mono (Kd.R_far (p := ⟨go47, (((rd_T77 l0_1 x12_2).f2) : Int).toNat, none⟩) (Kd.R_mono HO_9.out (fun k_ hk => (⟨hk, fun e_ => hk (by rw [e_]; rfl)⟩ : _ ∧ k_ ≠ go47))) (fun _ hk => hk.2) (.int .i64 ji46)) (fun _ hk => hk.1)⟩, ⟨by (with_reducible repeat (first | apply Kd.R_alloc | apply Kd.R_drewN | apply Kd.R_drew)); exact HQ57.out⟩, ⟨by (with_reducible repeat (first | refine blk_drewN ?_ _ | refine blk_drew ?_ | refine blk_alloc ?_ _)); refine blk_far ?_ (by have h_ := Kd.R_ne HO_11.out BK110.out (by decide); intro e_; exact h_ (by rw [e_]; rfl)) _; (with_reducible repeat (first | refine blk_drewN ?_ _ | refine blk_drew ?_ | refine blk_alloc ?_ _)); exact BK110.out⟩, ⟨by repeat (first | (with_reducible first | exact HB.out | apply below_alloc | apply pw_below_drewN | apply below_drew1 | refine below_set ?_ GB47.out | refine below_set ?_ GE110.out | refine below_set ?_ GE118.out) | exact HB.out)⟩⟩
              ·rw [if_neg c45] at H
               exact absurd H (by simp)
             ·rw [if_neg c44] at H
              exact absurd H (by simp)
            ·rw [if_neg c43] at H
             exact absurd H (by simp)
           ·rw [if_neg c42] at H
            exact absurd H (by simp)
         ·rw [if_neg c15] at H
          exact absurd H (by simp)
        ·rw [if_neg c14] at H
         have c14b0 : decide (x12_2 < (l0_1.length : Int)) = false := decide_eq_false c14
         clear c14
         have H' := Aside0.mk H
         clear H
         have hcz58_0 : wr.cell? ⟨gb110, 0, none⟩ = some (.int .i64 a0_0) := (blk_cell BK110.out 0).trans rfl
         have hcz58_1 : wr.cell? ⟨gb110, 1, none⟩ = some (.slice A0_1 l0_1.length c0_1) := (blk_cell BK110.out 1).trans rfl
         have hfz58_0 := blk_frozen BK110.out 0
         have hfz58_1 := blk_frozen BK110.out 1
         go_wp2
         go_roundg k2
         case measure => have := HK1.out; have := HK2.out; omega
         case rel => exact ⟨(x11_2), (wrap64 (x10_1 + 1)), (by first | rfl | (simp; done) | (simp [*]; done)), H', ⟨by have := HK1.out; have := HK2.out; omega⟩, ⟨by (with_reducible repeat (first | apply Kd.R_alloc | apply Kd.R_drewN | apply Kd.R_drew)); exact Kd.R_mono HO_11.out (fun _ hk => trivial)⟩, ⟨by (with_reducible repeat (first | refine blk_drewN ?_ _ | refine blk_drew ?_ | refine blk_alloc ?_ _)); exact BK110.out⟩, ⟨by repeat (first | (with_reducible first | exact HB.out | apply below_alloc | apply pw_below_drewN | apply below_drew1 | refine below_set ?_ GE110.out) | exact HB.out)⟩⟩
     ·rw [if_neg c10] at H
      exact absurd H (by simp)
    ·rw [if_neg c9] at H
     exact absurd H (by simp)
   ·rw [if_neg c8] at H
    have c8b0 : decide (x10_1 < a2) = false := decide_eq_false c8
    clear c8
    obtain rfl := Option.some.inj H
    go_wp2
    go_ret
    exact ⟨_, by first | rfl | (simp [errW_none, errW_some] <;> rfl) | (simp [*, errW_none, errW_some] <;> rfl), by (with_reducible repeat (first | apply Kd.R_alloc | apply Kd.R_drewN | apply Kd.R_drew)); exact HO_9.out, by repeat (first | (with_reducible first | exact HB.out | apply below_alloc | apply pw_below_drewN | apply below_drew1 | refine below_set ?_ GE110.out) | exact HB.out)⟩
end Go.Proofs.Ytenlcakpcbmmdaa.Q
namespace Go.Proofs.Ytenlcakpcbmmdaa
open Go Go.RowKit Go.Proofs Go.Proofs.YtenlcakpcbmmdaaW.PrintWords Go.Proofs.YtenlcakpcbmmdaaW.PrintMore Go.Proofs.Ytenlcakpcbmmdaa.Q
set_option linter.unusedVariables false
set_option linter.unusedSimpArgs false
theorem isS_fine {C : Int} {l : List STile} (h : isS C (l.map toT) = true) : (1 ≤ C ∧ C ≤ 6) ∧ l.length ≤ 16 ∧ ∀ t ∈ l, (0 ≤ t.f0 ∧ t.f0 < C) ∧ (0 ≤ t.f1 ∧ t.f1 < C) ∧ (0 ≤ t.f2 ∧ t.f2 < C) ∧ (0 ≤ t.f3 ∧ t.f3 < C) := by
  obtain ⟨hc, hl, hok⟩ := isS_iff.1 h
  refine ⟨hc, by simpa using hl, fun t ht => ?_⟩
  obtain ⟨i, hi, rfl⟩ := List.getElem_of_mem ht
  have := (hok i (by simpa using hi)).1
  rw [tk_map _ _ hi] at this
  simp only [tileB, Bool.and_eq_true, inB_iff, T4.get, toT] at this
  simp at this
  omega
theorem isS_Fine {C : Int} {l : List STile} (h : isS C (l.map toT) = true) : Fine C.toNat l := by
  obtain ⟨hc, _, hf⟩ := isS_fine h
  intro t ht
  have := hf t ht
  omega
def Bd (v : List Int) : Prop := ∀ i, 0 ≤ v.getD i 0 ∧ v.getD i 0 ≤ 1000000000000001
theorem bd_capT {c : Nat} {now acc : List Int} (hn : Bd now) (ha : Bd acc) (hl : acc.length = c) {t : STile} (ht : 0 ≤ t.f0 ∧ t.f0 < c ∧ 0 ≤ t.f2 ∧ t.f2 < c) : Bd (capT now acc t) := by
  intro i
  rw [capT, getD_set _ _ _ _ (by omega)]
  split
  · rw [rd_at ht.2.2.1, rd_at ht.1]
    have := hn t.f0.toNat; have := ha t.f2.toNat
    exact ⟨cap_nn (by omega), cap_le _⟩
  · exact ha i
theorem bd_zero (c : Nat) : Bd (List.replicate c 0) := by
  intro i
  have h : (List.replicate c (0 : Int)).getD i 0 = 0 := by simp [List.getD_eq_getElem?_getD, List.getElem?_replicate]; split <;> simp
  rw [h]; omega
theorem bd_fold {c : Nat} {now : List Int} (hn : Bd now) (L : List STile) (hL : Fine c L) : ∀ acc, Bd acc → acc.length = c → Bd (L.foldl (capT now) acc) := by
  induction L with
  | nil => intro acc h _; exact h
  | cons t L ih =>
    intro acc h hl
    exact ih (fun s hs => hL s (List.mem_cons_of_mem _ hs)) _ (bd_capT hn h hl (hL t (by simp))) (by rw [capT_len, hl])
theorem bd_step {c : Nat} {now : List Int} (hn : Bd now) (L : List STile) (hL : Fine c L) : Bd (stepC c now L) := bd_fold hn L hL _ (bd_zero c) (by simp)
theorem rdT_nat (l : List STile) (i : Nat) (h : i < l.length) : rd_T77 l (i : Int) = l[i] := by
  simp [rd_T77, List.getD_eq_getElem?_getD, List.getElem?_eq_getElem h]
def pass (word : List Int) (p : Int) (t : STile) : Bool := decide (word.length = 0) || decide (rd word p = t.f1)
def layer (l : List STile) (word : List Int) (p : Int) : List STile := l.filter (pass word p)
theorem fine_filter {c : Nat} {l : List STile} (h : Fine c l) (q : STile → Bool) : Fine c (l.filter q) := fun t ht => h t (List.mem_filter.1 ht).1
theorem specWays_l1 (n : Int) (word now : List Int) (C : Int) (l : List STile) (r : List Int) (c : Nat) (hC : C = (c : Int)) (hnow : now.length = c) (bnow : Bd now) (hf : Fine c l) (hl : l.length ≤ 1000)
    (p : Int) (hp0 : 0 ≤ p) (hp : 0 < word.length → p < word.length) (hp2 : p ≤ 1000) (m : Nat) : ∀ (i : Nat) (acc : List Int), i + m = l.length → acc.length = c → Bd acc →
    Ev (fun k => spec_l02Ways.l0 k n word (((l.drop i).filter (pass word p)).foldl (capT now) acc) (p + 1) C l) r → Ev (fun k => spec_l02Ways.l1 k n word now p acc (i : Int) C l) r := by
  induction m with
  | zero =>
    intro i acc hi ha hb h
    refine Ev.step (fun k => ?_) h
    rw [spec_l02Ways.l1, if_neg (by omega), wrap_id (by omega) (by omega), List.drop_of_length_le (by omega)]
    rfl
  | succ m ih =>
    intro i acc hi ha hb h
    have hlt : i < l.length := by omega
    have ht := hf l[i] (List.getElem_mem hlt)
    have hd : l.drop i = l[i] :: l.drop (i + 1) := List.drop_eq_getElem_cons hlt
    have hw : wrap64 ((i : Int) + 1) = ((i + 1 : Nat) : Int) := by rw [wrap_id (by omega) (by omega)]; omega
    have a1 : (i : Int) < (l.length : Int) := by omega
    have a2 : (0 : Int) ≤ (i : Int) := Int.natCast_nonneg i
    have a3 := ht.2.2.1
    have a4 : l[i].f2 < (acc.length : Int) := by have := ht.2.2.2; omega
    have a5 := ht.1
    have a6 : l[i].f0 < (now.length : Int) := by have := ht.2.1; omega
    have hgo : pass word p l[i] = true → Ev (fun k => spec_l02Ways.l1 k n word now p (acc.set l[i].f2.toNat (mn (wrap64 (rd acc l[i].f2 + rd now l[i].f0)) 1000000000000001)) ((i + 1 : Nat) : Int) C l) r := by
      intro hq
      have e : acc.set l[i].f2.toNat (mn (wrap64 (rd acc l[i].f2 + rd now l[i].f0)) 1000000000000001) = capT now acc l[i] := by
        rw [capT, mn_cap, wrap_id]
        · rw [rd_at ht.2.2.1, rd_at ht.1]; have := hb l[i].f2.toNat; have := bnow l[i].f0.toNat; omega
        · rw [rd_at ht.2.2.1, rd_at ht.1]; have := hb l[i].f2.toNat; have := bnow l[i].f0.toNat; omega
      rw [e]
      refine ih (i + 1) _ (by omega) (by rw [capT_len, ha]) (bd_capT bnow hb ha ht) ?_
      rw [hd, List.filter_cons, if_pos hq, List.foldl_cons] at h
      exact h
    by_cases h0 : 0 < word.length
    · have h0' : (word.length : Int) > 0 := by omega
      have a7 : p < (word.length : Int) := hp h0
      by_cases hq : rd word p = l[i].f1
      · refine Ev.step (fun k => ?_) (hgo (by simp [pass, hq]))
        rw [spec_l02Ways.l1, if_pos a1, if_pos a2, if_pos h0', if_pos hp0, if_pos a7, rdT_nat l i hlt, if_pos hq, if_pos a3, if_pos a4, if_pos a5, if_pos a6, hw]
      · have hq' : pass word p l[i] = false := by simp [pass, hq]; intro e; rw [e] at h0; simp at h0
        refine Ev.step (fun k => ?_) (ih (i + 1) acc (by omega) ha hb (by rw [hd, List.filter_cons, if_neg (by simp [hq'])] at h; exact h))
        rw [spec_l02Ways.l1, if_pos a1, if_pos a2, if_pos h0', if_pos hp0, if_pos a7, rdT_nat l i hlt, if_neg hq, hw]
    · have h0' : ¬ (word.length : Int) > 0 := by omega
      refine Ev.step (fun k => ?_) (hgo (by simp [pass]; left; exact List.eq_nil_of_length_eq_zero (by omega)))
      rw [spec_l02Ways.l1, if_pos a1, if_pos a2, if_neg h0', rdT_nat l i hlt, if_pos a3, if_pos a4, if_pos a5, if_pos a6, hw]
def layers (l : List STile) (word : List Int) (p d : Nat) : List (List STile) := (List.range d).map fun j => layer l word ((p + j : Nat) : Int)
theorem layers_succ (l : List STile) (word : List Int) (p d : Nat) : layers l word p (d + 1) = layer l word p :: layers l word (p + 1) d := by
  simp only [layers, List.range_succ_eq_map, List.map_cons, List.map_map, Nat.add_zero]
  congr 1
  apply List.map_congr_left
  intro j _
  simp only [Function.comp_def, Nat.succ_eq_add_one]
  congr 2; omega
theorem specWays_l0 (n : Int) (word : List Int) (C : Int) (l : List STile) (c : Nat) (hC : C = (c : Int)) (hc : c ≤ 1000) (hf : Fine c l) (hl : l.length ≤ 1000) (hn : n ≤ 1000) (hw : 0 < word.length → n ≤ word.length) (d : Nat) :
    ∀ (p : Nat) (now : List Int), (p : Int) + d = n → now.length = c → Bd now → Ev (fun k => spec_l02Ways.l0 k n word now (p : Int) C l) (waysC c now (layers l word p d)) := by
  induction d with
  | zero =>
    intro p now hp hnow hb
    refine Ev.step (fun k => ?_) (Ev.now _)
    rw [spec_l02Ways.l0, if_neg (by omega)]
    rfl
  | succ d ih =>
    intro p now hp hnow hb
    have h1 := ih (p + 1) (stepC c now (layer l word p)) (by omega) (stepC_len _ _ _) (bd_step hb _ (fine_filter hf _))
    have h2 := specWays_l1 n word now C l (waysC c now (layers l word p (d + 1))) c hC hnow hb hf hl p (by omega) (fun h => by have := hw h; omega) (by omega) l.length 0 (List.replicate c 0) (by omega) (by simp) (bd_zero c)
    rw [layers_succ] at h2 ⊢
    refine Ev.step (fun k => ?_) (h2 ?_)
    · rw [spec_l02Ways.l0, if_pos (by omega), if_pos (by omega), if_pos (by omega)]
      subst hC; rfl
    · rw [List.drop_zero]
      have e : ((p : Int) + 1) = ((p + 1 : Nat) : Int) := by omega
      rw [e]
      simpa [waysC, stepC, layer] using h1
theorem specWays_ev (C : Int) (l : List STile) (from_ word : List Int) (n : Int) (c : Nat) (hC : C = (c : Int)) (hc : c ≤ 1000) (hf : Fine c l) (hl : l.length ≤ 1000) (hn0 : 0 ≤ n) (hn : n ≤ 1000) (hw : 0 < word.length → n ≤ word.length) (hlen : from_.length = c) (hb : Bd from_) :
    Ev (fun k => spec_l02Ways.f k C l from_ n word) (waysC c from_ (layers l word 0 n.toNat)) := by
  have h := specWays_l0 n word C l c hC hc hf hl hn hw n.toNat 0 from_ (by omega) hlen hb
  refine Ev.congr (fun k => ?_) h
  rw [spec_l02Ways.f, spec_l01Own.f]
  simp only [Option.bind_some]
  rw [if_pos (by simp; omega)]
  simp
def unit (c a : Nat) : List Int := (List.replicate c 0).set a 1
theorem unit_len (c a : Nat) : (unit c a).length = c := by simp [unit]
theorem bd_unit (c a : Nat) : Bd (unit c a) := by
  intro i
  by_cases h : a < c
  · rw [unit, getD_set _ _ _ _ (by simpa using h)]
    split
    · omega
    · exact bd_zero c i
  · rw [unit, List.set_eq_of_length_le (by simp; omega)]; exact bd_zero c i
end Go.Proofs.Ytenlcakpcbmmdaa
namespace Go.Proofs.Ytenlcakpcbmmdaa.Q
open Go.RowKit Go.Proofs.YtenlcakpcbmmdaaW.PrintWords Go.Proofs.YtenlcakpcbmmdaaW.PrintLast Go.Proofs.YtenlcakpcbmmdaaW.PrintMore
attribute [local go_sem] max2_int min2_int max_two min_two max_three min_three max_four min_four
set_option linter.unusedVariables false
set_option linter.unusedSimpArgs false
def spec_l02Each.l0 : Nat → Int → List Int → Int → Option (List Int)
 | 0, _, _, _ => none
 | k + 1, x0, x3, x4 => if x4 < x0 then (if x3.length < 17592186044416 then (spec_l02Each.l0 k x0 (x3 ++ [1]) (wrap64 (x4 + 1))) else (none)) else (some x3)
def spec_l02Each.f (k : Nat) (a0 : Int) : Option (List Int) := spec_l02Each.l0 k a0 (([] : List Int)) 0
theorem spec_l02Each.mono_l : ∀ k, (∀ y0 y1 y2, LeO (spec_l02Each.l0 k y0 y1 y2) (spec_l02Each.l0 (k + 1) y0 y1 y2))
 | 0 => fun _ _ _ r h => by simp [spec_l02Each.l0] at h
 | k + 1 => by
  have ih0 := spec_l02Each.mono_l k
  ·intro y0 y1 y2
   unfold spec_l02Each.l0
   repeat' first
   | (with_reducible exact ih0 _ _ _)
   | (with_reducible exact LeO.refl _)
   | (with_reducible exact LeO.none _)
   | (with_reducible refine LeO.ite ?_ ?_)
   | (with_reducible refine LeO.bind ?_ (fun _ => ?_))
   | exact ih0 _ _ _
   | exact LeO.none _
   | refine LeO.ite ?_ ?_
   | refine LeO.bind ?_ (fun _ => ?_)
theorem spec_l02Each.mono : ∀ a0 k, LeO (spec_l02Each.f k a0) (spec_l02Each.f (k + 1) a0) := by
 intro a0 k
 have ih0 := spec_l02Each.mono_l k
 unfold spec_l02Each.f
 repeat' first
   | (with_reducible exact ih0 _ _ _)
   | (with_reducible exact LeO.refl _)
   | (with_reducible exact LeO.none _)
   | (with_reducible refine LeO.ite ?_ ?_)
   | (with_reducible refine LeO.bind ?_ (fun _ => ?_))
   | exact ih0 _ _ _
   | exact LeO.none _
   | refine LeO.ite ?_ ?_
   | refine LeO.bind ?_ (fun _ => ?_)
set_option maxHeartbeats 8000000 in
set_option maxRecDepth 100000 in
theorem spec_l02Each.calls (k : Nat) (a0 : Int) (r : List Int) (w : World) (h : spec_l02Each.f k a0 = some r) :
  Calls Try.prog 61 #[.int .i64 a0] w fun e w' => ∃ v0_ : Value, e = .returned (v0_) ∧ Kd.R (Kd.int .i64) 2 w' w.heap.size (fun _ => True) v0_ r ∧ Below w.heap.size w w' := by
 have HB := Aside0.mk (Below.refl w.heap.size w)
 have H : (spec_l02Each.l0 k a0 (([] : List Int)) 0) = some r := h
 clear h
 obtain ⟨y179, hy179⟩ : ∃ y_ : List Int, y_ = (([] : List Int)) := ⟨_, rfl⟩
 replace H : (spec_l02Each.l0 k a0 y179 0) = some r := by first | (rw [hy179]; with_reducible exact H) | (have H2_ := (Option.bind_some _ _).symm.trans H; rw [hy179]; with_reducible exact H2_) | (have H2_ := (Option.bind_some _ _).symm.trans H; with_reducible exact H2_) | with_reducible exact H | (rw [hy179]; exact H) | exact H
 have Ny179 := Aside0.mk hy179
 clear hy179
 have H' := Aside0.mk H
 clear H
 go_enter Try.func61, Try.ntmps61
 go_wp2_with (first | ((with_reducible refine gate_dst (N := 5) rfl ?_); refine Kd.R_lit (Kd.int .i64) _ 2 ?hg (N := 5) ?hd (xs := ([] : List Int)) (inner := []) (ok := fun _ => True) (okp := fun _ => True) ?hr ?hp (fun _ hk => hk) trivial (Below.refl _ _) (Nat.le_refl _) (by simp) ?_; (case hd => rfl); (case hg => rfl); (case hr => first | (go_simp; done) | (go_simp; rfl)); (case hp => exact (Reps.none _ _)); intro v180 w2 ho3 hb hg_ hnew_; clear hg_ hnew_; (first | rw [← Ny179.out] at ho3 | (simp only [Int.reduceToNat] at ho3; rw [← Ny179.out] at ho3)); have n0_ := Aside0.mk (Kd.R_lower ho3 (below_size (by repeat (first | (with_reducible first | exact HB.out | apply below_alloc | apply pw_below_drewN | apply below_drew1) | exact HB.out)))); have n1_ := Aside0.mk (below_step (by repeat (first | (with_reducible first | exact HB.out | apply below_alloc | apply pw_below_drewN | apply below_drew1) | exact HB.out)) hb); clear HB; have HO181 := n0_; have HB := n1_; clear n0_ n1_; clear hb ho3))
 go_loopg [3, 4] k (fun kq v3 v4 w' => ∃ (x3_1 : List Int) (x4_1 : Int), v4 = .int .i64 x4_1 ∧ Aside0 (spec_l02Each.l0 kq a0 x3_1 x4_1 = some r) ∧ Aside0 (kq ≤ k) ∧ Aside0 (Kd.R (Kd.int .i64) 2 w' w.heap.size (fun _ => True) v3 x3_1) ∧ Aside0 (Below w.heap.size w w'))
 case atStart => exact ⟨(y179), (0), (by first | rfl | (simp; done) | (simp [*]; done)), H', ⟨Nat.le_refl _⟩, ⟨by (with_reducible repeat (first | apply Kd.R_alloc | apply Kd.R_drewN | apply Kd.R_drew)); exact HO181.out⟩, ⟨by repeat (first | (with_reducible first | exact HB.out | apply below_alloc | apply pw_below_drewN | apply below_drew1) | exact HB.out)⟩⟩
 case round =>
  clear H'
  try clear p2
  obtain ⟨x3_1, x4_1, rfl, HA, HK1, HO_3, HB⟩ := hrel
  cases gk with
  | zero => exact absurd HA.out (by simp [spec_l02Each.l0])
  | succ k1 =>
   have H := HA.out
   clear HA
   simp only [spec_l02Each.l0] at H
   by_cases c4 : x4_1 < a0
   ·rw [if_pos c4] at H
    have c4b0 : decide (x4_1 < a0) = true := decide_eq_true c4
    clear c4
    by_cases c5 : x3_1.length < 17592186044416
    ·rw [if_pos c5] at H
     have LMc5 := Aside0.mk c5
     clear c5
     obtain ⟨y182, hy182⟩ : ∃ y_ : List Int, y_ = (x3_1 ++ [1]) := ⟨_, rfl⟩
     replace H : (spec_l02Each.l0 k1 a0 y182 (wrap64 (x4_1 + 1))) = some r := by first | (rw [hy182]; with_reducible exact H) | (have H2_ := (Option.bind_some _ _).symm.trans H; rw [hy182]; with_reducible exact H2_) | (have H2_ := (Option.bind_some _ _).symm.trans H; with_reducible exact H2_) | with_reducible exact H | (rw [hy182]; exact H) | exact H
     have Ny182 := Aside0.mk hy182
     clear hy182
     have H' := Aside0.mk H
     clear H
     go_wp2_with (first | ((with_reducible refine gate_builtin (b := .append) (xs := #[.tmp 11, .tmp 12]) rfl ?_); at_builtin; refine Kd.R_append (Kd.int .i64) (w0 := w) w.heap.size rfl (.tmp 11) (.tmp 12) 34 2 (.int .i64 0) 8 rfl Try.underlying34 info2 rfl (by decide) (by omega) u3 x3_1 1 [.int .i64 1] (fun _ => True) (fun _ => False) rfl rfl ?aP (fun _ hk => hk.elim) ?aF ?aO ?aB ?aS ?aL ?_; (case aP => exact rfl); (case aB => exact (by repeat (first | (with_reducible first | exact HB.out | apply below_alloc | apply pw_below_drewN | apply below_drew1) | exact HB.out))); (case aF => exact (fun _ _ => trivial)); (case aO => exact (by (with_reducible repeat (first | apply Kd.R_alloc | apply Kd.R_drewN | apply Kd.R_drew)); exact HO_3.out)); (case aS => exact (below_size (by repeat (first | (with_reducible first | exact HB.out | apply below_alloc | apply pw_below_drewN | apply below_drew1) | exact HB.out)))); (case aL => have := LMc5.out; omega); intro v183 w6 ho hb hg hat; rw [← Ny182.out] at ho; have n0_ := Aside0.mk (hb); have n1_ := Aside0.mk (ho); clear HB; clear HO_3; have HB := n0_; have HO184 := n1_; clear n0_ n1_; clear ho hb hg hat))
     go_roundg k1
     case measure => have := HK1.out; omega
     case rel => exact ⟨(y182), (wrap64 (x4_1 + 1)), (by first | rfl | (simp; done) | (simp [*]; done)), H', ⟨by have := HK1.out; omega⟩, ⟨by (with_reducible repeat (first | apply Kd.R_alloc | apply Kd.R_drewN | apply Kd.R_drew)); exact HO184.out⟩, ⟨by repeat (first | (with_reducible first | exact HB.out | apply below_alloc | apply pw_below_drewN | apply below_drew1) | exact HB.out)⟩⟩
    ·rw [if_neg c5] at H
     exact absurd H (by simp)
   ·rw [if_neg c4] at H
    have c4b0 : decide (x4_1 < a0) = false := decide_eq_false c4
    clear c4
    obtain rfl := Option.some.inj H
    go_wp2
    go_ret
    exact ⟨_, by first | rfl | (simp [errW_none, errW_some] <;> rfl) | (simp [*, errW_none, errW_some] <;> rfl), by (with_reducible repeat (first | apply Kd.R_alloc | apply Kd.R_drewN | apply Kd.R_drew)); exact HO_3.out, by repeat (first | (with_reducible first | exact HB.out | apply below_alloc | apply pw_below_drewN | apply below_drew1) | exact HB.out)⟩
end Go.Proofs.Ytenlcakpcbmmdaa.Q
namespace Go.Proofs.Ytenlcakpcbmmdaa.Q
open Go.RowKit Go.Proofs.YtenlcakpcbmmdaaW.PrintWords Go.Proofs.YtenlcakpcbmmdaaW.PrintLast Go.Proofs.YtenlcakpcbmmdaaW.PrintMore
attribute [local go_sem] max2_int min2_int max_two min_two max_three min_three max_four min_four
set_option linter.unusedVariables false
set_option linter.unusedSimpArgs false
def spec_l02Total.l0 : Nat → List Int → Int → Int → Option (Int)
 | 0, _, _, _ => none
 | k + 1, x0, x3, x4 => if x4 < (x0.length : Int) then (if 0 ≤ x4 then (spec_l02Total.l0 k x0 (mn (wrap64 (x3 + (rd x0 x4))) 1000000000000001) (wrap64 (x4 + 1))) else (none)) else (some x3)
def spec_l02Total.f (k : Nat) (l0 : List Int) : Option (Int) := spec_l02Total.l0 k l0 0 0
theorem spec_l02Total.mono_l : ∀ k, (∀ y0 y1 y2, LeO (spec_l02Total.l0 k y0 y1 y2) (spec_l02Total.l0 (k + 1) y0 y1 y2))
 | 0 => fun _ _ _ r h => by simp [spec_l02Total.l0] at h
 | k + 1 => by
  have ih0 := spec_l02Total.mono_l k
  ·intro y0 y1 y2
   unfold spec_l02Total.l0
   repeat' first
   | (with_reducible exact ih0 _ _ _)
   | (with_reducible exact LeO.refl _)
   | (with_reducible exact LeO.none _)
   | (with_reducible refine LeO.ite ?_ ?_)
   | (with_reducible refine LeO.bind ?_ (fun _ => ?_))
   | exact ih0 _ _ _
   | exact LeO.none _
   | refine LeO.ite ?_ ?_
   | refine LeO.bind ?_ (fun _ => ?_)
theorem spec_l02Total.mono : ∀ a0 k, LeO (spec_l02Total.f k a0) (spec_l02Total.f (k + 1) a0) := by
 intro a0 k
 have ih0 := spec_l02Total.mono_l k
 unfold spec_l02Total.f
 repeat' first
   | (with_reducible exact ih0 _ _ _)
   | (with_reducible exact LeO.refl _)
   | (with_reducible exact LeO.none _)
   | (with_reducible refine LeO.ite ?_ ?_)
   | (with_reducible refine LeO.bind ?_ (fun _ => ?_))
   | exact ih0 _ _ _
   | exact LeO.none _
   | refine LeO.ite ?_ ?_
   | refine LeO.bind ?_ (fun _ => ?_)
set_option maxHeartbeats 8000000 in
set_option maxRecDepth 100000 in
theorem spec_l02Total.calls (k : Nat) (A0 : Option Addr) (c0 : Nat) (l0 : List Int) (r : Int) (w : World) (hr0 : Kd.C (Kd.int .i64) w A0 l0.length l0) (hc0 : l0.length ≤ c0) (h : spec_l02Total.f k l0 = some r) :
  Calls Try.prog 60 #[.slice A0 l0.length c0] w fun e w' => e = .returned (.int .i64 r) ∧ Below w.heap.size w w' := by
 have HR0 := Aside0.mk hr0
 have HC0 := Aside0.mk hc0
 clear hr0 hc0
 have HB := Aside0.mk (Below.refl w.heap.size w)
 have H : (spec_l02Total.l0 k l0 0 0) = some r := h
 clear h
 have H' := Aside0.mk H
 clear H
 go_enter Try.func60, Try.ntmps60
 go_wp2
 go_loopg [3, 4] k (fun kq v3 v4 w' => ∃ (x3_1 : Int) (x4_1 : Int), v3 = .int .i64 x3_1 ∧ v4 = .int .i64 x4_1 ∧ Aside0 (spec_l02Total.l0 kq l0 x3_1 x4_1 = some r) ∧ Aside0 (kq ≤ k) ∧ Aside0 (Below w.heap.size w w'))
 case atStart => exact ⟨(0), (0), (by first | rfl | (simp; done) | (simp [*]; done)), (by first | rfl | (simp; done) | (simp [*]; done)), H', ⟨Nat.le_refl _⟩, ⟨by repeat (first | (with_reducible first | exact HB.out | apply below_alloc | apply pw_below_drewN | apply below_drew1) | exact HB.out)⟩⟩
 case round =>
  clear H'
  obtain ⟨x3_1, x4_1, rfl, rfl, HA, HK1, HB⟩ := hrel
  cases gk with
  | zero => exact absurd HA.out (by simp [spec_l02Total.l0])
  | succ k1 =>
   have H := HA.out
   clear HA
   simp only [spec_l02Total.l0] at H
   by_cases c2 : x4_1 < (l0.length : Int)
   ·rw [if_pos c2] at H
    have c2b0 : decide (x4_1 < (l0.length : Int)) = true := decide_eq_true c2
    clear c2
    by_cases c3 : 0 ≤ x4_1
    ·rw [if_pos c3] at H
     have c3b0 : decide (0 ≤ x4_1) = true := decide_eq_true c3
     clear c3
     obtain ⟨ji4, hji4⟩ : ∃ j_ : Int, (mn (wrap64 (x3_1 + (rd l0 x4_1))) 1000000000000001) = j_ := ⟨_, rfl⟩
     replace H : (spec_l02Total.l0 k1 l0 ji4 (wrap64 (x4_1 + 1))) = some r := by first | (rw [hji4] at H; exact H) | (simp only [hji4] at H ⊢; exact H)
     have hji4_ : (if 1000000000000001 < (wrap64 (x3_1 + (rd l0 x4_1))) then 1000000000000001 else (wrap64 (x3_1 + (rd l0 x4_1)))) = ji4 := hji4
     have H' := Aside0.mk H
     clear H
     have p178 : 0 ≤ (x4_1 : Int) := of_decide_eq_true (by first | (with_reducible assumption) | assumption)
     have q178 : x4_1 < (l0.length : Int) := of_decide_eq_true (by first | (with_reducible assumption) | assumption)
     obtain ⟨ad178, e178, hx178_0⟩ := Kd.at_int HR0.out x4_1 p178 q178
     cases e178
     replace hx178_0 := (HB.out.cell (World.block_lt_of_cell? w _ hx178_0)).trans hx178_0
     replace p178 := eq_true p178
     replace q178 := eq_true q178
     go_wp2
     go_roundg k1
     case measure => have := HK1.out; omega
     case rel => exact ⟨(ji4), (wrap64 (x4_1 + 1)), (by first | rfl | (simp; done) | (simp only [← hji4] <;> (first | rfl | simp)) | (simp [*]; done)), (by first | rfl | (simp; done) | (simp [*]; done)), H', ⟨by have := HK1.out; omega⟩, ⟨by repeat (first | (with_reducible first | exact HB.out | apply below_alloc | apply pw_below_drewN | apply below_drew1) | exact HB.out)⟩⟩
    ·rw [if_neg c3] at H
     exact absurd H (by simp)
   ·rw [if_neg c2] at H
    have c2b0 : decide (x4_1 < (l0.length : Int)) = false := decide_eq_false c2
    clear c2
    obtain rfl := Option.some.inj H
    go_wp2
    go_ret
    exact ⟨by first | rfl | (simp [errW_none, errW_some] <;> rfl) | (simp [*, errW_none, errW_some] <;> rfl), by repeat (first | (with_reducible first | exact HB.out | apply below_alloc | apply pw_below_drewN | apply below_drew1) | exact HB.out)⟩
end Go.Proofs.Ytenlcakpcbmmdaa.Q
namespace Go.Proofs.Ytenlcakpcbmmdaa
open Go Go.RowKit Go.Proofs Go.Proofs.YtenlcakpcbmmdaaW.PrintWords Go.Proofs.YtenlcakpcbmmdaaW.PrintMore Go.Proofs.Ytenlcakpcbmmdaa.Q
set_option linter.unusedVariables false
set_option linter.unusedSimpArgs false
theorem drop_rd (xs : List Int) (i : Nat) (h : i < xs.length) : xs.drop i = rd xs (i : Int) :: xs.drop (i + 1) := by
  rw [List.drop_eq_getElem_cons h, rd_nat]; simp [List.getD_eq_getElem?_getD, List.getElem?_eq_getElem h]
theorem specTotal_ev (xs : List Int) (hb : Bd xs) (hl : xs.length ≤ 1000) : Ev (fun k => spec_l02Total.f k xs) (capSum xs) := by
  have go : ∀ d i, i + d = xs.length → ∀ s, 0 ≤ s → s ≤ 1000000000000001 → Ev (fun k => spec_l02Total.l0 k xs s (i : Int)) ((xs.drop i).foldl (fun s x => cap (s + x)) s) := by
    intro d
    induction d with
    | zero =>
      intro i hi s h0 h1
      have b1 : ¬ (i : Int) < (xs.length : Int) := by omega
      refine Ev.step (fun k => ?_) (Ev.now _)
      rw [spec_l02Total.l0, if_neg b1, List.drop_of_length_le (by omega)]; rfl
    | succ d ih =>
      intro i hi s h0 h1
      have b1 : (i : Int) < (xs.length : Int) := by omega
      have b2 : (0 : Int) ≤ (i : Int) := Int.natCast_nonneg i
      have hw : wrap64 ((i : Int) + 1) = ((i + 1 : Nat) : Int) := by unfold wrap64; omega
      have hx := hb i
      rw [← rd_nat] at hx
      have e : mn (wrap64 (s + rd xs (i : Int))) 1000000000000001 = cap (s + rd xs (i : Int)) := by rw [mn_cap, wrap_id (by omega) (by omega)]
      have hq : 0 ≤ cap (s + rd xs (i : Int)) := cap_nn (by omega)
      refine Ev.step (fun k => ?_) (f := fun k => spec_l02Total.l0 k xs (cap (s + rd xs (i : Int))) ((i + 1 : Nat) : Int)) ?_
      · rw [spec_l02Total.l0, if_pos b1, if_pos b2, e, hw]
      · rw [drop_rd xs i (by omega), List.foldl_cons]
        exact ih (i + 1) (by omega) _ hq (cap_le _)
  exact go xs.length 0 (by omega) 0 (by omega) (by omega)
theorem bd_ways {c : Nat} (Ls : List (List STile)) (hL : ∀ L ∈ Ls, Fine c L) : ∀ u, Bd u → u.length = c → Bd (waysC c u Ls) := by
  induction Ls with
  | nil => intro u h _; exact h
  | cons L Ls ih => intro u h hu; exact ih (fun M hM => hL M (List.mem_cons_of_mem _ hM)) _ (bd_step h _ (hL L (by simp))) (stepC_len _ _ _)
theorem fine_layers {c : Nat} {l : List STile} (h : Fine c l) (word : List Int) (p d : Nat) : ∀ L ∈ layers l word p d, Fine c L := by
  intro L hL
  simp only [layers, List.mem_map] at hL
  obtain ⟨j, -, rfl⟩ := hL
  exact fine_filter h _
def total (c : Nat) (Ls : List (List STile)) : Int := ((List.range c).map (paths Ls)).sum
theorem sum_nn (xs : List Int) (h : ∀ x ∈ xs, 0 ≤ x) : 0 ≤ xs.sum := by
  induction xs with
  | nil => simp
  | cons x xs ih => rw [List.sum_cons]; have := h x (by simp); have := ih (fun y hy => h y (List.mem_cons_of_mem _ hy)); omega
theorem paths_nn (Ls : List (List STile)) (a : Nat) : 0 ≤ paths Ls a := by
  induction Ls generalizing a with
  | nil => simp [paths]
  | cons L Ls ih =>
    rw [paths]
    apply sum_nn
    intro x hx
    obtain ⟨t, -, rfl⟩ := List.mem_map.1 hx
    split
    · exact ih _
    · omega
theorem unit_dot (c a : Nat) (h : a < c) (p : Nat → Int) : dot (unit c a) p = p a := by
  rw [unit, dot_set _ _ _ _ (by simpa using h), dot_zero]
  have : (List.replicate c (0 : Int)).getD a 0 = 0 := by simp [List.getD_eq_getElem?_getD, List.getElem?_replicate, h]
  rw [this]; omega
theorem cut_unit (c a : Nat) : Cut (unit c a) (unit c a) := by
  refine ⟨rfl, fun i => (bd_unit c a i).1, fun i => ?_⟩
  rw [cap_small]
  by_cases h : a < c
  · rw [unit, getD_set _ _ _ _ (by simpa using h)]
    split
    · omega
    · simp [List.getD_eq_getElem?_getD, List.getElem?_replicate]; split <;> simp
  · rw [unit, List.set_eq_of_length_le (by simp; omega)]; simp [List.getD_eq_getElem?_getD, List.getElem?_replicate]; split <;> simp
theorem capSum_unit (c : Nat) (Ls : List (List STile)) (hL : ∀ L ∈ Ls, Fine c L) (a : Nat) (ha : a < c) : capSum (waysC c (unit c a) Ls) = cap (paths Ls a) := by
  rw [capSum_cut (cut_ways Ls hL _ _ (cut_unit c a) (unit_len _ _)), ways_dot c Ls _ (unit_len _ _) hL, unit_dot c a ha]
end Go.Proofs.Ytenlcakpcbmmdaa
namespace Go.Proofs.Ytenlcakpcbmmdaa.Q
open Go.RowKit Go.Proofs.YtenlcakpcbmmdaaW.PrintWords Go.Proofs.YtenlcakpcbmmdaaW.PrintLast Go.Proofs.YtenlcakpcbmmdaaW.PrintMore
attribute [local go_sem] max2_int min2_int max_two min_two max_three min_three max_four min_four
set_option linter.unusedVariables false
set_option linter.unusedSimpArgs false
def impl_anyColour.f (a0 : Int) : Option (Bool) := some true
set_option maxHeartbeats 8000000 in
set_option maxRecDepth 100000 in
theorem impl_anyColour.calls (a0 : Int) (r : Bool) (w : World) (h : impl_anyColour.f a0 = some r) :
  Calls Try.prog 67 #[.int .i64 a0] w fun e w' => e = .returned (.bool r) ∧ Drawn0 w w' := by
 have H : (some true) = some r := h
 clear h
 obtain rfl := Option.some.inj H
 go_enter Try.func67, Try.ntmps67
 go_wp2
 go_ret
 exact ⟨by first | rfl | (simp; done) | (simp [*]; done), by repeat (first | exact Drawn0.refl _ | apply Drawn0.step)⟩
end Go.Proofs.Ytenlcakpcbmmdaa.Q

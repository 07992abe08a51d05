/-
  Parts of the proof, in their order: PairC.
-/
import Derived.Test.YtnjmgmdpkogocaaPk8
import Derived.Test.YtnjmgmdpkogocaaPk2
import Derived.Test.YtnjmgmdpkogocaaPk3
import Derived.Shelf.SlSortCmp.InsertionK
/-
  Pairs of numbers in rows of the call's own; their order; their sort.
-/
namespace Go.Proofs.Ytnjmgmdpkogocaa
open Go Go.RowKit Go.Proofs
set_option linter.unusedVariables false
set_option linter.unusedSimpArgs false

def encP (p : Int × Int) : List Value := [.int .i64 p.1, .int .i64 p.2]
def pcells (ps : List (Int × Int)) : List Value := ps.flatMap encP
def pk (ps : List (Int × Int)) (k : Nat) : Int × Int := ps.getD k (0, 0)
theorem encP_len (p : Int × Int) : (encP p).length = 2 := rfl
theorem encP_one (p : Int × Int) : ∀ v ∈ encP p, v.oneCell' = true := by
  intro v hv
  simp only [encP, List.mem_cons, List.not_mem_nil, or_false] at hv
  rcases hv with rfl | rfl <;> rfl
theorem pcells_length (ps : List (Int × Int)) : (pcells ps).length = ps.length * 2 := by
  induction ps with
  | nil => rfl
  | cons p ps ih => simp only [pcells, List.flatMap_cons, List.length_append, List.length_cons] at *; rw [ih]; simp [encP]; omega
theorem pcells_drop (ps : List (Int × Int)) : ∀ k, (pcells ps).drop (k * 2) = pcells (ps.drop k) := by
  induction ps with
  | nil => intro k; simp [pcells]
  | cons p ps ih =>
    intro k
    cases k with
    | zero => simp
    | succ k =>
      have := ih k
      simp only [pcells] at this
      simp only [pcells, List.drop_succ_cons, List.flatMap_cons]
      rw [show (k + 1) * 2 = (encP p).length + k * 2 by rw [encP_len]; omega, List.drop_length_add_append]
      exact this
theorem pk_get {ps : List (Int × Int)} {k : Nat} (h : k < ps.length) : ps[k] = pk ps k := by simp [pk, List.getD_eq_getElem?_getD, List.getElem?_eq_getElem h]
theorem pcells_at {ps : List (Int × Int)} {k : Nat} (hk : k < ps.length) : (pcells ps)[k * 2]? = some (.int .i64 (pk ps k).1) ∧ (pcells ps)[k * 2 + 1]? = some (.int .i64 (pk ps k).2) := by
  have h := pcells_drop ps k
  have hd : ps.drop k = pk ps k :: ps.drop (k + 1) := by rw [List.drop_eq_getElem_cons hk, pk_get hk]
  rw [hd] at h
  have h2 : pcells (pk ps k :: ps.drop (k + 1)) = .int .i64 (pk ps k).1 :: .int .i64 (pk ps k).2 :: pcells (ps.drop (k + 1)) := by simp [pcells, encP]
  rw [h2] at h
  have e0 : ((pcells ps).drop (k * 2))[0]? = some (.int .i64 (pk ps k).1) := by rw [h]; rfl
  have e1 : ((pcells ps).drop (k * 2))[1]? = some (.int .i64 (pk ps k).2) := by rw [h]; rfl
  rw [List.getElem?_drop] at e0 e1
  exact ⟨by rw [Nat.add_zero] at e0; exact e0, e1⟩
theorem pcells_snoc (ps : List (Int × Int)) (p : Int × Int) : pcells (ps ++ [p]) = pcells ps ++ encP p := by simp [pcells]
/-- v is a row of pairs of the call's own -/
def OP (w : World) (base : Nat) (v : Value) (ps : List (Int × Int)) : Prop := w.ownsRow base 86 2 v ps.length (pcells ps)
theorem OP.block {w : World} {base g n c : Nat} {ps : List (Int × Int)} (h : OP w base (.slice (some ⟨g, 0, none⟩) n c) ps) (hn : n = ps.length) :
    ∃ cur, BK w g cur 86 ∧ base ≤ g ∧ n ≤ c ∧ c ≤ maxLen ∧ cur.size = c * 2 ∧ cur.toList.take (n * 2) = pcells ps := by
  rcases h.2 with ⟨he, -⟩ | ⟨g', cap, cur, he, hb, hg, hle, hm, hs, ht⟩
  · injection he with e1 _ _; cases e1
  · injection he with e1 e2 e3
    injection e1 with e1; injection e1 with e1
    subst e1 e3
    refine ⟨cur, hg, hb, by omega, hm, hs, ?_⟩
    rw [hn]; exact ht
theorem OP.ofBlock {w : World} {base g n c : Nat} {ps : List (Int × Int)} {cur : Array Value} (h : BK w g cur 86) (hb : base ≤ g) (hn : n = ps.length) (hle : n ≤ c) (hm : c ≤ maxLen) (hs : cur.size = c * 2) (ht : cur.toList.take (n * 2) = pcells ps) :
    OP w base (.slice (some ⟨g, 0, none⟩) n c) ps := by
  subst hn
  exact ⟨pcells_length ps, .inr ⟨g, c, cur, rfl, hb, h, hle, hm, hs, ht⟩⟩
theorem OP.to {w w' : World} {base : Nat} {v : Value} {ps : List (Int × Int)} (h : OP w base v ps) (hb : Below w.heap.size w w') : OP w' base v ps := own_to h hb
theorem OP.lt {w : World} {base : Nat} {v : Value} {ps : List (Int × Int)} (h : OP w base v ps) : ∀ k, v.ownBlock = some k → base ≤ k ∧ k < w.heap.size := fun k hk => World.ownsRow.lt h k hk
theorem OP.empty {w : World} {b base : Nat} (h : BK w b #[] 86) (hb : base ≤ b) : OP w base (.slice (some ⟨b, 0, none⟩) 0 0) [] := OP.ofBlock h hb rfl (Nat.le_refl _) (by decide) rfl rfl
/-- the order of pairs -/
def ltPb (p q : Int × Int) : Bool := decide (p.1 < q.1 ∨ p.1 = q.1 ∧ p.2 < q.2)
theorem ltPb_iff {p q : Int × Int} : ltPb p q = true ↔ ltP p q := by simp [ltPb, ltP]
theorem ltPb_self (p : Int × Int) : ltPb p p = false := by simp [ltPb]
theorem ltPb_trans {p q r : Int × Int} (h : ltPb p q = true) (h2 : ltPb q r = true) : ltPb p r = true := by
  simp only [ltPb, decide_eq_true_eq] at *; omega
theorem ltPb_tri (p q : Int × Int) : ltPb p q = true ∨ p = q ∨ ltPb q p = true := by
  obtain ⟨a, b⟩ := p; obtain ⟨c, d⟩ := q
  simp only [ltPb, decide_eq_true_eq, Prod.mk.injEq]; omega
theorem ltPb_asymm {p q : Int × Int} (h : ltPb p q = true) : ltPb q p = false := by
  simp only [ltPb, decide_eq_true_eq, decide_eq_false_iff_not] at *; omega
def listP (p : Int × Int) : List Int := [p.1, p.2]
theorem cmpP_lt {p q : Int × Int} : cmpL (listP p) (listP q) < 0 ↔ ltPb p q = true := by
  simp only [listP, cmpL, ltPb]
  repeat' split
  all_goals simp_all
  all_goals omega
theorem pair_reads {w : World} {p : Int × Int} {b : Nat} {E : TypeId} (h : BK w b #[.int .i64 p.1, .int .i64 p.2] E) : RI w (some ⟨b, 0, none⟩) (listP p) := by
  intro k hk
  refine ⟨b, 0, rfl, h.lt, ?_⟩
  rw [Nat.zero_add]
  match k, hk with
  | 0, _ => exact h.cell rfl
  | 1, _ => exact h.cell rfl
set_option maxHeartbeats 1000000 in
set_option maxRecDepth 100000 in
theorem cmpPair_any (p q : Int × Int) (w : World) :
    Calls Try.prog 105 #[.agg #[.int .i64 p.1, .int .i64 p.2], .agg #[.int .i64 q.1, .int .i64 q.2]] w fun e w' => e = .returned (.int .i64 (cmpL (listP p) (listP q))) ∧ ∃ q os', w' = Go.Sort.grow (w.drewN q) os' := by
  have hR1 : RI (((w.alloc (.cells #[.int .i64 p.1, .int .i64 p.2] 86)).alloc (.cells #[.int .i64 q.1, .int .i64 q.2] 86)).drew) (some ⟨w.heap.size, 0, none⟩) (listP p) := by
    have b1 : BK ((w.alloc (.cells #[.int .i64 p.1, .int .i64 p.2] 86)).alloc (.cells #[.int .i64 q.1, .int .i64 q.2] 86)) w.heap.size #[.int .i64 p.1, .int .i64 p.2] 86 := (BK.new _ _ _).alloc _
    exact pair_reads (b1.below (Below.refl _ _).drew b1.lt)
  have hR2 : RI (((w.alloc (.cells #[.int .i64 p.1, .int .i64 p.2] 86)).alloc (.cells #[.int .i64 q.1, .int .i64 q.2] 86)).drew) (some ⟨w.heap.size + 1, 0, none⟩) (listP q) := by
    have b2 : BK ((w.alloc (.cells #[.int .i64 p.1, .int .i64 p.2] 86)).alloc (.cells #[.int .i64 q.1, .int .i64 q.2] 86)) (w.heap.size + 1) #[.int .i64 q.1, .int .i64 q.2] 86 := by simpa using BK.new (w.alloc (.cells #[.int .i64 p.1, .int .i64 p.2] 86)) #[.int .i64 q.1, .int .i64 q.2] 86
    exact pair_reads (b2.below (Below.refl _ _).drew b2.lt)
  have H1 := Lib.hid hR1; have H2 := Lib.hid hR2; clear hR1 hR2
  go_enter Try.func105, Try.ntmps105
  go_wp2_with fail
  refine wp_region_tail 2 (by kernel_rfl) (by kernel_rfl) ?_
  simp only [List.take_succ_cons, List.take_zero, List.drop_succ_cons, List.drop_zero]
  repeat still_step
  refine wpStill_nil ?_
  go_wp2_with (go_at_call 106; refine (slicesCompare_any _ _ (listP p) (listP q) _ _ _ _ _ rfl rfl H1.out H2.out (by simp [listP]) (by simp [listP])).mono ?_; rintro e w' ⟨rfl, rfl⟩)
  go_ret
  refine ⟨rfl, 1, #[.cells #[.int .i64 p.1, .int .i64 p.2] 86, .cells #[.int .i64 q.1, .int .i64 q.2] 86], ?_⟩
  rw [Go.Sort.alloc_eq_grow, Go.Sort.alloc_eq_grow, Go.Sort.grow_grow]
  rfl
def cfP (p q : Int × Int) : Int := cmpL (listP p) (listP q)
open Go.Sort Go.Shelf in
theorem ltOf_cfP (p q : Int × Int) : ltOf cfP p q = ltPb p q := by
  unfold ltOf cfP
  by_cases h : ltPb p q = true
  · rw [h]; simpa using cmpP_lt.2 h
  · have h' : ltPb p q = false := by simpa using h
    rw [h']; simpa using fun x => h (cmpP_lt.1 x)
open Go.Sort Go.Shelf in
theorem swoP : SWO (ltOf cfP) where
  irrefl x := by rw [ltOf_cfP]; exact ltPb_self x
  trans x y z h1 h2 := by rw [ltOf_cfP] at *; exact ltPb_trans h1 h2
  ntrans x y z h1 h2 := by
    rw [ltOf_cfP] at *
    simp only [ltPb, decide_eq_false_iff_not] at *; omega
open Go.Sort Go.Shelf in
theorem totP (x y : Int × Int) (h1 : ltOf cfP x y = false) (h2 : ltOf cfP y x = false) : x = y := by
  rw [ltOf_cfP] at *
  rcases ltPb_tri x y with h | h | h
  · rw [h] at h1; cases h1
  · exact h
  · rw [h] at h2; cases h2
open Go.Sort Go.Shelf in
theorem cmpLaysP (blk off size : Nat) (w : World) : CmpLays Try.prog 105 #[] encP 2 cfP blk off size w := fun _ _ _ _ x y => cmpPair_any x y _
open Go.Sort in
theorem flat_pcells (ps : List (Int × Int)) : (flatK encP 2 ps.toArray).toList = pcells ps := by
  apply List.ext_getElem?
  intro j
  by_cases hj : j < ps.length * 2
  · have hk : j / 2 < ps.length := by omega
    have e : j = j / 2 * 2 + j % 2 := by omega
    have h1 : (flatK encP 2 ps.toArray)[j]! = (encP ps.toArray[j / 2]!)[j % 2]! := get_flatK _ _ _ _ (by simpa using hj)
    have hs : j < (flatK encP 2 ps.toArray).size := by simpa using hj
    have h2 := pcells_at hk
    rw [Array.getElem?_toList, Array.getElem?_eq_getElem hs]
    rw [getElem!_pos (flatK encP 2 ps.toArray) j hs] at h1
    rw [h1]
    have h3 : ps.toArray[j / 2]! = pk ps (j / 2) := by simp [pk, List.getD, hk]
    rw [h3]
    have : j % 2 = 0 ∨ j % 2 = 1 := by omega
    rcases this with h | h
    · rw [h, show (pcells ps)[j]? = (pcells ps)[j / 2 * 2]? from congrArg (fun i => (pcells ps)[i]?) (by omega), h2.1]; rfl
    · rw [h, show (pcells ps)[j]? = (pcells ps)[j / 2 * 2 + 1]? from congrArg (fun i => (pcells ps)[i]?) (by omega), h2.2]; rfl
  · rw [List.getElem?_eq_none (by simp; omega), List.getElem?_eq_none (by rw [pcells_length]; omega)]
open Go.Sort in
theorem holdsP_of {w : World} {g : Nat} {cur : Array Value} {E : TypeId} {ps : List (Int × Int)} (h : BK w g cur E) (hs : cur.toList.take (ps.length * 2) = pcells ps) : HoldsK encP 2 w g 0 ps.toArray := by
  intro j hj
  have hj' : j < ps.length * 2 := by simpa using hj
  refine ⟨?_, h.frozen _⟩
  have h1 : (flatK encP 2 ps.toArray).toList[j]? = cur.toList[j]? := by
    rw [flat_pcells, ← hs, List.getElem?_take, if_pos hj']
  rw [Nat.zero_add]
  refine h.cell ?_
  rw [Array.getElem?_toList, Array.getElem?_toList] at h1
  rw [← h1, Array.getElem?_eq_getElem hj, getElem!_pos (flatK encP 2 ps.toArray) j hj]
  rfl
end Go.Proofs.Ytnjmgmdpkogocaa

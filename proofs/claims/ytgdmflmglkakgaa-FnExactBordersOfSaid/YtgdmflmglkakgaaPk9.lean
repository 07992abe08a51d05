/-
  Parts of the proof, in their order: Borders, BordersS, Good, Law3, QImplSetCodeAtImplBordersOf1, PBord.
-/
import Derived.Test.YtgdmflmglkakgaaPk8
import Derived.Deep.RegionHeld3
import Derived.Test.YtgdmflmglkakgaaPk7
/-
  Contract: the border words of a filling, by the code. (mkborders.py wrote it.)
-/
namespace Go.Proofs.Ytgdmflmglkakgaa
open Go Go.RowKit Go.Proofs Go.Proofs.YtgdmflmglkakgaaW.PrintWords Go.Proofs.YtgdmflmglkakgaaW.PrintLast Go.Proofs.YtgdmflmglkakgaaW.PrintMore Go.Proofs.Ytgdmflmglkakgaa.Q
set_option linter.unusedVariables false
set_option linter.unusedSimpArgs false

/-- the border words of the first y rows (west, east) and of the first x columns (north, south) -/
def LL (ts : List T4) (xs : List (List Int)) (k1 m1 y x : Nat) : Nat → List Int
  | 0 => (List.range y).map fun j => (tk ts (cell xs j 0).toNat).get 0
  | 1 => (List.range x).map fun j => (tk ts (cell xs 0 j).toNat).get 1
  | 2 => (List.range y).map fun j => (tk ts (cell xs j k1).toNat).get 2
  | 3 => (List.range x).map fun j => (tk ts (cell xs m1 j).toNat).get 3
  | _ => []
def bordL (ts : List T4) (xs : List (List Int)) : List (List Int) := [LL ts xs (width xs - 1) (xs.length - 1) xs.length (width xs) 0, LL ts xs (width xs - 1) (xs.length - 1) xs.length (width xs) 1, LL ts xs (width xs - 1) (xs.length - 1) xs.length (width xs) 2, LL ts xs (width xs - 1) (xs.length - 1) xs.length (width xs) 3]
theorem LL_len (ts : List T4) (xs : List (List Int)) (k1 m1 y x i : Nat) : (LL ts xs k1 m1 y x i).length ≤ y + x := by
  match i with
  | 0 => simp [LL]
  | 1 => simp [LL]
  | 2 => simp [LL]
  | 3 => simp [LL]
  | _ + 4 => simp [LL]
theorem LL_row {ts : List T4} {xs : List (List Int)} {k1 m1 y x q p : Nat} (hq : cell xs y 0 = (q : Int)) (hp : cell xs y k1 = (p : Int)) :
    up4 (up4 (LL ts xs k1 m1 y x) 0 (LL ts xs k1 m1 y x 0 ++ [(tk ts q).get 0])) 2 (up4 (LL ts xs k1 m1 y x) 0 (LL ts xs k1 m1 y x 0 ++ [(tk ts q).get 0]) 2 ++ [(tk ts p).get 2]) = LL ts xs k1 m1 (y + 1) x := by
  funext i
  match i with
  | 0 => simp [up4, LL, List.range_succ, hq]
  | 1 => simp [up4, LL]
  | 2 => simp [up4, LL, List.range_succ, hp]
  | 3 => simp [up4, LL]
  | _ + 4 => simp [up4, LL]
theorem LL_col {ts : List T4} {xs : List (List Int)} {k1 m1 y x q p : Nat} (hq : cell xs 0 x = (q : Int)) (hp : cell xs m1 x = (p : Int)) :
    up4 (up4 (LL ts xs k1 m1 y x) 1 (LL ts xs k1 m1 y x 1 ++ [(tk ts q).get 1])) 3 (up4 (LL ts xs k1 m1 y x) 1 (LL ts xs k1 m1 y x 1 ++ [(tk ts q).get 1]) 3 ++ [(tk ts p).get 3]) = LL ts xs k1 m1 y (x + 1) := by
  funext i
  match i with
  | 0 => simp [up4, LL]
  | 1 => simp [up4, LL, List.range_succ, hq]
  | 2 => simp [up4, LL]
  | 3 => simp [up4, LL, List.range_succ, hp]
  | _ + 4 => simp [up4, LL]
/-- a world with k empty rows more -/
def al (wd : World) : Nat → World
  | 0 => wd
  | k + 1 => (al wd k).alloc (.cells #[] 2)
theorem al_size (wd : World) (k : Nat) : (al wd k).heap.size = wd.heap.size + k := by
  induction k with
  | zero => rfl
  | succ k ih => simp [al, ih]; omega
theorem al_below (wd : World) (k : Nat) : Below wd.heap.size wd (al wd k) := by
  induction k with
  | zero => exact Below.refl _ _
  | succ k ih => exact below_alloc ih _
theorem al_at (wd : World) (k d : Nat) : (al wd (k + 1 + d)).heap[(al wd k).heap.size]? = some (.cells #[] 2 (0, 0)) := by
  induction d with
  | zero => exact BK.new _ _ _
  | succ d ih => exact ((below_alloc (Below.refl _ _) _).block _ (blk_lt ih)).trans ih
structure Four0 (wd w' : World) (b : Nat → Nat) : Prop where
  be : Below wd.heap.size wd w'
  row : ∀ i, i < 4 → w'.heap[b i]? = some (.cells #[] 2 (0, 0)) ∧ wd.heap.size ≤ b i
  ne : ∀ i, i < 4 → ∀ j, j < 4 → j ≠ i → b i ≠ b j
theorem four0 (wd : World) (p : Nat → Nat) (hp : ∀ i, i < 4 → p i < 4) (hne : ∀ i, i < 4 → ∀ j, j < 4 → j ≠ i → p i ≠ p j) : Four0 wd (al wd 4) (fun i => wd.heap.size + p i) := by
  refine ⟨al_below wd 4, fun i hi => ⟨?_, ?_⟩, fun i hi j hj h => ?_⟩
  · have := hp i hi
    have h2 := al_at wd (p i) (3 - p i)
    rwa [show p i + 1 + (3 - p i) = 4 by omega, al_size] at h2
  · show wd.heap.size ≤ wd.heap.size + p i
    omega
  · show wd.heap.size + p i ≠ wd.heap.size + p j
    have := hne i hi j hj h
    omega
theorem wrapN (m : Nat) (h : m < 1000000000) : wrap64 (m : Int) = (m : Int) := by unfold wrap64; omega
def borders_T1 : Bool × List (List Nat × List Nat) := (true, [([], []), ([], []), ([], []), ([], []), ([0, 1, 2, 3], [0, 1, 2, 3]), ([], []), ([5], [5]), ([6], [6]), ([7], [7]), ([8], [8]), ([4, 0, 1, 2, 3, 4], [4]), ([9, 10, 0, 1, 2, 3, 4, 5, 6, 7, 8, 9, 10], [9])])
def borders_B1 : List Nat := [0, 0, 0, 0, 15, 0, 32, 96, 224, 480, 31, 2047]
theorem borders_tab1 : rtab .any (opsOf Try.f39 1) = borders_T1 := by kernel_rfl
theorem borders_bits1 : waitsOk borders_T1.2 borders_B1 = true := by kernel_rfl
def borders_T5 : Bool × List (List Nat × List Nat) := (true, [([], []), ([], []), ([1], [1]), ([2], [2]), ([], []), ([4], [4]), ([], []), ([6], [6]), ([7], [7]), ([5, 8], [5, 8]), ([9], [9]), ([10], [10]), ([11], [11]), ([3, 12], [3, 12]), ([0, 0, 1, 2, 3, 4, 5, 6, 7, 8, 9, 10, 11, 12, 13], [0]), ([14, 13, 13, 0, 1, 2, 3, 4, 5, 6, 7, 8, 9, 10, 11, 12, 13], [13, 14])])
def borders_B5 : List Nat := [0, 0, 2, 6, 0, 16, 0, 64, 192, 496, 1008, 2032, 4080, 8190, 16383, 32767]
theorem borders_tab5 : rtab .any (opsOf Try.f39 5) = borders_T5 := by kernel_rfl
theorem borders_bits5 : waitsOk borders_T5.2 borders_B5 = true := by kernel_rfl
def borders_T6 : Bool × List (List Nat × List Nat) := (true, [([], []), ([], []), ([1], [1]), ([2], [2]), ([], []), ([4], [4]), ([], []), ([], []), ([6, 7], [6, 7]), ([8], [8]), ([5, 9], [5, 9]), ([10], [10]), ([11], [11]), ([12], [12]), ([3, 13], [3, 13]), ([0, 0, 1, 2, 3, 4, 5, 6, 7, 8, 9, 10, 11, 12, 13, 14], [0]), ([15, 14, 14, 0, 1, 2, 3, 4, 5, 6, 7, 8, 9, 10, 11, 12, 13, 14], [14, 15])])
def borders_B6 : List Nat := [0, 0, 2, 6, 0, 16, 0, 0, 192, 448, 1008, 2032, 4080, 8176, 16382, 32767, 65535]
theorem borders_tab6 : rtab .any (opsOf Try.f39 6) = borders_T6 := by kernel_rfl
theorem borders_bits6 : waitsOk borders_T6.2 borders_B6 = true := by kernel_rfl
def borders_T11 : Bool × List (List Nat × List Nat) := (true, [([], []), ([], []), ([1], [1]), ([2], [2]), ([], []), ([4], [4]), ([], []), ([6], [6]), ([7], [7]), ([], []), ([8, 9], [8, 9]), ([10], [10]), ([5, 11], [5, 11]), ([12], [12]), ([13], [13]), ([14], [14]), ([3, 15], [3, 15]), ([0, 0, 1, 2, 3, 4, 5, 6, 7, 8, 9, 10, 11, 12, 13, 14, 15, 16], [0]), ([17, 16, 16, 0, 1, 2, 3, 4, 5, 6, 7, 8, 9, 10, 11, 12, 13, 14, 15, 16], [16, 17])])
def borders_B11 : List Nat := [0, 0, 2, 6, 0, 16, 0, 64, 192, 0, 960, 1984, 4080, 8176, 16368, 32752, 65534, 131071, 262143]
theorem borders_tab11 : rtab .any (opsOf Try.f39 11) = borders_T11 := by kernel_rfl
theorem borders_bits11 : waitsOk borders_T11.2 borders_B11 = true := by kernel_rfl
def borders_T12 : Bool × List (List Nat × List Nat) := (true, [([], []), ([], []), ([1], [1]), ([2], [2]), ([], []), ([4], [4]), ([], []), ([], []), ([7], [7]), ([8], [8]), ([6, 9], [6, 9]), ([10], [10]), ([], []), ([11, 12], [11, 12]), ([13], [13]), ([5, 14], [5, 14]), ([15], [15]), ([16], [16]), ([17], [17]), ([3, 18], [3, 18]), ([0, 0, 1, 2, 3, 4, 5, 6, 7, 8, 9, 10, 11, 12, 13, 14, 15, 16, 17, 18, 19], [0]), ([20, 19, 19, 0, 1, 2, 3, 4, 5, 6, 7, 8, 9, 10, 11, 12, 13, 14, 15, 16, 17, 18, 19], [19, 20])])
def borders_B12 : List Nat := [0, 0, 2, 6, 0, 16, 0, 0, 128, 384, 960, 1984, 0, 8128, 16320, 32752, 65520, 131056, 262128, 524286, 1048575, 2097151]
theorem borders_tab12 : rtab .any (opsOf Try.f39 12) = borders_T12 := by kernel_rfl
theorem borders_bits12 : waitsOk borders_T12.2 borders_B12 = true := by kernel_rfl
set_option maxHeartbeats 8000000 in
set_option maxRecDepth 100000 in
theorem implBorders_any (C : Int) (A : Option Addr) (ts : List T4) (n c : Nat) (A' : Option Addr) (xs : List (List Int)) (m c' : Nat) (w : World) (hn : n = ts.length) (hA : RT w A ts) (hl : n ≤ 35184372088832) (hm : m = xs.length) (hA' : RR w A' xs) (ht : Tab ts.length xs) :
    Calls Try.prog 39 #[.agg #[.int .i64 C, .slice A n c], .slice A' m c'] w fun e w' => ∃ v, e = .returned v ∧ OWS w' w.heap.size w'.heap.size v (bordL ts xs) (fun i => icells (rowAt (bordL ts xs) i)) ∧ Below w.heap.size w w' := by
  have HA := Lib.hid hA; have HN := Lib.hid hn; have HA' := Lib.hid hA'; have HT := Lib.hid ht
  have m8 : m ≤ 8 := by have := ht.h8; omega
  obtain ⟨m1, rfl⟩ : ∃ m1, m = m1 + 1 := ⟨m - 1, by have := ht.h1; omega⟩
  obtain ⟨k1, hk1⟩ : ∃ k1, width xs = k1 + 1 := ⟨width xs - 1, by have := ht.w1; omega⟩
  have k8 : k1 ≤ 7 := by have := ht.w8; omega
  have HK := Lib.hid hk1; have HM := Lib.hid hm
  clear hA hn hA' hm ht hk1
  have hlen : ∀ y, y < xs.length → rowLen xs y = k1 + 1 := fun y hy => (HT.out.len y hy).trans HK.out
  obtain ⟨b0, o0, A0, c0, hA0, -, h00, hr0, -, -⟩ := HA'.out 0 (by have := HM.out; omega)
  subst hA0
  rw [hlen 0 (by have := HM.out; omega), Nat.add_zero] at h00
  have HR0 := Lib.hid hr0; have HLEN0 := Lib.hid hlen
  clear hr0 hlen
  go_enter Try.func39, Try.ntmps39
  go_wp2_with fail
  refine name1 ?_
  intro W1 b1 hz hb0
  have HB0 := Lib.hid hb0; clear hb0 hz
  try go_wp2_with fail
  have hW1 := (Below.refl W1.heap.size W1).drew
  have HE1 := Lib.hid (below_to HB0.out hW1)
  have bB1 := b1.below hW1 b1.lt
  clear b1 HB0 hW1
  refine start_ (n := 12) (S := fun w' => w'.cell? ⟨b0, o0, none⟩ = some (.slice A0 (k1 + 1) c0)) (ds := []) #[false, false, false, false, false, false, false, false, false, false, false, false] (by kernel_rfl) rfl rfl (cell_to HE1.out h00) (fun hHeld => ?_)
  refine with_tabW borders_tab1 borders_bits1 (fun HT_ HW_ => ?_)
  generalize W1.drew = wd at HE1 bB1 hHeld ⊢
  refine pure_ (i := 5) (N := some 15) (v := ?_) (a' := ?_) #[false, false, false, false, false, true, false, false, false, false, false, false] rfl rfl (any_of HT_.out (by kernel_rfl)) (fun _ _ _ h => h) (Or.inl ⟨by rfl, ?_⟩) ?_ ?_
  rotate_left
  · intro w'
    go_simp
    with_reducible rfl
  rotate_left
  · simp only [Act.put, List.setIfInBounds_toArray, List.set_cons_zero, List.set_cons_succ, i64_w, i32_w]
    rfl
  refine pure_ (i := 6) (N := some 16) (v := ?_) (a' := ?_) #[false, false, false, false, false, true, true, false, false, false, false, false] rfl rfl (any_of HT_.out (by kernel_rfl)) (fun _ _ _ h => h) (Or.inl ⟨by rfl, ?_⟩) ?_ ?_
  rotate_left
  · intro w'
    go_simp
    with_reducible rfl
  rotate_left
  · simp only [Act.put, List.setIfInBounds_toArray, List.set_cons_zero, List.set_cons_succ, i64_w, i32_w]
    rfl
  refine take_ (i := 7) (N := some 17) (v := ?_) (a' := ?_) #[false, false, false, false, false, true, true, true, false, false, false, false] rfl rfl (take_ofW HT_.out HW_.out (by kernel_rfl)) (fun _ _ _ h => h) (Or.inl ⟨by rfl, ?_⟩) hHeld ?_ ?_
  rotate_left
  · intro w' s0
    go_simp
    with_reducible rfl
  rotate_left
  · simp only [Act.put, List.setIfInBounds_toArray, List.set_cons_zero, List.set_cons_succ, i64_w, i32_w]
    rfl
  refine pure_ (i := 8) (N := some 18) (v := ?_) (a' := ?_) #[false, false, false, false, false, true, true, true, true, false, false, false] rfl rfl (any_of HT_.out (by kernel_rfl)) (fun _ _ _ h => h) (Or.inl ⟨by rfl, ?_⟩) ?_ ?_
  rotate_left
  · intro w'
    go_simp
    with_reducible rfl
  rotate_left
  · simp only [Act.put, List.setIfInBounds_toArray, List.set_cons_zero, List.set_cons_succ, i64_w, i32_w]
    rfl
  refine pure_ (i := 9) (N := some 19) (v := ?_) (a' := ?_) #[false, false, false, false, false, true, true, true, true, true, false, false] rfl rfl (any_of HT_.out (by kernel_rfl)) (fun _ _ _ h => h) (Or.inl ⟨by rfl, ?_⟩) ?_ ?_
  rotate_left
  · intro w'
    go_simp
    with_reducible rfl
  rotate_left
  · simp only [Act.put, List.setIfInBounds_toArray, List.set_cons_zero, List.set_cons_succ, i64_w, i32_w]
    rfl
  refine join_ (σ := Nat × Nat × Nat × Nat) 3 #[true, true, true, true, false, true, true, true, true, true, false, false] (fun s_ => [(10, .slice (some ⟨s_.1, 0, none⟩) 0 0), (11, .slice (some ⟨s_.2.1, 0, none⟩) 0 0), (12, .slice (some ⟨s_.2.2.1, 0, none⟩) 0 0), (13, .slice (some ⟨s_.2.2.2, 0, none⟩) 0 0)]) (fun s_ w' => w'.cell? ⟨b0, o0, none⟩ = some (.slice A0 (k1 + 1) c0) ∧ ∃ b : Nat → Nat, s_ = (b 0, b 1, b 2, b 3) ∧ Four0 wd w' b) ?_ ?_
  rotate_left
  · intro hCont
    refine four_ (i := 0) (j := 1) (k := 2) (m := 3) (Ni := some 10) (Nj := some 11) (Nk := some 12) (Nm := some 13) #[true, false, false, false, false, true, true, true, true, true, false, false] #[false, true, false, false, false, true, true, true, true, true, false, false] #[false, false, true, false, false, true, true, true, true, true, false, false] #[false, false, false, true, false, true, true, true, true, true, false, false] rfl rfl rfl rfl rfl rfl rfl rfl (four_of HT_.out (by kernel_rfl)) (by decide) (by decide) (by decide) (by decide) (fun K hK => ?_) (fun K hK => ?_) (fun K hK => ?_) (fun K hK => ?_)
    · skip
      refine value_ (w1 := ?_) (v := ?_) (by rfl) rfl ?_ ?_
      rotate_left 2
      · go_simp
        constructor
        · rfl
        · rfl
      refine hK.out _ _ (cell_to (below_alloc (Below.refl _ _) _) hHeld) (fun hHeld => ?_)
      clear hK K
      refine norm_ (a' := ?_) ?_ ?_
      rotate_left
      · show Act.put _ (some 10) _ = _
        simp only [Act.put, List.setIfInBounds_toArray, List.set_cons_zero, List.set_cons_succ, i64_w, i32_w]
        rfl
      refine three_ (i := 1) (j := 2) (k := 3) (Ni := some 11) (Nj := some 12) (Nk := some 13) #[true, true, false, false, false, true, true, true, true, true, false, false] #[true, false, true, false, false, true, true, true, true, true, false, false] #[true, false, false, true, false, true, true, true, true, true, false, false] rfl rfl rfl rfl rfl rfl (three_of HT_.out (by kernel_rfl)) (by decide) (by decide) (by decide) (fun K hK => ?_) (fun K hK => ?_) (fun K hK => ?_)
      · skip
        refine value_ (w1 := ?_) (v := ?_) (by rfl) rfl ?_ ?_
        rotate_left 2
        · go_simp
          constructor
          · rfl
          · rfl
        refine hK.out _ _ (cell_to (below_alloc (Below.refl _ _) _) hHeld) (fun hHeld => ?_)
        clear hK K
        refine norm_ (a' := ?_) ?_ ?_
        rotate_left
        · show Act.put _ (some 11) _ = _
          simp only [Act.put, List.setIfInBounds_toArray, List.set_cons_zero, List.set_cons_succ, i64_w, i32_w]
          rfl
        refine two_ (i := 2) (j := 3) (Ni := some 12) (Nj := some 13) #[true, true, true, false, false, true, true, true, true, true, false, false] #[true, true, false, true, false, true, true, true, true, true, false, false] rfl rfl rfl rfl (two_of HT_.out (by kernel_rfl)) (by decide) (by decide) (fun K hK => ?_) (fun K hK => ?_)
        · skip
          refine value_ (w1 := ?_) (v := ?_) (by rfl) rfl ?_ ?_
          rotate_left 2
          · go_simp
            constructor
            · rfl
            · rfl
          refine hK.out _ _ (cell_to (below_alloc (Below.refl _ _) _) hHeld) (fun hHeld => ?_)
          clear hK K
          refine norm_ (a' := ?_) ?_ ?_
          rotate_left
          · show Act.put _ (some 12) _ = _
            simp only [Act.put, List.setIfInBounds_toArray, List.set_cons_zero, List.set_cons_succ, i64_w, i32_w]
            rfl
          refine one_ (i := 3) (N := some 13) #[true, true, true, true, false, true, true, true, true, true, false, false] rfl rfl (one_of HT_.out (by kernel_rfl)) (by decide) (fun K hK => ?_)
          refine value_ (w1 := ?_) (v := ?_) (by rfl) rfl ?_ ?_
          rotate_left 2
          · go_simp
            constructor
            · rfl
            · rfl
          refine hK.out _ _ (cell_to (below_alloc (Below.refl _ _) _) hHeld) (fun hHeld => ?_)
          clear hK K
          refine norm_ (a' := ?_) ?_ ?_
          rotate_left
          · show Act.put _ (some 13) _ = _
            simp only [Act.put, List.setIfInBounds_toArray, List.set_cons_zero, List.set_cons_succ, i64_w, i32_w]
            rfl
          exact norm_ (by first | (simp only [putAll, Act.put, List.setIfInBounds_toArray, List.set_cons_zero, List.set_cons_succ]; done) | (simp only [putAll, Act.put, List.setIfInBounds_toArray, List.set_cons_zero, List.set_cons_succ]; rfl)) (hCont (wd.heap.size + 0, wd.heap.size + 1, wd.heap.size + 2, wd.heap.size + 3) _ ⟨hHeld, fun i => wd.heap.size + ([0, 1, 2, 3] : List Nat).getD i 0, rfl, four0 wd (fun i => ([0, 1, 2, 3] : List Nat).getD i 0) (by decide) (by decide)⟩)
        · skip
          refine value_ (w1 := ?_) (v := ?_) (by rfl) rfl ?_ ?_
          rotate_left 2
          · go_simp
            constructor
            · rfl
            · rfl
          refine hK.out _ _ (cell_to (below_alloc (Below.refl _ _) _) hHeld) (fun hHeld => ?_)
          clear hK K
          refine norm_ (a' := ?_) ?_ ?_
          rotate_left
          · show Act.put _ (some 13) _ = _
            simp only [Act.put, List.setIfInBounds_toArray, List.set_cons_zero, List.set_cons_succ, i64_w, i32_w]
            rfl
          refine one_ (i := 2) (N := some 12) #[true, true, true, true, false, true, true, true, true, true, false, false] rfl rfl (one_of HT_.out (by kernel_rfl)) (by decide) (fun K hK => ?_)
          refine value_ (w1 := ?_) (v := ?_) (by rfl) rfl ?_ ?_
          rotate_left 2
          · go_simp
            constructor
            · rfl
            · rfl
          refine hK.out _ _ (cell_to (below_alloc (Below.refl _ _) _) hHeld) (fun hHeld => ?_)
          clear hK K
          refine norm_ (a' := ?_) ?_ ?_
          rotate_left
          · show Act.put _ (some 12) _ = _
            simp only [Act.put, List.setIfInBounds_toArray, List.set_cons_zero, List.set_cons_succ, i64_w, i32_w]
            rfl
          exact norm_ (by first | (simp only [putAll, Act.put, List.setIfInBounds_toArray, List.set_cons_zero, List.set_cons_succ]; done) | (simp only [putAll, Act.put, List.setIfInBounds_toArray, List.set_cons_zero, List.set_cons_succ]; rfl)) (hCont (wd.heap.size + 0, wd.heap.size + 1, wd.heap.size + 3, wd.heap.size + 2) _ ⟨hHeld, fun i => wd.heap.size + ([0, 1, 3, 2] : List Nat).getD i 0, rfl, four0 wd (fun i => ([0, 1, 3, 2] : List Nat).getD i 0) (by decide) (by decide)⟩)
      · skip
        refine value_ (w1 := ?_) (v := ?_) (by rfl) rfl ?_ ?_
        rotate_left 2
        · go_simp
          constructor
          · rfl
          · rfl
        refine hK.out _ _ (cell_to (below_alloc (Below.refl _ _) _) hHeld) (fun hHeld => ?_)
        clear hK K
        refine norm_ (a' := ?_) ?_ ?_
        rotate_left
        · show Act.put _ (some 12) _ = _
          simp only [Act.put, List.setIfInBounds_toArray, List.set_cons_zero, List.set_cons_succ, i64_w, i32_w]
          rfl
        refine two_ (i := 1) (j := 3) (Ni := some 11) (Nj := some 13) #[true, true, true, false, false, true, true, true, true, true, false, false] #[true, false, true, true, false, true, true, true, true, true, false, false] rfl rfl rfl rfl (two_of HT_.out (by kernel_rfl)) (by decide) (by decide) (fun K hK => ?_) (fun K hK => ?_)
        · skip
          refine value_ (w1 := ?_) (v := ?_) (by rfl) rfl ?_ ?_
          rotate_left 2
          · go_simp
            constructor
            · rfl
            · rfl
          refine hK.out _ _ (cell_to (below_alloc (Below.refl _ _) _) hHeld) (fun hHeld => ?_)
          clear hK K
          refine norm_ (a' := ?_) ?_ ?_
          rotate_left
          · show Act.put _ (some 11) _ = _
            simp only [Act.put, List.setIfInBounds_toArray, List.set_cons_zero, List.set_cons_succ, i64_w, i32_w]
            rfl
          refine one_ (i := 3) (N := some 13) #[true, true, true, true, false, true, true, true, true, true, false, false] rfl rfl (one_of HT_.out (by kernel_rfl)) (by decide) (fun K hK => ?_)
          refine value_ (w1 := ?_) (v := ?_) (by rfl) rfl ?_ ?_
          rotate_left 2
          · go_simp
            constructor
            · rfl
            · rfl
          refine hK.out _ _ (cell_to (below_alloc (Below.refl _ _) _) hHeld) (fun hHeld => ?_)
          clear hK K
          refine norm_ (a' := ?_) ?_ ?_
          rotate_left
          · show Act.put _ (some 13) _ = _
            simp only [Act.put, List.setIfInBounds_toArray, List.set_cons_zero, List.set_cons_succ, i64_w, i32_w]
            rfl
          exact norm_ (by first | (simp only [putAll, Act.put, List.setIfInBounds_toArray, List.set_cons_zero, List.set_cons_succ]; done) | (simp only [putAll, Act.put, List.setIfInBounds_toArray, List.set_cons_zero, List.set_cons_succ]; rfl)) (hCont (wd.heap.size + 0, wd.heap.size + 2, wd.heap.size + 1, wd.heap.size + 3) _ ⟨hHeld, fun i => wd.heap.size + ([0, 2, 1, 3] : List Nat).getD i 0, rfl, four0 wd (fun i => ([0, 2, 1, 3] : List Nat).getD i 0) (by decide) (by decide)⟩)
        · skip
          refine value_ (w1 := ?_) (v := ?_) (by rfl) rfl ?_ ?_
          rotate_left 2
          · go_simp
            constructor
            · rfl
            · rfl
          refine hK.out _ _ (cell_to (below_alloc (Below.refl _ _) _) hHeld) (fun hHeld => ?_)
          clear hK K
          refine norm_ (a' := ?_) ?_ ?_
          rotate_left
          · show Act.put _ (some 13) _ = _
            simp only [Act.put, List.setIfInBounds_toArray, List.set_cons_zero, List.set_cons_succ, i64_w, i32_w]
            rfl
          refine one_ (i := 1) (N := some 11) #[true, true, true, true, false, true, true, true, true, true, false, false] rfl rfl (one_of HT_.out (by kernel_rfl)) (by decide) (fun K hK => ?_)
          refine value_ (w1 := ?_) (v := ?_) (by rfl) rfl ?_ ?_
          rotate_left 2
          · go_simp
            constructor
            · rfl
            · rfl
          refine hK.out _ _ (cell_to (below_alloc (Below.refl _ _) _) hHeld) (fun hHeld => ?_)
          clear hK K
          refine norm_ (a' := ?_) ?_ ?_
          rotate_left
          · show Act.put _ (some 11) _ = _
            simp only [Act.put, List.setIfInBounds_toArray, List.set_cons_zero, List.set_cons_succ, i64_w, i32_w]
            rfl
          exact norm_ (by first | (simp only [putAll, Act.put, List.setIfInBounds_toArray, List.set_cons_zero, List.set_cons_succ]; done) | (simp only [putAll, Act.put, List.setIfInBounds_toArray, List.set_cons_zero, List.set_cons_succ]; rfl)) (hCont (wd.heap.size + 0, wd.heap.size + 3, wd.heap.size + 1, wd.heap.size + 2) _ ⟨hHeld, fun i => wd.heap.size + ([0, 3, 1, 2] : List Nat).getD i 0, rfl, four0 wd (fun i => ([0, 3, 1, 2] : List Nat).getD i 0) (by decide) (by decide)⟩)
      · skip
        refine value_ (w1 := ?_) (v := ?_) (by rfl) rfl ?_ ?_
        rotate_left 2
        · go_simp
          constructor
          · rfl
          · rfl
        refine hK.out _ _ (cell_to (below_alloc (Below.refl _ _) _) hHeld) (fun hHeld => ?_)
        clear hK K
        refine norm_ (a' := ?_) ?_ ?_
        rotate_left
        · show Act.put _ (some 13) _ = _
          simp only [Act.put, List.setIfInBounds_toArray, List.set_cons_zero, List.set_cons_succ, i64_w, i32_w]
          rfl
        refine two_ (i := 1) (j := 2) (Ni := some 11) (Nj := some 12) #[true, true, false, true, false, true, true, true, true, true, false, false] #[true, false, true, true, false, true, true, true, true, true, false, false] rfl rfl rfl rfl (two_of HT_.out (by kernel_rfl)) (by decide) (by decide) (fun K hK => ?_) (fun K hK => ?_)
        · skip
          refine value_ (w1 := ?_) (v := ?_) (by rfl) rfl ?_ ?_
          rotate_left 2
          · go_simp
            constructor
            · rfl
            · rfl
          refine hK.out _ _ (cell_to (below_alloc (Below.refl _ _) _) hHeld) (fun hHeld => ?_)
          clear hK K
          refine norm_ (a' := ?_) ?_ ?_
          rotate_left
          · show Act.put _ (some 11) _ = _
            simp only [Act.put, List.setIfInBounds_toArray, List.set_cons_zero, List.set_cons_succ, i64_w, i32_w]
            rfl
          refine one_ (i := 2) (N := some 12) #[true, true, true, true, false, true, true, true, true, true, false, false] rfl rfl (one_of HT_.out (by kernel_rfl)) (by decide) (fun K hK => ?_)
          refine value_ (w1 := ?_) (v := ?_) (by rfl) rfl ?_ ?_
          rotate_left 2
          · go_simp
            constructor
            · rfl
            · rfl
          refine hK.out _ _ (cell_to (below_alloc (Below.refl _ _) _) hHeld) (fun hHeld => ?_)
          clear hK K
          refine norm_ (a' := ?_) ?_ ?_
          rotate_left
          · show Act.put _ (some 12) _ = _
            simp only [Act.put, List.setIfInBounds_toArray, List.set_cons_zero, List.set_cons_succ, i64_w, i32_w]
            rfl
          exact norm_ (by first | (simp only [putAll, Act.put, List.setIfInBounds_toArray, List.set_cons_zero, List.set_cons_succ]; done) | (simp only [putAll, Act.put, List.setIfInBounds_toArray, List.set_cons_zero, List.set_cons_succ]; rfl)) (hCont (wd.heap.size + 0, wd.heap.size + 2, wd.heap.size + 3, wd.heap.size + 1) _ ⟨hHeld, fun i => wd.heap.size + ([0, 2, 3, 1] : List Nat).getD i 0, rfl, four0 wd (fun i => ([0, 2, 3, 1] : List Nat).getD i 0) (by decide) (by decide)⟩)
        · skip
          refine value_ (w1 := ?_) (v := ?_) (by rfl) rfl ?_ ?_
          rotate_left 2
          · go_simp
            constructor
            · rfl
            · rfl
          refine hK.out _ _ (cell_to (below_alloc (Below.refl _ _) _) hHeld) (fun hHeld => ?_)
          clear hK K
          refine norm_ (a' := ?_) ?_ ?_
          rotate_left
          · show Act.put _ (some 12) _ = _
            simp only [Act.put, List.setIfInBounds_toArray, List.set_cons_zero, List.set_cons_succ, i64_w, i32_w]
            rfl
          refine one_ (i := 1) (N := some 11) #[true, true, true, true, false, true, true, true, true, true, false, false] rfl rfl (one_of HT_.out (by kernel_rfl)) (by decide) (fun K hK => ?_)
          refine value_ (w1 := ?_) (v := ?_) (by rfl) rfl ?_ ?_
          rotate_left 2
          · go_simp
            constructor
            · rfl
            · rfl
          refine hK.out _ _ (cell_to (below_alloc (Below.refl _ _) _) hHeld) (fun hHeld => ?_)
          clear hK K
          refine norm_ (a' := ?_) ?_ ?_
          rotate_left
          · show Act.put _ (some 11) _ = _
            simp only [Act.put, List.setIfInBounds_toArray, List.set_cons_zero, List.set_cons_succ, i64_w, i32_w]
            rfl
          exact norm_ (by first | (simp only [putAll, Act.put, List.setIfInBounds_toArray, List.set_cons_zero, List.set_cons_succ]; done) | (simp only [putAll, Act.put, List.setIfInBounds_toArray, List.set_cons_zero, List.set_cons_succ]; rfl)) (hCont (wd.heap.size + 0, wd.heap.size + 3, wd.heap.size + 2, wd.heap.size + 1) _ ⟨hHeld, fun i => wd.heap.size + ([0, 3, 2, 1] : List Nat).getD i 0, rfl, four0 wd (fun i => ([0, 3, 2, 1] : List Nat).getD i 0) (by decide) (by decide)⟩)
    · skip
      refine value_ (w1 := ?_) (v := ?_) (by rfl) rfl ?_ ?_
      rotate_left 2
      · go_simp
        constructor
        · rfl
        · rfl
      refine hK.out _ _ (cell_to (below_alloc (Below.refl _ _) _) hHeld) (fun hHeld => ?_)
      clear hK K
      refine norm_ (a' := ?_) ?_ ?_
      rotate_left
      · show Act.put _ (some 11) _ = _
        simp only [Act.put, List.setIfInBounds_toArray, List.set_cons_zero, List.set_cons_succ, i64_w, i32_w]
        rfl
      refine three_ (i := 0) (j := 2) (k := 3) (Ni := some 10) (Nj := some 12) (Nk := some 13) #[true, true, false, false, false, true, true, true, true, true, false, false] #[false, true, true, false, false, true, true, true, true, true, false, false] #[false, true, false, true, false, true, true, true, true, true, false, false] rfl rfl rfl rfl rfl rfl (three_of HT_.out (by kernel_rfl)) (by decide) (by decide) (by decide) (fun K hK => ?_) (fun K hK => ?_) (fun K hK => ?_)
      · skip
        refine value_ (w1 := ?_) (v := ?_) (by rfl) rfl ?_ ?_
        rotate_left 2
        · go_simp
          constructor
          · rfl
          · rfl
        refine hK.out _ _ (cell_to (below_alloc (Below.refl _ _) _) hHeld) (fun hHeld => ?_)
        clear hK K
        refine norm_ (a' := ?_) ?_ ?_
        rotate_left
        · show Act.put _ (some 10) _ = _
          simp only [Act.put, List.setIfInBounds_toArray, List.set_cons_zero, List.set_cons_succ, i64_w, i32_w]
          rfl
        refine two_ (i := 2) (j := 3) (Ni := some 12) (Nj := some 13) #[true, true, true, false, false, true, true, true, true, true, false, false] #[true, true, false, true, false, true, true, true, true, true, false, false] rfl rfl rfl rfl (two_of HT_.out (by kernel_rfl)) (by decide) (by decide) (fun K hK => ?_) (fun K hK => ?_)
        · skip
          refine value_ (w1 := ?_) (v := ?_) (by rfl) rfl ?_ ?_
          rotate_left 2
          · go_simp
            constructor
            · rfl
            · rfl
          refine hK.out _ _ (cell_to (below_alloc (Below.refl _ _) _) hHeld) (fun hHeld => ?_)
          clear hK K
          refine norm_ (a' := ?_) ?_ ?_
          rotate_left
          · show Act.put _ (some 12) _ = _
            simp only [Act.put, List.setIfInBounds_toArray, List.set_cons_zero, List.set_cons_succ, i64_w, i32_w]
            rfl
          refine one_ (i := 3) (N := some 13) #[true, true, true, true, false, true, true, true, true, true, false, false] rfl rfl (one_of HT_.out (by kernel_rfl)) (by decide) (fun K hK => ?_)
          refine value_ (w1 := ?_) (v := ?_) (by rfl) rfl ?_ ?_
          rotate_left 2
          · go_simp
            constructor
            · rfl
            · rfl
          refine hK.out _ _ (cell_to (below_alloc (Below.refl _ _) _) hHeld) (fun hHeld => ?_)
          clear hK K
          refine norm_ (a' := ?_) ?_ ?_
          rotate_left
          · show Act.put _ (some 13) _ = _
            simp only [Act.put, List.setIfInBounds_toArray, List.set_cons_zero, List.set_cons_succ, i64_w, i32_w]
            rfl
          exact norm_ (by first | (simp only [putAll, Act.put, List.setIfInBounds_toArray, List.set_cons_zero, List.set_cons_succ]; done) | (simp only [putAll, Act.put, List.setIfInBounds_toArray, List.set_cons_zero, List.set_cons_succ]; rfl)) (hCont (wd.heap.size + 1, wd.heap.size + 0, wd.heap.size + 2, wd.heap.size + 3) _ ⟨hHeld, fun i => wd.heap.size + ([1, 0, 2, 3] : List Nat).getD i 0, rfl, four0 wd (fun i => ([1, 0, 2, 3] : List Nat).getD i 0) (by decide) (by decide)⟩)
        · skip
          refine value_ (w1 := ?_) (v := ?_) (by rfl) rfl ?_ ?_
          rotate_left 2
          · go_simp
            constructor
            · rfl
            · rfl
          refine hK.out _ _ (cell_to (below_alloc (Below.refl _ _) _) hHeld) (fun hHeld => ?_)
          clear hK K
          refine norm_ (a' := ?_) ?_ ?_
          rotate_left
          · show Act.put _ (some 13) _ = _
            simp only [Act.put, List.setIfInBounds_toArray, List.set_cons_zero, List.set_cons_succ, i64_w, i32_w]
            rfl
          refine one_ (i := 2) (N := some 12) #[true, true, true, true, false, true, true, true, true, true, false, false] rfl rfl (one_of HT_.out (by kernel_rfl)) (by decide) (fun K hK => ?_)
          refine value_ (w1 := ?_) (v := ?_) (by rfl) rfl ?_ ?_
          rotate_left 2
          · go_simp
            constructor
            · rfl
            · rfl
          refine hK.out _ _ (cell_to (below_alloc (Below.refl _ _) _) hHeld) (fun hHeld => ?_)
          clear hK K
          refine norm_ (a' := ?_) ?_ ?_
          rotate_left
          · show Act.put _ (some 12) _ = _
            simp only [Act.put, List.setIfInBounds_toArray, List.set_cons_zero, List.set_cons_succ, i64_w, i32_w]
            rfl
          exact norm_ (by first | (simp only [putAll, Act.put, List.setIfInBounds_toArray, List.set_cons_zero, List.set_cons_succ]; done) | (simp only [putAll, Act.put, List.setIfInBounds_toArray, List.set_cons_zero, List.set_cons_succ]; rfl)) (hCont (wd.heap.size + 1, wd.heap.size + 0, wd.heap.size + 3, wd.heap.size + 2) _ ⟨hHeld, fun i => wd.heap.size + ([1, 0, 3, 2] : List Nat).getD i 0, rfl, four0 wd (fun i => ([1, 0, 3, 2] : List Nat).getD i 0) (by decide) (by decide)⟩)
      · skip
        refine value_ (w1 := ?_) (v := ?_) (by rfl) rfl ?_ ?_
        rotate_left 2
        · go_simp
          constructor
          · rfl
          · rfl
        refine hK.out _ _ (cell_to (below_alloc (Below.refl _ _) _) hHeld) (fun hHeld => ?_)
        clear hK K
        refine norm_ (a' := ?_) ?_ ?_
        rotate_left
        · show Act.put _ (some 12) _ = _
          simp only [Act.put, List.setIfInBounds_toArray, List.set_cons_zero, List.set_cons_succ, i64_w, i32_w]
          rfl
        refine two_ (i := 0) (j := 3) (Ni := some 10) (Nj := some 13) #[true, true, true, false, false, true, true, true, true, true, false, false] #[false, true, true, true, false, true, true, true, true, true, false, false] rfl rfl rfl rfl (two_of HT_.out (by kernel_rfl)) (by decide) (by decide) (fun K hK => ?_) (fun K hK => ?_)
        · skip
          refine value_ (w1 := ?_) (v := ?_) (by rfl) rfl ?_ ?_
          rotate_left 2
          · go_simp
            constructor
            · rfl
            · rfl
          refine hK.out _ _ (cell_to (below_alloc (Below.refl _ _) _) hHeld) (fun hHeld => ?_)
          clear hK K
          refine norm_ (a' := ?_) ?_ ?_
          rotate_left
          · show Act.put _ (some 10) _ = _
            simp only [Act.put, List.setIfInBounds_toArray, List.set_cons_zero, List.set_cons_succ, i64_w, i32_w]
            rfl
          refine one_ (i := 3) (N := some 13) #[true, true, true, true, false, true, true, true, true, true, false, false] rfl rfl (one_of HT_.out (by kernel_rfl)) (by decide) (fun K hK => ?_)
          refine value_ (w1 := ?_) (v := ?_) (by rfl) rfl ?_ ?_
          rotate_left 2
          · go_simp
            constructor
            · rfl
            · rfl
          refine hK.out _ _ (cell_to (below_alloc (Below.refl _ _) _) hHeld) (fun hHeld => ?_)
          clear hK K
          refine norm_ (a' := ?_) ?_ ?_
          rotate_left
          · show Act.put _ (some 13) _ = _
            simp only [Act.put, List.setIfInBounds_toArray, List.set_cons_zero, List.set_cons_succ, i64_w, i32_w]
            rfl
          exact norm_ (by first | (simp only [putAll, Act.put, List.setIfInBounds_toArray, List.set_cons_zero, List.set_cons_succ]; done) | (simp only [putAll, Act.put, List.setIfInBounds_toArray, List.set_cons_zero, List.set_cons_succ]; rfl)) (hCont (wd.heap.size + 2, wd.heap.size + 0, wd.heap.size + 1, wd.heap.size + 3) _ ⟨hHeld, fun i => wd.heap.size + ([2, 0, 1, 3] : List Nat).getD i 0, rfl, four0 wd (fun i => ([2, 0, 1, 3] : List Nat).getD i 0) (by decide) (by decide)⟩)
        · skip
          refine value_ (w1 := ?_) (v := ?_) (by rfl) rfl ?_ ?_
          rotate_left 2
          · go_simp
            constructor
            · rfl
            · rfl
          refine hK.out _ _ (cell_to (below_alloc (Below.refl _ _) _) hHeld) (fun hHeld => ?_)
          clear hK K
          refine norm_ (a' := ?_) ?_ ?_
          rotate_left
          · show Act.put _ (some 13) _ = _
            simp only [Act.put, List.setIfInBounds_toArray, List.set_cons_zero, List.set_cons_succ, i64_w, i32_w]
            rfl
          refine one_ (i := 0) (N := some 10) #[true, true, true, true, false, true, true, true, true, true, false, false] rfl rfl (one_of HT_.out (by kernel_rfl)) (by decide) (fun K hK => ?_)
          refine value_ (w1 := ?_) (v := ?_) (by rfl) rfl ?_ ?_
          rotate_left 2
          · go_simp
            constructor
            · rfl
            · rfl
          refine hK.out _ _ (cell_to (below_alloc (Below.refl _ _) _) hHeld) (fun hHeld => ?_)
          clear hK K
          refine norm_ (a' := ?_) ?_ ?_
          rotate_left
          · show Act.put _ (some 10) _ = _
            simp only [Act.put, List.setIfInBounds_toArray, List.set_cons_zero, List.set_cons_succ, i64_w, i32_w]
            rfl
          exact norm_ (by first | (simp only [putAll, Act.put, List.setIfInBounds_toArray, List.set_cons_zero, List.set_cons_succ]; done) | (simp only [putAll, Act.put, List.setIfInBounds_toArray, List.set_cons_zero, List.set_cons_succ]; rfl)) (hCont (wd.heap.size + 3, wd.heap.size + 0, wd.heap.size + 1, wd.heap.size + 2) _ ⟨hHeld, fun i => wd.heap.size + ([3, 0, 1, 2] : List Nat).getD i 0, rfl, four0 wd (fun i => ([3, 0, 1, 2] : List Nat).getD i 0) (by decide) (by decide)⟩)
      · skip
        refine value_ (w1 := ?_) (v := ?_) (by rfl) rfl ?_ ?_
        rotate_left 2
        · go_simp
          constructor
          · rfl
          · rfl
        refine hK.out _ _ (cell_to (below_alloc (Below.refl _ _) _) hHeld) (fun hHeld => ?_)
        clear hK K
        refine norm_ (a' := ?_) ?_ ?_
        rotate_left
        · show Act.put _ (some 13) _ = _
          simp only [Act.put, List.setIfInBounds_toArray, List.set_cons_zero, List.set_cons_succ, i64_w, i32_w]
          rfl
        refine two_ (i := 0) (j := 2) (Ni := some 10) (Nj := some 12) #[true, true, false, true, false, true, true, true, true, true, false, false] #[false, true, true, true, false, true, true, true, true, true, false, false] rfl rfl rfl rfl (two_of HT_.out (by kernel_rfl)) (by decide) (by decide) (fun K hK => ?_) (fun K hK => ?_)
        · skip
          refine value_ (w1 := ?_) (v := ?_) (by rfl) rfl ?_ ?_
          rotate_left 2
          · go_simp
            constructor
            · rfl
            · rfl
          refine hK.out _ _ (cell_to (below_alloc (Below.refl _ _) _) hHeld) (fun hHeld => ?_)
          clear hK K
          refine norm_ (a' := ?_) ?_ ?_
          rotate_left
          · show Act.put _ (some 10) _ = _
            simp only [Act.put, List.setIfInBounds_toArray, List.set_cons_zero, List.set_cons_succ, i64_w, i32_w]
            rfl
          refine one_ (i := 2) (N := some 12) #[true, true, true, true, false, true, true, true, true, true, false, false] rfl rfl (one_of HT_.out (by kernel_rfl)) (by decide) (fun K hK => ?_)
          refine value_ (w1 := ?_) (v := ?_) (by rfl) rfl ?_ ?_
          rotate_left 2
          · go_simp
            constructor
            · rfl
            · rfl
          refine hK.out _ _ (cell_to (below_alloc (Below.refl _ _) _) hHeld) (fun hHeld => ?_)
          clear hK K
          refine norm_ (a' := ?_) ?_ ?_
          rotate_left
          · show Act.put _ (some 12) _ = _
            simp only [Act.put, List.setIfInBounds_toArray, List.set_cons_zero, List.set_cons_succ, i64_w, i32_w]
            rfl
          exact norm_ (by first | (simp only [putAll, Act.put, List.setIfInBounds_toArray, List.set_cons_zero, List.set_cons_succ]; done) | (simp only [putAll, Act.put, List.setIfInBounds_toArray, List.set_cons_zero, List.set_cons_succ]; rfl)) (hCont (wd.heap.size + 2, wd.heap.size + 0, wd.heap.size + 3, wd.heap.size + 1) _ ⟨hHeld, fun i => wd.heap.size + ([2, 0, 3, 1] : List Nat).getD i 0, rfl, four0 wd (fun i => ([2, 0, 3, 1] : List Nat).getD i 0) (by decide) (by decide)⟩)
        · skip
          refine value_ (w1 := ?_) (v := ?_) (by rfl) rfl ?_ ?_
          rotate_left 2
          · go_simp
            constructor
            · rfl
            · rfl
          refine hK.out _ _ (cell_to (below_alloc (Below.refl _ _) _) hHeld) (fun hHeld => ?_)
          clear hK K
          refine norm_ (a' := ?_) ?_ ?_
          rotate_left
          · show Act.put _ (some 12) _ = _
            simp only [Act.put, List.setIfInBounds_toArray, List.set_cons_zero, List.set_cons_succ, i64_w, i32_w]
            rfl
          refine one_ (i := 0) (N := some 10) #[true, true, true, true, false, true, true, true, true, true, false, false] rfl rfl (one_of HT_.out (by kernel_rfl)) (by decide) (fun K hK => ?_)
          refine value_ (w1 := ?_) (v := ?_) (by rfl) rfl ?_ ?_
          rotate_left 2
          · go_simp
            constructor
            · rfl
            · rfl
          refine hK.out _ _ (cell_to (below_alloc (Below.refl _ _) _) hHeld) (fun hHeld => ?_)
          clear hK K
          refine norm_ (a' := ?_) ?_ ?_
          rotate_left
          · show Act.put _ (some 10) _ = _
            simp only [Act.put, List.setIfInBounds_toArray, List.set_cons_zero, List.set_cons_succ, i64_w, i32_w]
            rfl
          exact norm_ (by first | (simp only [putAll, Act.put, List.setIfInBounds_toArray, List.set_cons_zero, List.set_cons_succ]; done) | (simp only [putAll, Act.put, List.setIfInBounds_toArray, List.set_cons_zero, List.set_cons_succ]; rfl)) (hCont (wd.heap.size + 3, wd.heap.size + 0, wd.heap.size + 2, wd.heap.size + 1) _ ⟨hHeld, fun i => wd.heap.size + ([3, 0, 2, 1] : List Nat).getD i 0, rfl, four0 wd (fun i => ([3, 0, 2, 1] : List Nat).getD i 0) (by decide) (by decide)⟩)
    · skip
      refine value_ (w1 := ?_) (v := ?_) (by rfl) rfl ?_ ?_
      rotate_left 2
      · go_simp
        constructor
        · rfl
        · rfl
      refine hK.out _ _ (cell_to (below_alloc (Below.refl _ _) _) hHeld) (fun hHeld => ?_)
      clear hK K
      refine norm_ (a' := ?_) ?_ ?_
      rotate_left
      · show Act.put _ (some 12) _ = _
        simp only [Act.put, List.setIfInBounds_toArray, List.set_cons_zero, List.set_cons_succ, i64_w, i32_w]
        rfl
      refine three_ (i := 0) (j := 1) (k := 3) (Ni := some 10) (Nj := some 11) (Nk := some 13) #[true, false, true, false, false, true, true, true, true, true, false, false] #[false, true, true, false, false, true, true, true, true, true, false, false] #[false, false, true, true, false, true, true, true, true, true, false, false] rfl rfl rfl rfl rfl rfl (three_of HT_.out (by kernel_rfl)) (by decide) (by decide) (by decide) (fun K hK => ?_) (fun K hK => ?_) (fun K hK => ?_)
      · skip
        refine value_ (w1 := ?_) (v := ?_) (by rfl) rfl ?_ ?_
        rotate_left 2
        · go_simp
          constructor
          · rfl
          · rfl
        refine hK.out _ _ (cell_to (below_alloc (Below.refl _ _) _) hHeld) (fun hHeld => ?_)
        clear hK K
        refine norm_ (a' := ?_) ?_ ?_
        rotate_left
        · show Act.put _ (some 10) _ = _
          simp only [Act.put, List.setIfInBounds_toArray, List.set_cons_zero, List.set_cons_succ, i64_w, i32_w]
          rfl
        refine two_ (i := 1) (j := 3) (Ni := some 11) (Nj := some 13) #[true, true, true, false, false, true, true, true, true, true, false, false] #[true, false, true, true, false, true, true, true, true, true, false, false] rfl rfl rfl rfl (two_of HT_.out (by kernel_rfl)) (by decide) (by decide) (fun K hK => ?_) (fun K hK => ?_)
        · skip
          refine value_ (w1 := ?_) (v := ?_) (by rfl) rfl ?_ ?_
          rotate_left 2
          · go_simp
            constructor
            · rfl
            · rfl
          refine hK.out _ _ (cell_to (below_alloc (Below.refl _ _) _) hHeld) (fun hHeld => ?_)
          clear hK K
          refine norm_ (a' := ?_) ?_ ?_
          rotate_left
          · show Act.put _ (some 11) _ = _
            simp only [Act.put, List.setIfInBounds_toArray, List.set_cons_zero, List.set_cons_succ, i64_w, i32_w]
            rfl
          refine one_ (i := 3) (N := some 13) #[true, true, true, true, false, true, true, true, true, true, false, false] rfl rfl (one_of HT_.out (by kernel_rfl)) (by decide) (fun K hK => ?_)
          refine value_ (w1 := ?_) (v := ?_) (by rfl) rfl ?_ ?_
          rotate_left 2
          · go_simp
            constructor
            · rfl
            · rfl
          refine hK.out _ _ (cell_to (below_alloc (Below.refl _ _) _) hHeld) (fun hHeld => ?_)
          clear hK K
          refine norm_ (a' := ?_) ?_ ?_
          rotate_left
          · show Act.put _ (some 13) _ = _
            simp only [Act.put, List.setIfInBounds_toArray, List.set_cons_zero, List.set_cons_succ, i64_w, i32_w]
            rfl
          exact norm_ (by first | (simp only [putAll, Act.put, List.setIfInBounds_toArray, List.set_cons_zero, List.set_cons_succ]; done) | (simp only [putAll, Act.put, List.setIfInBounds_toArray, List.set_cons_zero, List.set_cons_succ]; rfl)) (hCont (wd.heap.size + 1, wd.heap.size + 2, wd.heap.size + 0, wd.heap.size + 3) _ ⟨hHeld, fun i => wd.heap.size + ([1, 2, 0, 3] : List Nat).getD i 0, rfl, four0 wd (fun i => ([1, 2, 0, 3] : List Nat).getD i 0) (by decide) (by decide)⟩)
        · skip
          refine value_ (w1 := ?_) (v := ?_) (by rfl) rfl ?_ ?_
          rotate_left 2
          · go_simp
            constructor
            · rfl
            · rfl
          refine hK.out _ _ (cell_to (below_alloc (Below.refl _ _) _) hHeld) (fun hHeld => ?_)
          clear hK K
          refine norm_ (a' := ?_) ?_ ?_
          rotate_left
          · show Act.put _ (some 13) _ = _
            simp only [Act.put, List.setIfInBounds_toArray, List.set_cons_zero, List.set_cons_succ, i64_w, i32_w]
            rfl
          refine one_ (i := 1) (N := some 11) #[true, true, true, true, false, true, true, true, true, true, false, false] rfl rfl (one_of HT_.out (by kernel_rfl)) (by decide) (fun K hK => ?_)
          refine value_ (w1 := ?_) (v := ?_) (by rfl) rfl ?_ ?_
          rotate_left 2
          · go_simp
            constructor
            · rfl
            · rfl
          refine hK.out _ _ (cell_to (below_alloc (Below.refl _ _) _) hHeld) (fun hHeld => ?_)
          clear hK K
          refine norm_ (a' := ?_) ?_ ?_
          rotate_left
          · show Act.put _ (some 11) _ = _
            simp only [Act.put, List.setIfInBounds_toArray, List.set_cons_zero, List.set_cons_succ, i64_w, i32_w]
            rfl
          exact norm_ (by first | (simp only [putAll, Act.put, List.setIfInBounds_toArray, List.set_cons_zero, List.set_cons_succ]; done) | (simp only [putAll, Act.put, List.setIfInBounds_toArray, List.set_cons_zero, List.set_cons_succ]; rfl)) (hCont (wd.heap.size + 1, wd.heap.size + 3, wd.heap.size + 0, wd.heap.size + 2) _ ⟨hHeld, fun i => wd.heap.size + ([1, 3, 0, 2] : List Nat).getD i 0, rfl, four0 wd (fun i => ([1, 3, 0, 2] : List Nat).getD i 0) (by decide) (by decide)⟩)
      · skip
        refine value_ (w1 := ?_) (v := ?_) (by rfl) rfl ?_ ?_
        rotate_left 2
        · go_simp
          constructor
          · rfl
          · rfl
        refine hK.out _ _ (cell_to (below_alloc (Below.refl _ _) _) hHeld) (fun hHeld => ?_)
        clear hK K
        refine norm_ (a' := ?_) ?_ ?_
        rotate_left
        · show Act.put _ (some 11) _ = _
          simp only [Act.put, List.setIfInBounds_toArray, List.set_cons_zero, List.set_cons_succ, i64_w, i32_w]
          rfl
        refine two_ (i := 0) (j := 3) (Ni := some 10) (Nj := some 13) #[true, true, true, false, false, true, true, true, true, true, false, false] #[false, true, true, true, false, true, true, true, true, true, false, false] rfl rfl rfl rfl (two_of HT_.out (by kernel_rfl)) (by decide) (by decide) (fun K hK => ?_) (fun K hK => ?_)
        · skip
          refine value_ (w1 := ?_) (v := ?_) (by rfl) rfl ?_ ?_
          rotate_left 2
          · go_simp
            constructor
            · rfl
            · rfl
          refine hK.out _ _ (cell_to (below_alloc (Below.refl _ _) _) hHeld) (fun hHeld => ?_)
          clear hK K
          refine norm_ (a' := ?_) ?_ ?_
          rotate_left
          · show Act.put _ (some 10) _ = _
            simp only [Act.put, List.setIfInBounds_toArray, List.set_cons_zero, List.set_cons_succ, i64_w, i32_w]
            rfl
          refine one_ (i := 3) (N := some 13) #[true, true, true, true, false, true, true, true, true, true, false, false] rfl rfl (one_of HT_.out (by kernel_rfl)) (by decide) (fun K hK => ?_)
          refine value_ (w1 := ?_) (v := ?_) (by rfl) rfl ?_ ?_
          rotate_left 2
          · go_simp
            constructor
            · rfl
            · rfl
          refine hK.out _ _ (cell_to (below_alloc (Below.refl _ _) _) hHeld) (fun hHeld => ?_)
          clear hK K
          refine norm_ (a' := ?_) ?_ ?_
          rotate_left
          · show Act.put _ (some 13) _ = _
            simp only [Act.put, List.setIfInBounds_toArray, List.set_cons_zero, List.set_cons_succ, i64_w, i32_w]
            rfl
          exact norm_ (by first | (simp only [putAll, Act.put, List.setIfInBounds_toArray, List.set_cons_zero, List.set_cons_succ]; done) | (simp only [putAll, Act.put, List.setIfInBounds_toArray, List.set_cons_zero, List.set_cons_succ]; rfl)) (hCont (wd.heap.size + 2, wd.heap.size + 1, wd.heap.size + 0, wd.heap.size + 3) _ ⟨hHeld, fun i => wd.heap.size + ([2, 1, 0, 3] : List Nat).getD i 0, rfl, four0 wd (fun i => ([2, 1, 0, 3] : List Nat).getD i 0) (by decide) (by decide)⟩)
        · skip
          refine value_ (w1 := ?_) (v := ?_) (by rfl) rfl ?_ ?_
          rotate_left 2
          · go_simp
            constructor
            · rfl
            · rfl
          refine hK.out _ _ (cell_to (below_alloc (Below.refl _ _) _) hHeld) (fun hHeld => ?_)
          clear hK K
          refine norm_ (a' := ?_) ?_ ?_
          rotate_left
          · show Act.put _ (some 13) _ = _
            simp only [Act.put, List.setIfInBounds_toArray, List.set_cons_zero, List.set_cons_succ, i64_w, i32_w]
            rfl
          refine one_ (i := 0) (N := some 10) #[true, true, true, true, false, true, true, true, true, true, false, false] rfl rfl (one_of HT_.out (by kernel_rfl)) (by decide) (fun K hK => ?_)
          refine value_ (w1 := ?_) (v := ?_) (by rfl) rfl ?_ ?_
          rotate_left 2
          · go_simp
            constructor
            · rfl
            · rfl
          refine hK.out _ _ (cell_to (below_alloc (Below.refl _ _) _) hHeld) (fun hHeld => ?_)
          clear hK K
          refine norm_ (a' := ?_) ?_ ?_
          rotate_left
          · show Act.put _ (some 10) _ = _
            simp only [Act.put, List.setIfInBounds_toArray, List.set_cons_zero, List.set_cons_succ, i64_w, i32_w]
            rfl
          exact norm_ (by first | (simp only [putAll, Act.put, List.setIfInBounds_toArray, List.set_cons_zero, List.set_cons_succ]; done) | (simp only [putAll, Act.put, List.setIfInBounds_toArray, List.set_cons_zero, List.set_cons_succ]; rfl)) (hCont (wd.heap.size + 3, wd.heap.size + 1, wd.heap.size + 0, wd.heap.size + 2) _ ⟨hHeld, fun i => wd.heap.size + ([3, 1, 0, 2] : List Nat).getD i 0, rfl, four0 wd (fun i => ([3, 1, 0, 2] : List Nat).getD i 0) (by decide) (by decide)⟩)
      · skip
        refine value_ (w1 := ?_) (v := ?_) (by rfl) rfl ?_ ?_
        rotate_left 2
        · go_simp
          constructor
          · rfl
          · rfl
        refine hK.out _ _ (cell_to (below_alloc (Below.refl _ _) _) hHeld) (fun hHeld => ?_)
        clear hK K
        refine norm_ (a' := ?_) ?_ ?_
        rotate_left
        · show Act.put _ (some 13) _ = _
          simp only [Act.put, List.setIfInBounds_toArray, List.set_cons_zero, List.set_cons_succ, i64_w, i32_w]
          rfl
        refine two_ (i := 0) (j := 1) (Ni := some 10) (Nj := some 11) #[true, false, true, true, false, true, true, true, true, true, false, false] #[false, true, true, true, false, true, true, true, true, true, false, false] rfl rfl rfl rfl (two_of HT_.out (by kernel_rfl)) (by decide) (by decide) (fun K hK => ?_) (fun K hK => ?_)
        · skip
          refine value_ (w1 := ?_) (v := ?_) (by rfl) rfl ?_ ?_
          rotate_left 2
          · go_simp
            constructor
            · rfl
            · rfl
          refine hK.out _ _ (cell_to (below_alloc (Below.refl _ _) _) hHeld) (fun hHeld => ?_)
          clear hK K
          refine norm_ (a' := ?_) ?_ ?_
          rotate_left
          · show Act.put _ (some 10) _ = _
            simp only [Act.put, List.setIfInBounds_toArray, List.set_cons_zero, List.set_cons_succ, i64_w, i32_w]
            rfl
          refine one_ (i := 1) (N := some 11) #[true, true, true, true, false, true, true, true, true, true, false, false] rfl rfl (one_of HT_.out (by kernel_rfl)) (by decide) (fun K hK => ?_)
          refine value_ (w1 := ?_) (v := ?_) (by rfl) rfl ?_ ?_
          rotate_left 2
          · go_simp
            constructor
            · rfl
            · rfl
          refine hK.out _ _ (cell_to (below_alloc (Below.refl _ _) _) hHeld) (fun hHeld => ?_)
          clear hK K
          refine norm_ (a' := ?_) ?_ ?_
          rotate_left
          · show Act.put _ (some 11) _ = _
            simp only [Act.put, List.setIfInBounds_toArray, List.set_cons_zero, List.set_cons_succ, i64_w, i32_w]
            rfl
          exact norm_ (by first | (simp only [putAll, Act.put, List.setIfInBounds_toArray, List.set_cons_zero, List.set_cons_succ]; done) | (simp only [putAll, Act.put, List.setIfInBounds_toArray, List.set_cons_zero, List.set_cons_succ]; rfl)) (hCont (wd.heap.size + 2, wd.heap.size + 3, wd.heap.size + 0, wd.heap.size + 1) _ ⟨hHeld, fun i => wd.heap.size + ([2, 3, 0, 1] : List Nat).getD i 0, rfl, four0 wd (fun i => ([2, 3, 0, 1] : List Nat).getD i 0) (by decide) (by decide)⟩)
        · skip
          refine value_ (w1 := ?_) (v := ?_) (by rfl) rfl ?_ ?_
          rotate_left 2
          · go_simp
            constructor
            · rfl
            · rfl
          refine hK.out _ _ (cell_to (below_alloc (Below.refl _ _) _) hHeld) (fun hHeld => ?_)
          clear hK K
          refine norm_ (a' := ?_) ?_ ?_
          rotate_left
          · show Act.put _ (some 11) _ = _
            simp only [Act.put, List.setIfInBounds_toArray, List.set_cons_zero, List.set_cons_succ, i64_w, i32_w]
            rfl
          refine one_ (i := 0) (N := some 10) #[true, true, true, true, false, true, true, true, true, true, false, false] rfl rfl (one_of HT_.out (by kernel_rfl)) (by decide) (fun K hK => ?_)
          refine value_ (w1 := ?_) (v := ?_) (by rfl) rfl ?_ ?_
          rotate_left 2
          · go_simp
            constructor
            · rfl
            · rfl
          refine hK.out _ _ (cell_to (below_alloc (Below.refl _ _) _) hHeld) (fun hHeld => ?_)
          clear hK K
          refine norm_ (a' := ?_) ?_ ?_
          rotate_left
          · show Act.put _ (some 10) _ = _
            simp only [Act.put, List.setIfInBounds_toArray, List.set_cons_zero, List.set_cons_succ, i64_w, i32_w]
            rfl
          exact norm_ (by first | (simp only [putAll, Act.put, List.setIfInBounds_toArray, List.set_cons_zero, List.set_cons_succ]; done) | (simp only [putAll, Act.put, List.setIfInBounds_toArray, List.set_cons_zero, List.set_cons_succ]; rfl)) (hCont (wd.heap.size + 3, wd.heap.size + 2, wd.heap.size + 0, wd.heap.size + 1) _ ⟨hHeld, fun i => wd.heap.size + ([3, 2, 0, 1] : List Nat).getD i 0, rfl, four0 wd (fun i => ([3, 2, 0, 1] : List Nat).getD i 0) (by decide) (by decide)⟩)
    · skip
      refine value_ (w1 := ?_) (v := ?_) (by rfl) rfl ?_ ?_
      rotate_left 2
      · go_simp
        constructor
        · rfl
        · rfl
      refine hK.out _ _ (cell_to (below_alloc (Below.refl _ _) _) hHeld) (fun hHeld => ?_)
      clear hK K
      refine norm_ (a' := ?_) ?_ ?_
      rotate_left
      · show Act.put _ (some 13) _ = _
        simp only [Act.put, List.setIfInBounds_toArray, List.set_cons_zero, List.set_cons_succ, i64_w, i32_w]
        rfl
      refine three_ (i := 0) (j := 1) (k := 2) (Ni := some 10) (Nj := some 11) (Nk := some 12) #[true, false, false, true, false, true, true, true, true, true, false, false] #[false, true, false, true, false, true, true, true, true, true, false, false] #[false, false, true, true, false, true, true, true, true, true, false, false] rfl rfl rfl rfl rfl rfl (three_of HT_.out (by kernel_rfl)) (by decide) (by decide) (by decide) (fun K hK => ?_) (fun K hK => ?_) (fun K hK => ?_)
      · skip
        refine value_ (w1 := ?_) (v := ?_) (by rfl) rfl ?_ ?_
        rotate_left 2
        · go_simp
          constructor
          · rfl
          · rfl
        refine hK.out _ _ (cell_to (below_alloc (Below.refl _ _) _) hHeld) (fun hHeld => ?_)
        clear hK K
        refine norm_ (a' := ?_) ?_ ?_
        rotate_left
        · show Act.put _ (some 10) _ = _
          simp only [Act.put, List.setIfInBounds_toArray, List.set_cons_zero, List.set_cons_succ, i64_w, i32_w]
          rfl
        refine two_ (i := 1) (j := 2) (Ni := some 11) (Nj := some 12) #[true, true, false, true, false, true, true, true, true, true, false, false] #[true, false, true, true, false, true, true, true, true, true, false, false] rfl rfl rfl rfl (two_of HT_.out (by kernel_rfl)) (by decide) (by decide) (fun K hK => ?_) (fun K hK => ?_)
        · skip
          refine value_ (w1 := ?_) (v := ?_) (by rfl) rfl ?_ ?_
          rotate_left 2
          · go_simp
            constructor
            · rfl
            · rfl
          refine hK.out _ _ (cell_to (below_alloc (Below.refl _ _) _) hHeld) (fun hHeld => ?_)
          clear hK K
          refine norm_ (a' := ?_) ?_ ?_
          rotate_left
          · show Act.put _ (some 11) _ = _
            simp only [Act.put, List.setIfInBounds_toArray, List.set_cons_zero, List.set_cons_succ, i64_w, i32_w]
            rfl
          refine one_ (i := 2) (N := some 12) #[true, true, true, true, false, true, true, true, true, true, false, false] rfl rfl (one_of HT_.out (by kernel_rfl)) (by decide) (fun K hK => ?_)
          refine value_ (w1 := ?_) (v := ?_) (by rfl) rfl ?_ ?_
          rotate_left 2
          · go_simp
            constructor
            · rfl
            · rfl
          refine hK.out _ _ (cell_to (below_alloc (Below.refl _ _) _) hHeld) (fun hHeld => ?_)
          clear hK K
          refine norm_ (a' := ?_) ?_ ?_
          rotate_left
          · show Act.put _ (some 12) _ = _
            simp only [Act.put, List.setIfInBounds_toArray, List.set_cons_zero, List.set_cons_succ, i64_w, i32_w]
            rfl
          exact norm_ (by first | (simp only [putAll, Act.put, List.setIfInBounds_toArray, List.set_cons_zero, List.set_cons_succ]; done) | (simp only [putAll, Act.put, List.setIfInBounds_toArray, List.set_cons_zero, List.set_cons_succ]; rfl)) (hCont (wd.heap.size + 1, wd.heap.size + 2, wd.heap.size + 3, wd.heap.size + 0) _ ⟨hHeld, fun i => wd.heap.size + ([1, 2, 3, 0] : List Nat).getD i 0, rfl, four0 wd (fun i => ([1, 2, 3, 0] : List Nat).getD i 0) (by decide) (by decide)⟩)
        · skip
          refine value_ (w1 := ?_) (v := ?_) (by rfl) rfl ?_ ?_
          rotate_left 2
          · go_simp
            constructor
            · rfl
            · rfl
          refine hK.out _ _ (cell_to (below_alloc (Below.refl _ _) _) hHeld) (fun hHeld => ?_)
          clear hK K
          refine norm_ (a' := ?_) ?_ ?_
          rotate_left
          · show Act.put _ (some 12) _ = _
            simp only [Act.put, List.setIfInBounds_toArray, List.set_cons_zero, List.set_cons_succ, i64_w, i32_w]
            rfl
          refine one_ (i := 1) (N := some 11) #[true, true, true, true, false, true, true, true, true, true, false, false] rfl rfl (one_of HT_.out (by kernel_rfl)) (by decide) (fun K hK => ?_)
          refine value_ (w1 := ?_) (v := ?_) (by rfl) rfl ?_ ?_
          rotate_left 2
          · go_simp
            constructor
            · rfl
            · rfl
          refine hK.out _ _ (cell_to (below_alloc (Below.refl _ _) _) hHeld) (fun hHeld => ?_)
          clear hK K
          refine norm_ (a' := ?_) ?_ ?_
          rotate_left
          · show Act.put _ (some 11) _ = _
            simp only [Act.put, List.setIfInBounds_toArray, List.set_cons_zero, List.set_cons_succ, i64_w, i32_w]
            rfl
          exact norm_ (by first | (simp only [putAll, Act.put, List.setIfInBounds_toArray, List.set_cons_zero, List.set_cons_succ]; done) | (simp only [putAll, Act.put, List.setIfInBounds_toArray, List.set_cons_zero, List.set_cons_succ]; rfl)) (hCont (wd.heap.size + 1, wd.heap.size + 3, wd.heap.size + 2, wd.heap.size + 0) _ ⟨hHeld, fun i => wd.heap.size + ([1, 3, 2, 0] : List Nat).getD i 0, rfl, four0 wd (fun i => ([1, 3, 2, 0] : List Nat).getD i 0) (by decide) (by decide)⟩)
      · skip
        refine value_ (w1 := ?_) (v := ?_) (by rfl) rfl ?_ ?_
        rotate_left 2
        · go_simp
          constructor
          · rfl
          · rfl
        refine hK.out _ _ (cell_to (below_alloc (Below.refl _ _) _) hHeld) (fun hHeld => ?_)
        clear hK K
        refine norm_ (a' := ?_) ?_ ?_
        rotate_left
        · show Act.put _ (some 11) _ = _
          simp only [Act.put, List.setIfInBounds_toArray, List.set_cons_zero, List.set_cons_succ, i64_w, i32_w]
          rfl
        refine two_ (i := 0) (j := 2) (Ni := some 10) (Nj := some 12) #[true, true, false, true, false, true, true, true, true, true, false, false] #[false, true, true, true, false, true, true, true, true, true, false, false] rfl rfl rfl rfl (two_of HT_.out (by kernel_rfl)) (by decide) (by decide) (fun K hK => ?_) (fun K hK => ?_)
        · skip
          refine value_ (w1 := ?_) (v := ?_) (by rfl) rfl ?_ ?_
          rotate_left 2
          · go_simp
            constructor
            · rfl
            · rfl
          refine hK.out _ _ (cell_to (below_alloc (Below.refl _ _) _) hHeld) (fun hHeld => ?_)
          clear hK K
          refine norm_ (a' := ?_) ?_ ?_
          rotate_left
          · show Act.put _ (some 10) _ = _
            simp only [Act.put, List.setIfInBounds_toArray, List.set_cons_zero, List.set_cons_succ, i64_w, i32_w]
            rfl
          refine one_ (i := 2) (N := some 12) #[true, true, true, true, false, true, true, true, true, true, false, false] rfl rfl (one_of HT_.out (by kernel_rfl)) (by decide) (fun K hK => ?_)
          refine value_ (w1 := ?_) (v := ?_) (by rfl) rfl ?_ ?_
          rotate_left 2
          · go_simp
            constructor
            · rfl
            · rfl
          refine hK.out _ _ (cell_to (below_alloc (Below.refl _ _) _) hHeld) (fun hHeld => ?_)
          clear hK K
          refine norm_ (a' := ?_) ?_ ?_
          rotate_left
          · show Act.put _ (some 12) _ = _
            simp only [Act.put, List.setIfInBounds_toArray, List.set_cons_zero, List.set_cons_succ, i64_w, i32_w]
            rfl
          exact norm_ (by first | (simp only [putAll, Act.put, List.setIfInBounds_toArray, List.set_cons_zero, List.set_cons_succ]; done) | (simp only [putAll, Act.put, List.setIfInBounds_toArray, List.set_cons_zero, List.set_cons_succ]; rfl)) (hCont (wd.heap.size + 2, wd.heap.size + 1, wd.heap.size + 3, wd.heap.size + 0) _ ⟨hHeld, fun i => wd.heap.size + ([2, 1, 3, 0] : List Nat).getD i 0, rfl, four0 wd (fun i => ([2, 1, 3, 0] : List Nat).getD i 0) (by decide) (by decide)⟩)
        · skip
          refine value_ (w1 := ?_) (v := ?_) (by rfl) rfl ?_ ?_
          rotate_left 2
          · go_simp
            constructor
            · rfl
            · rfl
          refine hK.out _ _ (cell_to (below_alloc (Below.refl _ _) _) hHeld) (fun hHeld => ?_)
          clear hK K
          refine norm_ (a' := ?_) ?_ ?_
          rotate_left
          · show Act.put _ (some 12) _ = _
            simp only [Act.put, List.setIfInBounds_toArray, List.set_cons_zero, List.set_cons_succ, i64_w, i32_w]
            rfl
          refine one_ (i := 0) (N := some 10) #[true, true, true, true, false, true, true, true, true, true, false, false] rfl rfl (one_of HT_.out (by kernel_rfl)) (by decide) (fun K hK => ?_)
          refine value_ (w1 := ?_) (v := ?_) (by rfl) rfl ?_ ?_
          rotate_left 2
          · go_simp
            constructor
            · rfl
            · rfl
          refine hK.out _ _ (cell_to (below_alloc (Below.refl _ _) _) hHeld) (fun hHeld => ?_)
          clear hK K
          refine norm_ (a' := ?_) ?_ ?_
          rotate_left
          · show Act.put _ (some 10) _ = _
            simp only [Act.put, List.setIfInBounds_toArray, List.set_cons_zero, List.set_cons_succ, i64_w, i32_w]
            rfl
          exact norm_ (by first | (simp only [putAll, Act.put, List.setIfInBounds_toArray, List.set_cons_zero, List.set_cons_succ]; done) | (simp only [putAll, Act.put, List.setIfInBounds_toArray, List.set_cons_zero, List.set_cons_succ]; rfl)) (hCont (wd.heap.size + 3, wd.heap.size + 1, wd.heap.size + 2, wd.heap.size + 0) _ ⟨hHeld, fun i => wd.heap.size + ([3, 1, 2, 0] : List Nat).getD i 0, rfl, four0 wd (fun i => ([3, 1, 2, 0] : List Nat).getD i 0) (by decide) (by decide)⟩)
      · skip
        refine value_ (w1 := ?_) (v := ?_) (by rfl) rfl ?_ ?_
        rotate_left 2
        · go_simp
          constructor
          · rfl
          · rfl
        refine hK.out _ _ (cell_to (below_alloc (Below.refl _ _) _) hHeld) (fun hHeld => ?_)
        clear hK K
        refine norm_ (a' := ?_) ?_ ?_
        rotate_left
        · show Act.put _ (some 12) _ = _
          simp only [Act.put, List.setIfInBounds_toArray, List.set_cons_zero, List.set_cons_succ, i64_w, i32_w]
          rfl
        refine two_ (i := 0) (j := 1) (Ni := some 10) (Nj := some 11) #[true, false, true, true, false, true, true, true, true, true, false, false] #[false, true, true, true, false, true, true, true, true, true, false, false] rfl rfl rfl rfl (two_of HT_.out (by kernel_rfl)) (by decide) (by decide) (fun K hK => ?_) (fun K hK => ?_)
        · skip
          refine value_ (w1 := ?_) (v := ?_) (by rfl) rfl ?_ ?_
          rotate_left 2
          · go_simp
            constructor
            · rfl
            · rfl
          refine hK.out _ _ (cell_to (below_alloc (Below.refl _ _) _) hHeld) (fun hHeld => ?_)
          clear hK K
          refine norm_ (a' := ?_) ?_ ?_
          rotate_left
          · show Act.put _ (some 10) _ = _
            simp only [Act.put, List.setIfInBounds_toArray, List.set_cons_zero, List.set_cons_succ, i64_w, i32_w]
            rfl
          refine one_ (i := 1) (N := some 11) #[true, true, true, true, false, true, true, true, true, true, false, false] rfl rfl (one_of HT_.out (by kernel_rfl)) (by decide) (fun K hK => ?_)
          refine value_ (w1 := ?_) (v := ?_) (by rfl) rfl ?_ ?_
          rotate_left 2
          · go_simp
            constructor
            · rfl
            · rfl
          refine hK.out _ _ (cell_to (below_alloc (Below.refl _ _) _) hHeld) (fun hHeld => ?_)
          clear hK K
          refine norm_ (a' := ?_) ?_ ?_
          rotate_left
          · show Act.put _ (some 11) _ = _
            simp only [Act.put, List.setIfInBounds_toArray, List.set_cons_zero, List.set_cons_succ, i64_w, i32_w]
            rfl
          exact norm_ (by first | (simp only [putAll, Act.put, List.setIfInBounds_toArray, List.set_cons_zero, List.set_cons_succ]; done) | (simp only [putAll, Act.put, List.setIfInBounds_toArray, List.set_cons_zero, List.set_cons_succ]; rfl)) (hCont (wd.heap.size + 2, wd.heap.size + 3, wd.heap.size + 1, wd.heap.size + 0) _ ⟨hHeld, fun i => wd.heap.size + ([2, 3, 1, 0] : List Nat).getD i 0, rfl, four0 wd (fun i => ([2, 3, 1, 0] : List Nat).getD i 0) (by decide) (by decide)⟩)
        · skip
          refine value_ (w1 := ?_) (v := ?_) (by rfl) rfl ?_ ?_
          rotate_left 2
          · go_simp
            constructor
            · rfl
            · rfl
          refine hK.out _ _ (cell_to (below_alloc (Below.refl _ _) _) hHeld) (fun hHeld => ?_)
          clear hK K
          refine norm_ (a' := ?_) ?_ ?_
          rotate_left
          · show Act.put _ (some 11) _ = _
            simp only [Act.put, List.setIfInBounds_toArray, List.set_cons_zero, List.set_cons_succ, i64_w, i32_w]
            rfl
          refine one_ (i := 0) (N := some 10) #[true, true, true, true, false, true, true, true, true, true, false, false] rfl rfl (one_of HT_.out (by kernel_rfl)) (by decide) (fun K hK => ?_)
          refine value_ (w1 := ?_) (v := ?_) (by rfl) rfl ?_ ?_
          rotate_left 2
          · go_simp
            constructor
            · rfl
            · rfl
          refine hK.out _ _ (cell_to (below_alloc (Below.refl _ _) _) hHeld) (fun hHeld => ?_)
          clear hK K
          refine norm_ (a' := ?_) ?_ ?_
          rotate_left
          · show Act.put _ (some 10) _ = _
            simp only [Act.put, List.setIfInBounds_toArray, List.set_cons_zero, List.set_cons_succ, i64_w, i32_w]
            rfl
          exact norm_ (by first | (simp only [putAll, Act.put, List.setIfInBounds_toArray, List.set_cons_zero, List.set_cons_succ]; done) | (simp only [putAll, Act.put, List.setIfInBounds_toArray, List.set_cons_zero, List.set_cons_succ]; rfl)) (hCont (wd.heap.size + 3, wd.heap.size + 2, wd.heap.size + 1, wd.heap.size + 0) _ ⟨hHeld, fun i => wd.heap.size + ([3, 2, 1, 0] : List Nat).getD i 0, rfl, four0 wd (fun i => ([3, 2, 1, 0] : List Nat).getD i 0) (by decide) (by decide)⟩)
  rintro _ w4 ⟨hHeld, b, rfl, HF⟩
  refine norm_ (a' := ?_) ?_ ?_
  rotate_left
  · simp only [putAll, Act.put, List.setIfInBounds_toArray, List.set_cons_zero, List.set_cons_succ]
    rfl
  refine one_ (i := 4) (N := some 14) #[true, true, true, true, true, true, true, true, true, true, false, false] rfl rfl (one_of HT_.out (by kernel_rfl)) (by decide) (fun K hK => ?_)
  refine value_ (w1 := ?_) (v := ?_) (by rfl) rfl ?_ ?_
  rotate_left 2
  · go_simp
    constructor
    · rfl
    · rfl
  refine hK.out _ _ (cell_to (below_alloc (Below.refl _ _) _) hHeld) (fun hHeld => ?_)
  clear hK K
  refine norm_ (a' := ?_) ?_ ?_
  rotate_left
  · show Act.put _ (some 14) _ = _
    simp only [Act.put, List.setIfInBounds_toArray, List.set_cons_zero, List.set_cons_succ, i64_w, i32_w]
    rfl
  refine pure_ (i := 10) (N := some 5) (v := ?_) (a' := ?_) #[true, true, true, true, true, true, true, true, true, true, true, false] rfl rfl (any_of HT_.out (by kernel_rfl)) (fun _ _ _ h => h) (Or.inl ⟨by rfl, ?_⟩) ?_ ?_
  rotate_left
  · intro w'
    go_simp
    with_reducible rfl
  rotate_left
  · simp only [Act.put, List.setIfInBounds_toArray, List.set_cons_zero, List.set_cons_succ, i64_w, i32_w]
    rfl
  refine pure_ (i := 11) (N := some 6) (v := ?_) (a' := ?_) #[true, true, true, true, true, true, true, true, true, true, true, true] rfl rfl (any_of HT_.out (by kernel_rfl)) (fun _ _ _ h => h) (Or.inl ⟨by rfl, ?_⟩) ?_ ?_
  rotate_left
  · intro w'
    go_simp
    with_reducible rfl
  rotate_left
  · simp only [Act.put, List.setIfInBounds_toArray, List.set_cons_zero, List.set_cons_succ, i64_w, i32_w]
    rfl
  refine done_ (done_of HT_.out (by kernel_rfl)) ?_

  rw [wrapN k1 (by omega)]
  have bO := bB1.below (HF.be.trans ((below_alloc (Below.refl _ _) (.cells #[.slice (some ⟨b 0, 0, none⟩) 0 0, .slice (some ⟨b 1, 0, none⟩) 0 0, .slice (some ⟨b 2, 0, none⟩) 0 0, .slice (some ⟨b 3, 0, none⟩) 0 0] 46)).mono HF.be.size)) bB1.lt
  have hO : O4 w (w4.alloc (.cells #[.slice (some ⟨b 0, 0, none⟩) 0 0, .slice (some ⟨b 1, 0, none⟩) 0 0, .slice (some ⟨b 2, 0, none⟩) 0 0, .slice (some ⟨b 3, 0, none⟩) 0 0] 46)) w4.heap.size (fun i => .slice (some ⟨b i, 0, none⟩) 0 0) (fun _ => []) :=
    O4.start b (BK.new _ _ _) (Nat.le_trans HE1.out.size HF.be.size) (fun i hi => ⟨((below_alloc (Below.refl _ _) _).block _ (blk_lt (HF.row i hi).1)).trans (HF.row i hi).1, Nat.le_trans HE1.out.size (HF.row i hi).2⟩) (fun i j hi hj h => HF.ne i hi j hj h) (below_alloc (below_to HE1.out HF.be) _)
  have hO := (show (fun _ => [] : Nat → List Int) = LL ts xs k1 m1 0 0 by funext i; match i with | 0 => rfl | 1 => rfl | 2 => rfl | 3 => rfl | _ + 4 => rfl) ▸ hO
  generalize w4.alloc (.cells #[.slice (some ⟨b 0, 0, none⟩) 0 0, .slice (some ⟨b 1, 0, none⟩) 0 0, .slice (some ⟨b 2, 0, none⟩) 0 0, .slice (some ⟨b 3, 0, none⟩) 0 0] 46) = w5 at hO bO hHeld ⊢
  generalize w4.heap.size = g at hO ⊢
  generalize (fun i => Value.slice (some ⟨b i, 0, none⟩) 0 0 : Nat → Value) = V0 at hO
  have HO0 := Lib.hid hO; have HBX := Lib.hid bO
  clear HF bB1 HE1 hO bO hHeld HT_ HW_
  go_wp2_with fail
  go_loopw [22] (fun i wr => ∃ y : Nat, y ≤ m1 + 1 ∧ i = .int .i64 y ∧ ∃ V, O4 w wr g V (LL ts xs k1 m1 y 0) ∧ BK wr w.heap.size #[.int .i64 C, .slice A n c] 32) (fun i _ => m1 + 1 - (intOf i).toNat)
  case atStart => exact ⟨0, by omega, rfl, _, HO0.out, HBX.out⟩
  case round =>
    obtain ⟨y, hy, rfl, V, hO, bB⟩ := hrel
    have HO := Lib.hid hO; have HBB := Lib.hid bB; clear hO bB
    by_cases hlt : y < m1 + 1
    · have HY := Lib.hid (show y < xs.length by have := HM.out; omega)
      have i1 : (y : Int) < (m1 : Int) + 1 := by omega
      obtain ⟨b, o, Ay, cy, hAe, -, hy0, hry, -, -⟩ := HA'.out y HY.out
      obtain ⟨rfl, rfl⟩ : b0 = b ∧ o0 = o := by injection hAe with e; injection e with e1 e2; exact ⟨e1, e2⟩
      rw [HLEN0.out y HY.out] at hy0
      obtain ⟨by_, oy, hAy, -, hn0⟩ := hry 0 (by show 0 < rowLen xs y; rw [HLEN0.out y HY.out]; omega)
      subst hAy
      obtain ⟨by2, oy2, hE2, -, hn1⟩ := hry k1 (by show k1 < rowLen xs y; rw [HLEN0.out y HY.out]; omega)
      obtain ⟨rfl, rfl⟩ : by_ = by2 ∧ oy = oy2 := by injection hE2 with e; injection e with e1 e2; exact ⟨e1, e2⟩
      obtain ⟨q, hq⟩ : ∃ q : Nat, cell xs y 0 = q := ⟨(cell xs y 0).toNat, by have := HT.out.lo y 0 HY.out (by have := HK.out; omega); omega⟩
      obtain ⟨p, hp⟩ : ∃ p : Nat, cell xs y k1 = p := ⟨(cell xs y k1).toNat, by have := HT.out.lo y k1 HY.out (by have := HK.out; omega); omega⟩
      have hql : q < ts.length := by have := HT.out.up y 0 HY.out (by have := HK.out; omega); omega
      have hpl : p < ts.length := by have := HT.out.up y k1 HY.out (by have := HK.out; omega); omega
      have i3 : (q : Int) < n := by have := HN.out; omega
      have i4 : (p : Int) < n := by have := HN.out; omega
      have i5 : (k1 : Int) < (k1 : Int) + 1 := by omega
      rw [show ik (rowAt xs y) 0 = (q : Int) from hq, Nat.add_zero] at hn0
      rw [show ik (rowAt xs y) k1 = (p : Int) from hp] at hn1
      obtain ⟨bt, ot, hAt, -, t0, -, -, -⟩ := HA.out q hql
      subst hAt
      obtain ⟨bt2, ot2, hE3, -, -, -, t2, -⟩ := HA.out p hpl
      obtain ⟨rfl, rfl⟩ : bt = bt2 ∧ ot = ot2 := by injection hE3 with e; injection e with e1 e2; exact ⟨e1, e2⟩
      have HQ := Lib.hid hq; have HP := Lib.hid hp
      clear hq hp hql hpl hry hAe hE2 hE3
      have e1 := cell_to HO.out.be hy0
      go_wp2_with fail
      clear e1
      have hW := (Below.refl wr.heap.size wr).drew
      have hO1 := HO.out.to hW; have b1x := HBB.out.below hW HBB.out.lt
      have HLEN := Lib.hid (show (LL ts xs k1 m1 y 0 0).length ≤ 8 by have := LL_len ts xs k1 m1 y 0 0; omega)
      clear hW HO HBB
      refine start_ (n := 16) (S := fun w' => w'.cell? ⟨w.heap.size, 1, none⟩ = some (.slice (some ⟨bt, ot, none⟩) n c) ∧ w'.cell? ⟨g, 0, none⟩ = some (V 0) ∧ w'.cell? ⟨by_, oy, none⟩ = some (.int .i64 q) ∧ w'.cell? ⟨bt, ot + q * 4, none⟩ = some (.int .i64 ((tk ts q).get 0))) (ds := [15]) #[false, false, false, false, false, false, false, false, false, false, false, false, false, false, false, false] (by kernel_rfl) rfl rfl ⟨b1x.cell rfl, (blk_cell hO1.bk 0).trans rfl, cell_to hO1.be hn0, cell_to hO1.be t0⟩ (fun hHeld => ?_)
      refine with_tabW borders_tab5 borders_bits5 (fun HT_ HW_ => ?_)
      generalize wr.drew = wd at hO1 b1x hHeld ⊢
      refine pure_ (i := 0) (N := some 26) (v := ?_) (a' := ?_) #[true, false, false, false, false, false, false, false, false, false, false, false, false, false, false, false] rfl rfl (any_of HT_.out (by kernel_rfl)) (fun _ _ _ h => h) (Or.inl ⟨by rfl, ?_⟩) ?_ ?_
      rotate_left
      · intro w'
        go_simp
        with_reducible rfl
      rotate_left
      · simp only [Act.put, List.setIfInBounds_toArray, List.set_cons_zero, List.set_cons_succ, i64_w, i32_w]
        rfl
      refine pure_ (i := 1) (N := some 27) (v := ?_) (a' := ?_) #[true, true, false, false, false, false, false, false, false, false, false, false, false, false, false, false] rfl rfl (any_of HT_.out (by kernel_rfl)) (fun _ _ _ h => h) (Or.inl ⟨by rfl, ?_⟩) ?_ ?_
      rotate_left
      · intro w'
        go_simp
        with_reducible rfl
      rotate_left
      · simp only [Act.put, List.setIfInBounds_toArray, List.set_cons_zero, List.set_cons_succ, i64_w, i32_w]
        rfl
      refine pure_ (i := 2) (N := some 28) (v := ?_) (a' := ?_) #[true, true, true, false, false, false, false, false, false, false, false, false, false, false, false, false] rfl rfl (any_of HT_.out (by kernel_rfl)) (fun _ _ _ h => h) (Or.inl ⟨by rfl, ?_⟩) ?_ ?_
      rotate_left
      · intro w'
        go_simp
        with_reducible rfl
      rotate_left
      · simp only [Act.put, List.setIfInBounds_toArray, List.set_cons_zero, List.set_cons_succ, i64_w, i32_w]
        rfl
      refine pure_ (i := 4) (N := some 30) (v := ?_) (a' := ?_) #[true, true, true, false, true, false, false, false, false, false, false, false, false, false, false, false] rfl rfl (any_of HT_.out (by kernel_rfl)) (fun _ _ _ h => h) (Or.inl ⟨by rfl, ?_⟩) ?_ ?_
      rotate_left
      · intro w'
        go_simp
        with_reducible rfl
      rotate_left
      · simp only [Act.put, List.setIfInBounds_toArray, List.set_cons_zero, List.set_cons_succ, i64_w, i32_w]
        rfl
      refine pure_ (i := 6) (N := some 32) (v := ?_) (a' := ?_) #[true, true, true, false, true, false, true, false, false, false, false, false, false, false, false, false] rfl rfl (any_of HT_.out (by kernel_rfl)) (fun _ _ _ h => h) (Or.inl ⟨by rfl, ?_⟩) ?_ ?_
      rotate_left
      · intro w'
        go_simp
        with_reducible rfl
      rotate_left
      · simp only [Act.put, List.setIfInBounds_toArray, List.set_cons_zero, List.set_cons_succ, i64_w, i32_w]
        rfl
      refine pure_ (i := 7) (N := some 33) (v := ?_) (a' := ?_) #[true, true, true, false, true, false, true, true, false, false, false, false, false, false, false, false] rfl rfl (any_of HT_.out (by kernel_rfl)) (fun _ _ _ h => h) (Or.inl ⟨by rfl, ?_⟩) ?_ ?_
      rotate_left
      · intro w'
        go_simp
        with_reducible rfl
      rotate_left
      · simp only [Act.put, List.setIfInBounds_toArray, List.set_cons_zero, List.set_cons_succ, i64_w, i32_w]
        rfl
      refine take_ (i := 3) (N := some 29) (v := ?_) (a' := ?_) #[true, true, true, true, true, false, true, true, false, false, false, false, false, false, false, false] rfl rfl (take_ofW HT_.out HW_.out (by kernel_rfl)) (fun _ _ _ h => h) (Or.inl ⟨by rfl, ?_⟩) hHeld ?_ ?_
      rotate_left
      · rintro w' ⟨s0, s1, s2, s3⟩
        go_simp
        with_reducible rfl
      rotate_left
      · simp only [Act.put, List.setIfInBounds_toArray, List.set_cons_zero, List.set_cons_succ, i64_w, i32_w]
        rfl
      refine take_ (i := 5) (N := some 31) (v := ?_) (a' := ?_) #[true, true, true, true, true, true, true, true, false, false, false, false, false, false, false, false] rfl rfl (take_ofW HT_.out HW_.out (by kernel_rfl)) (fun _ _ _ h => h) (Or.inl ⟨by rfl, ?_⟩) hHeld ?_ ?_
      rotate_left
      · rintro w' ⟨s0, s1, s2, s3⟩
        go_simp
        with_reducible rfl
      rotate_left
      · simp only [Act.put, List.setIfInBounds_toArray, List.set_cons_zero, List.set_cons_succ, i64_w, i32_w]
        rfl
      refine take_ (i := 8) (N := some 34) (v := ?_) (a' := ?_) #[true, true, true, true, true, true, true, true, true, false, false, false, false, false, false, false] rfl rfl (take_ofW HT_.out HW_.out (by kernel_rfl)) (fun _ _ _ h => h) (Or.inl ⟨by rfl, ?_⟩) hHeld ?_ ?_
      rotate_left
      · rintro w' ⟨s0, s1, s2, s3⟩
        go_simp
        with_reducible rfl
      rotate_left
      · simp only [Act.put, List.setIfInBounds_toArray, List.set_cons_zero, List.set_cons_succ, i64_w, i32_w]
        rfl
      refine pure_ (i := 9) (N := some 35) (v := ?_) (a' := ?_) #[true, true, true, true, true, true, true, true, true, true, false, false, false, false, false, false] rfl rfl (any_of HT_.out (by kernel_rfl)) (fun _ _ _ h => h) (Or.inl ⟨by rfl, ?_⟩) ?_ ?_
      rotate_left
      · intro w'
        go_simp
        with_reducible rfl
      rotate_left
      · simp only [Act.put, List.setIfInBounds_toArray, List.set_cons_zero, List.set_cons_succ, i64_w, i32_w]
        rfl
      refine pure_ (i := 10) (N := some 36) (v := ?_) (a' := ?_) #[true, true, true, true, true, true, true, true, true, true, true, false, false, false, false, false] rfl rfl (any_of HT_.out (by kernel_rfl)) (fun _ _ _ h => h) (Or.inl ⟨by rfl, ?_⟩) ?_ ?_
      rotate_left
      · intro w'
        go_simp
        with_reducible rfl
      rotate_left
      · simp only [Act.put, List.setIfInBounds_toArray, List.set_cons_zero, List.set_cons_succ, i64_w, i32_w]
        rfl
      refine take_ (i := 11) (N := some 37) (v := ?_) (a' := ?_) #[true, true, true, true, true, true, true, true, true, true, true, true, false, false, false, false] rfl rfl (take_ofW HT_.out HW_.out (by kernel_rfl)) (fun _ _ _ h => h) (Or.inl ⟨by rfl, ?_⟩) hHeld ?_ ?_
      rotate_left
      · rintro w' ⟨s0, s1, s2, s3⟩
        go_simp
        with_reducible rfl
      rotate_left
      · simp only [Act.put, List.setIfInBounds_toArray, List.set_cons_zero, List.set_cons_succ, i64_w, i32_w]
        rfl
      refine one_ (i := 12) (N := some 38) #[true, true, true, true, true, true, true, true, true, true, true, true, true, false, false, false] rfl rfl (one_of HT_.out (by kernel_rfl)) (by decide) (fun K hK => ?_)
      refine value_ (w1 := ?_) (v := ?_) (by rfl) rfl ?_ ?_
      rotate_left 2
      · go_simp
        constructor
        · rfl
        · rfl
      refine hK.out _ _ ⟨cell_to (below_alloc (Below.refl _ _) _) hHeld.1, cell_to (below_alloc (Below.refl _ _) _) hHeld.2.1, cell_to (below_alloc (Below.refl _ _) _) hHeld.2.2.1, cell_to (below_alloc (Below.refl _ _) _) hHeld.2.2.2⟩ (fun hHeld => ?_)
      clear hK K
      refine norm_ (a' := ?_) ?_ ?_
      rotate_left
      · show Act.put _ (some 38) _ = _
        simp only [Act.put, List.setIfInBounds_toArray, List.set_cons_zero, List.set_cons_succ, i64_w, i32_w]
        rfl
      refine one_ (i := 13) (N := some 39) #[true, true, true, true, true, true, true, true, true, true, true, true, true, true, false, false] rfl rfl (one_of HT_.out (by kernel_rfl)) (by decide) (fun K hK => ?_)
      refine Kd.R_append_step (Kd.int .i64) (w0 := w) w.heap.size (by rfl) (.tmp 29) (.tmp 38) 46 2 (.int .i64 0) 8 rfl Try.underlying46 info2 rfl (by decide) (by omega) (V 0) (LL ts xs k1 m1 y 0 0) ((tk ts q).get 0) [.int .i64 ((tk ts q).get 0)] (ok4 V 0) (fun _ => False) rfl rfl ?aP (fun _ hk => hk.elim) ?aF ?aO ?aB ?aS ?aL ?_
      (case aP => exact rfl)
      (case aF => exact fun k_ hk j hj hne => Kd.fresh' (Kd.R_lt (hO1.row j hj)) k_ hk)
      (case aO => exact hO1.row 0 (by omega))
      (case aB => exact hO1.be)
      (case aS => exact hO1.be.size)
      (case aL => have := HLEN.out; omega)
      intro v1 w28 ho hb hg hat
      obtain ⟨Ao, co, hv1⟩ : ∃ A_ c_, v1 = .slice A_ (LL ts xs k1 m1 y 0 0 ++ [(tk ts q).get 0]).length c_ := Kd.R_slice ho
      obtain ⟨n1, hn1_⟩ : ∃ k_, k_ = (LL ts xs k1 m1 y 0 0 ++ [(tk ts q).get 0]).length := ⟨_, rfl⟩
      rw [← hn1_] at hv1
      clear hn1_
      subst hv1
      have z0 : w28.cell? ⟨g, 0, none⟩ = some (V 0) := (blk_cell (blk_grown hO1.bk hg (Kd.R_ne (hO1.row 0 (by omega)) hO1.bk (by decide))) 0).trans rfl
      have f0 : w28.frozen? ⟨g, 0, none⟩ = false := blk_frozen (blk_grown hO1.bk hg (Kd.R_ne (hO1.row 0 (by omega)) hO1.bk (by decide))) 0
      have bx : BK w28 w.heap.size #[.int .i64 C, .slice (some ⟨bt, ot, none⟩) n c] 32 := blk_grown b1x hg (Kd.R_ne (hO1.row 0 (by omega)) b1x (by decide))
      refine hK.out _ _ ⟨bx.cell rfl, z0, cell_to hb hn0, cell_to hb t0⟩ (fun hHeld => ?_)
      clear hK K
      refine norm_ (a' := ?_) ?_ ?_
      rotate_left
      · show Act.put _ (some 39) _ = _
        simp only [Act.put, List.setIfInBounds_toArray, List.set_cons_zero, List.set_cons_succ, i64_w, i32_w]
        rfl
      refine pure_ (i := 14) (N := some 40) (v := ?_) (a' := ?_) #[true, true, true, true, true, true, true, true, true, true, true, true, true, true, true, false] rfl rfl (any_of HT_.out (by kernel_rfl)) (fun _ _ _ h => h) (Or.inl ⟨by rfl, ?_⟩) ?_ ?_
      rotate_left
      · intro w'
        go_simp
        with_reducible rfl
      rotate_left
      · simp only [Act.put, List.setIfInBounds_toArray, List.set_cons_zero, List.set_cons_succ, i64_w, i32_w]
        rfl
      refine last_ (i := 15) (N := none) #[true, true, true, true, true, true, true, true, true, true, true, true, true, true, true, true] rfl rfl (one_of HT_.out (by kernel_rfl)) (by decide) (fun K hK => ?_)
      refine skip_ (w1 := ?_) (by rfl) rfl ?_ ?_
      rotate_left
      · go_simp
        rfl
      refine hK.out _ _ ?_
      clear hK K
      refine done_ (done_of HT_.out (by kernel_rfl)) ?_

      have hO2 := hO1.app (i := 0) (by omega) ho hb hg hat
      have b2x : BK (w28.setCell ⟨g, 0, none⟩ (.slice Ao n1 co)) w.heap.size #[.int .i64 C, .slice (some ⟨bt, ot, none⟩) n c] 32 := blk_far bx (p := ⟨g, 0, none⟩) (blk_ne b1x hO1.bk (by decide)) (.slice Ao n1 co)
      generalize w28.setCell ⟨g, 0, none⟩ (.slice Ao n1 co) = w29 at hO2 b2x ⊢
      clear hHeld ho hb hg hat z0 f0 bx hO1 b1x HT_ HW_ HLEN
      generalize up4 V 0 (Value.slice Ao n1 co) = V1 at hO2
      go_wp2_with fail
      have hW := (Below.refl w29.heap.size w29).drew
      have hO1 := hO2.to hW; have b1x := b2x.below hW b2x.lt
      have HLEN := Lib.hid (show (up4 (LL ts xs k1 m1 y 0) 0 (LL ts xs k1 m1 y 0 0 ++ [(tk ts q).get 0]) 2).length ≤ 8 by rw [up4_ne _ _ (by decide)]; have := LL_len ts xs k1 m1 y 0 2; omega)
      clear hW hO2 b2x
      refine start_ (n := 17) (S := fun w' => w'.cell? ⟨w.heap.size, 1, none⟩ = some (.slice (some ⟨bt, ot, none⟩) n c) ∧ w'.cell? ⟨g, 2, none⟩ = some (V1 2) ∧ w'.cell? ⟨by_, oy + k1, none⟩ = some (.int .i64 p) ∧ w'.cell? ⟨bt, ot + p * 4 + 2, none⟩ = some (.int .i64 ((tk ts p).get 2))) (ds := [16]) #[false, false, false, false, false, false, false, false, false, false, false, false, false, false, false, false, false] (by kernel_rfl) rfl rfl ⟨b1x.cell rfl, (blk_cell hO1.bk 2).trans rfl, cell_to hO1.be hn1, cell_to hO1.be t2⟩ (fun hHeld => ?_)
      refine with_tabW borders_tab6 borders_bits6 (fun HT_ HW_ => ?_)
      generalize w29.drew = wd at hO1 b1x hHeld ⊢
      refine pure_ (i := 0) (N := some 41) (v := ?_) (a' := ?_) #[true, false, false, false, false, false, false, false, false, false, false, false, false, false, false, false, false] rfl rfl (any_of HT_.out (by kernel_rfl)) (fun _ _ _ h => h) (Or.inl ⟨by rfl, ?_⟩) ?_ ?_
      rotate_left
      · intro w'
        go_simp
        with_reducible rfl
      rotate_left
      · simp only [Act.put, List.setIfInBounds_toArray, List.set_cons_zero, List.set_cons_succ, i64_w, i32_w]
        rfl
      refine pure_ (i := 1) (N := some 42) (v := ?_) (a' := ?_) #[true, true, false, false, false, false, false, false, false, false, false, false, false, false, false, false, false] rfl rfl (any_of HT_.out (by kernel_rfl)) (fun _ _ _ h => h) (Or.inl ⟨by rfl, ?_⟩) ?_ ?_
      rotate_left
      · intro w'
        go_simp
        with_reducible rfl
      rotate_left
      · simp only [Act.put, List.setIfInBounds_toArray, List.set_cons_zero, List.set_cons_succ, i64_w, i32_w]
        rfl
      refine pure_ (i := 2) (N := some 43) (v := ?_) (a' := ?_) #[true, true, true, false, false, false, false, false, false, false, false, false, false, false, false, false, false] rfl rfl (any_of HT_.out (by kernel_rfl)) (fun _ _ _ h => h) (Or.inl ⟨by rfl, ?_⟩) ?_ ?_
      rotate_left
      · intro w'
        go_simp
        with_reducible rfl
      rotate_left
      · simp only [Act.put, List.setIfInBounds_toArray, List.set_cons_zero, List.set_cons_succ, i64_w, i32_w]
        rfl
      refine pure_ (i := 4) (N := some 45) (v := ?_) (a' := ?_) #[true, true, true, false, true, false, false, false, false, false, false, false, false, false, false, false, false] rfl rfl (any_of HT_.out (by kernel_rfl)) (fun _ _ _ h => h) (Or.inl ⟨by rfl, ?_⟩) ?_ ?_
      rotate_left
      · intro w'
        go_simp
        with_reducible rfl
      rotate_left
      · simp only [Act.put, List.setIfInBounds_toArray, List.set_cons_zero, List.set_cons_succ, i64_w, i32_w]
        rfl
      refine pure_ (i := 6) (N := some 47) (v := ?_) (a' := ?_) #[true, true, true, false, true, false, true, false, false, false, false, false, false, false, false, false, false] rfl rfl (any_of HT_.out (by kernel_rfl)) (fun _ _ _ h => h) (Or.inl ⟨by rfl, ?_⟩) ?_ ?_
      rotate_left
      · intro w'
        go_simp
        with_reducible rfl
      rotate_left
      · simp only [Act.put, List.setIfInBounds_toArray, List.set_cons_zero, List.set_cons_succ, i64_w, i32_w]
        rfl
      refine pure_ (i := 7) (N := some 48) (v := ?_) (a' := ?_) #[true, true, true, false, true, false, true, true, false, false, false, false, false, false, false, false, false] rfl rfl (any_of HT_.out (by kernel_rfl)) (fun _ _ _ h => h) (Or.inl ⟨by rfl, ?_⟩) ?_ ?_
      rotate_left
      · intro w'
        go_simp
        with_reducible rfl
      rotate_left
      · simp only [Act.put, List.setIfInBounds_toArray, List.set_cons_zero, List.set_cons_succ, i64_w, i32_w]
        rfl
      refine pure_ (i := 8) (N := some 49) (v := ?_) (a' := ?_) #[true, true, true, false, true, false, true, true, true, false, false, false, false, false, false, false, false] rfl rfl (any_of HT_.out (by kernel_rfl)) (fun _ _ _ h => h) (Or.inl ⟨by rfl, ?_⟩) ?_ ?_
      rotate_left
      · intro w'
        go_simp
        with_reducible rfl
      rotate_left
      · simp only [Act.put, List.setIfInBounds_toArray, List.set_cons_zero, List.set_cons_succ, i64_w, i32_w]
        rfl
      refine take_ (i := 3) (N := some 44) (v := ?_) (a' := ?_) #[true, true, true, true, true, false, true, true, true, false, false, false, false, false, false, false, false] rfl rfl (take_ofW HT_.out HW_.out (by kernel_rfl)) (fun _ _ _ h => h) (Or.inl ⟨by rfl, ?_⟩) hHeld ?_ ?_
      rotate_left
      · rintro w' ⟨s0, s1, s2, s3⟩
        go_simp
        with_reducible rfl
      rotate_left
      · simp only [Act.put, List.setIfInBounds_toArray, List.set_cons_zero, List.set_cons_succ, i64_w, i32_w]
        rfl
      refine take_ (i := 5) (N := some 46) (v := ?_) (a' := ?_) #[true, true, true, true, true, true, true, true, true, false, false, false, false, false, false, false, false] rfl rfl (take_ofW HT_.out HW_.out (by kernel_rfl)) (fun _ _ _ h => h) (Or.inl ⟨by rfl, ?_⟩) hHeld ?_ ?_
      rotate_left
      · rintro w' ⟨s0, s1, s2, s3⟩
        go_simp
        with_reducible rfl
      rotate_left
      · simp only [Act.put, List.setIfInBounds_toArray, List.set_cons_zero, List.set_cons_succ, i64_w, i32_w]
        rfl
      refine take_ (i := 9) (N := some 50) (v := ?_) (a' := ?_) #[true, true, true, true, true, true, true, true, true, true, false, false, false, false, false, false, false] rfl rfl (take_ofW HT_.out HW_.out (by kernel_rfl)) (fun _ _ _ h => h) (Or.inl ⟨by rfl, ?_⟩) hHeld ?_ ?_
      rotate_left
      · rintro w' ⟨s0, s1, s2, s3⟩
        go_simp
        with_reducible rfl
      rotate_left
      · simp only [Act.put, List.setIfInBounds_toArray, List.set_cons_zero, List.set_cons_succ, i64_w, i32_w]
        rfl
      refine pure_ (i := 10) (N := some 51) (v := ?_) (a' := ?_) #[true, true, true, true, true, true, true, true, true, true, true, false, false, false, false, false, false] rfl rfl (any_of HT_.out (by kernel_rfl)) (fun _ _ _ h => h) (Or.inl ⟨by rfl, ?_⟩) ?_ ?_
      rotate_left
      · intro w'
        go_simp
        with_reducible rfl
      rotate_left
      · simp only [Act.put, List.setIfInBounds_toArray, List.set_cons_zero, List.set_cons_succ, i64_w, i32_w]
        rfl
      refine pure_ (i := 11) (N := some 52) (v := ?_) (a' := ?_) #[true, true, true, true, true, true, true, true, true, true, true, true, false, false, false, false, false] rfl rfl (any_of HT_.out (by kernel_rfl)) (fun _ _ _ h => h) (Or.inl ⟨by rfl, ?_⟩) ?_ ?_
      rotate_left
      · intro w'
        go_simp
        with_reducible rfl
      rotate_left
      · simp only [Act.put, List.setIfInBounds_toArray, List.set_cons_zero, List.set_cons_succ, i64_w, i32_w]
        rfl
      refine take_ (i := 12) (N := some 53) (v := ?_) (a' := ?_) #[true, true, true, true, true, true, true, true, true, true, true, true, true, false, false, false, false] rfl rfl (take_ofW HT_.out HW_.out (by kernel_rfl)) (fun _ _ _ h => h) (Or.inl ⟨by rfl, ?_⟩) hHeld ?_ ?_
      rotate_left
      · rintro w' ⟨s0, s1, s2, s3⟩
        go_simp
        with_reducible rfl
      rotate_left
      · simp only [Act.put, List.setIfInBounds_toArray, List.set_cons_zero, List.set_cons_succ, i64_w, i32_w]
        rfl
      refine one_ (i := 13) (N := some 54) #[true, true, true, true, true, true, true, true, true, true, true, true, true, true, false, false, false] rfl rfl (one_of HT_.out (by kernel_rfl)) (by decide) (fun K hK => ?_)
      refine value_ (w1 := ?_) (v := ?_) (by rfl) rfl ?_ ?_
      rotate_left 2
      · go_simp
        constructor
        · rfl
        · rfl
      refine hK.out _ _ ⟨cell_to (below_alloc (Below.refl _ _) _) hHeld.1, cell_to (below_alloc (Below.refl _ _) _) hHeld.2.1, cell_to (below_alloc (Below.refl _ _) _) hHeld.2.2.1, cell_to (below_alloc (Below.refl _ _) _) hHeld.2.2.2⟩ (fun hHeld => ?_)
      clear hK K
      refine norm_ (a' := ?_) ?_ ?_
      rotate_left
      · show Act.put _ (some 54) _ = _
        simp only [Act.put, List.setIfInBounds_toArray, List.set_cons_zero, List.set_cons_succ, i64_w, i32_w]
        rfl
      refine one_ (i := 14) (N := some 55) #[true, true, true, true, true, true, true, true, true, true, true, true, true, true, true, false, false] rfl rfl (one_of HT_.out (by kernel_rfl)) (by decide) (fun K hK => ?_)
      refine Kd.R_append_step (Kd.int .i64) (w0 := w) w.heap.size (by rfl) (.tmp 44) (.tmp 54) 46 2 (.int .i64 0) 8 rfl Try.underlying46 info2 rfl (by decide) (by omega) (V1 2) (up4 (LL ts xs k1 m1 y 0) 0 (LL ts xs k1 m1 y 0 0 ++ [(tk ts q).get 0]) 2) ((tk ts p).get 2) [.int .i64 ((tk ts p).get 2)] (ok4 V1 2) (fun _ => False) rfl rfl ?aP (fun _ hk => hk.elim) ?aF ?aO ?aB ?aS ?aL ?_
      (case aP => exact rfl)
      (case aF => exact fun k_ hk j hj hne => Kd.fresh' (Kd.R_lt (hO1.row j hj)) k_ hk)
      (case aO => exact hO1.row 2 (by omega))
      (case aB => exact hO1.be)
      (case aS => exact hO1.be.size)
      (case aL => have := HLEN.out; omega)
      intro v1 w30 ho hb hg hat
      obtain ⟨Ao, co, hv1⟩ : ∃ A_ c_, v1 = .slice A_ (up4 (LL ts xs k1 m1 y 0) 0 (LL ts xs k1 m1 y 0 0 ++ [(tk ts q).get 0]) 2 ++ [(tk ts p).get 2]).length c_ := Kd.R_slice ho
      obtain ⟨n1, hn1_⟩ : ∃ k_, k_ = (up4 (LL ts xs k1 m1 y 0) 0 (LL ts xs k1 m1 y 0 0 ++ [(tk ts q).get 0]) 2 ++ [(tk ts p).get 2]).length := ⟨_, rfl⟩
      rw [← hn1_] at hv1
      clear hn1_
      subst hv1
      have z0 : w30.cell? ⟨g, 2, none⟩ = some (V1 2) := (blk_cell (blk_grown hO1.bk hg (Kd.R_ne (hO1.row 2 (by omega)) hO1.bk (by decide))) 2).trans rfl
      have f0 : w30.frozen? ⟨g, 2, none⟩ = false := blk_frozen (blk_grown hO1.bk hg (Kd.R_ne (hO1.row 2 (by omega)) hO1.bk (by decide))) 2
      have bx : BK w30 w.heap.size #[.int .i64 C, .slice (some ⟨bt, ot, none⟩) n c] 32 := blk_grown b1x hg (Kd.R_ne (hO1.row 2 (by omega)) b1x (by decide))
      refine hK.out _ _ ⟨bx.cell rfl, z0, cell_to hb hn1, cell_to hb t2⟩ (fun hHeld => ?_)
      clear hK K
      refine norm_ (a' := ?_) ?_ ?_
      rotate_left
      · show Act.put _ (some 55) _ = _
        simp only [Act.put, List.setIfInBounds_toArray, List.set_cons_zero, List.set_cons_succ, i64_w, i32_w]
        rfl
      refine pure_ (i := 15) (N := some 56) (v := ?_) (a' := ?_) #[true, true, true, true, true, true, true, true, true, true, true, true, true, true, true, true, false] rfl rfl (any_of HT_.out (by kernel_rfl)) (fun _ _ _ h => h) (Or.inl ⟨by rfl, ?_⟩) ?_ ?_
      rotate_left
      · intro w'
        go_simp
        with_reducible rfl
      rotate_left
      · simp only [Act.put, List.setIfInBounds_toArray, List.set_cons_zero, List.set_cons_succ, i64_w, i32_w]
        rfl
      refine last_ (i := 16) (N := none) #[true, true, true, true, true, true, true, true, true, true, true, true, true, true, true, true, true] rfl rfl (one_of HT_.out (by kernel_rfl)) (by decide) (fun K hK => ?_)
      refine skip_ (w1 := ?_) (by rfl) rfl ?_ ?_
      rotate_left
      · go_simp
        rfl
      refine hK.out _ _ ?_
      clear hK K
      refine done_ (done_of HT_.out (by kernel_rfl)) ?_

      have hO2 := hO1.app (i := 2) (by omega) ho hb hg hat
      have b2x : BK (w30.setCell ⟨g, 2, none⟩ (.slice Ao n1 co)) w.heap.size #[.int .i64 C, .slice (some ⟨bt, ot, none⟩) n c] 32 := blk_far bx (p := ⟨g, 2, none⟩) (blk_ne b1x hO1.bk (by decide)) (.slice Ao n1 co)
      generalize w30.setCell ⟨g, 2, none⟩ (.slice Ao n1 co) = w31 at hO2 b2x ⊢
      clear hHeld ho hb hg hat z0 f0 bx hO1 b1x HT_ HW_ HLEN
      generalize up4 V1 2 (Value.slice Ao n1 co) = V2 at hO2
      go_wp2_with fail
      go_roundw
      case rel => exact ⟨y + 1, by omega, by go_num, _, LL_row HQ.out HP.out ▸ hO2, b2x⟩
      case measure => simp [intOf]; omega
    · have hym : y = m1 + 1 := by omega
      subst hym
      have e1 := cell_to HO.out.be h00
      go_wp2_with fail
      clear e1
      go_loopw [62] (fun i wr => ∃ x : Nat, x ≤ k1 + 1 ∧ i = .int .i64 x ∧ ∃ V, O4 w wr g V (LL ts xs k1 m1 (m1 + 1) x) ∧ BK wr w.heap.size #[.int .i64 C, .slice A n c] 32) (fun i _ => k1 + 1 - (intOf i).toNat)
      case atStart => exact ⟨0, by omega, rfl, _, HO.out, HBB.out⟩
      case round =>
        clear HO HBB V
        obtain ⟨x, hx, rfl, V, hO, bB⟩ := hrel
        have HO := Lib.hid hO; have HBB := Lib.hid bB; clear hO bB
        by_cases hlt : x < k1 + 1
        · have i1 : (x : Int) < (k1 : Int) + 1 := by omega
          obtain ⟨by_, oy, hAy, -, hn0⟩ := HR0.out x (by show x < rowLen xs 0; rw [HLEN0.out 0 (by have := HM.out; omega)]; exact hlt)
          subst hAy
          obtain ⟨b, o, Am, cm, hAe, -, hm0, hrm, -, -⟩ := HA'.out m1 (by have := HM.out; omega)
          obtain ⟨rfl, rfl⟩ : b0 = b ∧ o0 = o := by injection hAe with e; injection e with e1 e2; exact ⟨e1, e2⟩
          rw [HLEN0.out m1 (by have := HM.out; omega)] at hm0
          obtain ⟨bm, om, hAm, -, hn1⟩ := hrm x (by show x < rowLen xs m1; rw [HLEN0.out m1 (by have := HM.out; omega)]; exact hlt)
          subst hAm
          obtain ⟨q, hq⟩ : ∃ q : Nat, cell xs 0 x = q := ⟨(cell xs 0 x).toNat, by have := HT.out.lo 0 x (by have := HM.out; omega) (by have := HK.out; omega); omega⟩
          obtain ⟨p, hp⟩ : ∃ p : Nat, cell xs m1 x = p := ⟨(cell xs m1 x).toNat, by have := HT.out.lo m1 x (by have := HM.out; omega) (by have := HK.out; omega); omega⟩
          have hql : q < ts.length := by have := HT.out.up 0 x (by have := HM.out; omega) (by have := HK.out; omega); omega
          have hpl : p < ts.length := by have := HT.out.up m1 x (by have := HM.out; omega) (by have := HK.out; omega); omega
          have i3 : (q : Int) < n := by have := HN.out; omega
          have i4 : (p : Int) < n := by have := HN.out; omega
          have i5 : (m1 : Int) < (m1 : Int) + 1 := by omega
          rw [show ik (rowAt xs 0) x = (q : Int) from hq] at hn0
          rw [show ik (rowAt xs m1) x = (p : Int) from hp] at hn1
          obtain ⟨bt, ot, hAt, -, -, t0, -, -⟩ := HA.out q hql
          subst hAt
          obtain ⟨bt2, ot2, hE3, -, -, -, -, t2⟩ := HA.out p hpl
          obtain ⟨rfl, rfl⟩ : bt = bt2 ∧ ot = ot2 := by injection hE3 with e; injection e with e1 e2; exact ⟨e1, e2⟩
          have HQ := Lib.hid hq; have HP := Lib.hid hp
          clear hq hp hql hpl hrm hAe hE3
          go_wp2_with fail
          have hW := (Below.refl wr.heap.size wr).drew
          have hO1 := HO.out.to hW; have b1x := HBB.out.below hW HBB.out.lt
          have HLEN := Lib.hid (show (LL ts xs k1 m1 (m1 + 1) x 1).length ≤ 16 by have := LL_len ts xs k1 m1 (m1 + 1) x 1; omega)
          clear hW HO HBB
          refine start_ (n := 19) (S := fun w' => w'.cell? ⟨w.heap.size, 1, none⟩ = some (.slice (some ⟨bt, ot, none⟩) n c) ∧ w'.cell? ⟨g, 1, none⟩ = some (V 1) ∧ w'.cell? ⟨b0, o0, none⟩ = some (.slice (some ⟨by_, oy, none⟩) (k1 + 1) c0) ∧ w'.cell? ⟨by_, oy + x, none⟩ = some (.int .i64 q) ∧ w'.cell? ⟨bt, ot + q * 4 + 1, none⟩ = some (.int .i64 ((tk ts q).get 1))) (ds := [18]) #[false, false, false, false, false, false, false, false, false, false, false, false, false, false, false, false, false, false, false] (by kernel_rfl) rfl rfl ⟨b1x.cell rfl, (blk_cell hO1.bk 1).trans rfl, cell_to hO1.be h00, cell_to hO1.be hn0, cell_to hO1.be t0⟩ (fun hHeld => ?_)
          refine with_tabW borders_tab11 borders_bits11 (fun HT_ HW_ => ?_)
          generalize wr.drew = wd at hO1 b1x hHeld ⊢
          refine pure_ (i := 0) (N := some 65) (v := ?_) (a' := ?_) #[true, false, false, false, false, false, false, false, false, false, false, false, false, false, false, false, false, false, false] rfl rfl (any_of HT_.out (by kernel_rfl)) (fun _ _ _ h => h) (Or.inl ⟨by rfl, ?_⟩) ?_ ?_
          rotate_left
          · intro w'
            go_simp
            with_reducible rfl
          rotate_left
          · simp only [Act.put, List.setIfInBounds_toArray, List.set_cons_zero, List.set_cons_succ, i64_w, i32_w]
            rfl
          refine pure_ (i := 1) (N := some 66) (v := ?_) (a' := ?_) #[true, true, false, false, false, false, false, false, false, false, false, false, false, false, false, false, false, false, false] rfl rfl (any_of HT_.out (by kernel_rfl)) (fun _ _ _ h => h) (Or.inl ⟨by rfl, ?_⟩) ?_ ?_
          rotate_left
          · intro w'
            go_simp
            with_reducible rfl
          rotate_left
          · simp only [Act.put, List.setIfInBounds_toArray, List.set_cons_zero, List.set_cons_succ, i64_w, i32_w]
            rfl
          refine pure_ (i := 2) (N := some 67) (v := ?_) (a' := ?_) #[true, true, true, false, false, false, false, false, false, false, false, false, false, false, false, false, false, false, false] rfl rfl (any_of HT_.out (by kernel_rfl)) (fun _ _ _ h => h) (Or.inl ⟨by rfl, ?_⟩) ?_ ?_
          rotate_left
          · intro w'
            go_simp
            with_reducible rfl
          rotate_left
          · simp only [Act.put, List.setIfInBounds_toArray, List.set_cons_zero, List.set_cons_succ, i64_w, i32_w]
            rfl
          refine pure_ (i := 4) (N := some 69) (v := ?_) (a' := ?_) #[true, true, true, false, true, false, false, false, false, false, false, false, false, false, false, false, false, false, false] rfl rfl (any_of HT_.out (by kernel_rfl)) (fun _ _ _ h => h) (Or.inl ⟨by rfl, ?_⟩) ?_ ?_
          rotate_left
          · intro w'
            go_simp
            with_reducible rfl
          rotate_left
          · simp only [Act.put, List.setIfInBounds_toArray, List.set_cons_zero, List.set_cons_succ, i64_w, i32_w]
            rfl
          refine pure_ (i := 6) (N := some 71) (v := ?_) (a' := ?_) #[true, true, true, false, true, false, true, false, false, false, false, false, false, false, false, false, false, false, false] rfl rfl (any_of HT_.out (by kernel_rfl)) (fun _ _ _ h => h) (Or.inl ⟨by rfl, ?_⟩) ?_ ?_
          rotate_left
          · intro w'
            go_simp
            with_reducible rfl
          rotate_left
          · simp only [Act.put, List.setIfInBounds_toArray, List.set_cons_zero, List.set_cons_succ, i64_w, i32_w]
            rfl
          refine pure_ (i := 7) (N := some 72) (v := ?_) (a' := ?_) #[true, true, true, false, true, false, true, true, false, false, false, false, false, false, false, false, false, false, false] rfl rfl (any_of HT_.out (by kernel_rfl)) (fun _ _ _ h => h) (Or.inl ⟨by rfl, ?_⟩) ?_ ?_
          rotate_left
          · intro w'
            go_simp
            with_reducible rfl
          rotate_left
          · simp only [Act.put, List.setIfInBounds_toArray, List.set_cons_zero, List.set_cons_succ, i64_w, i32_w]
            rfl
          refine pure_ (i := 9) (N := some 74) (v := ?_) (a' := ?_) #[true, true, true, false, true, false, true, true, false, true, false, false, false, false, false, false, false, false, false] rfl rfl (any_of HT_.out (by kernel_rfl)) (fun _ _ _ h => h) (Or.inl ⟨by rfl, ?_⟩) ?_ ?_
          rotate_left
          · intro w'
            go_simp
            with_reducible rfl
          rotate_left
          · simp only [Act.put, List.setIfInBounds_toArray, List.set_cons_zero, List.set_cons_succ, i64_w, i32_w]
            rfl
          refine take_ (i := 3) (N := some 68) (v := ?_) (a' := ?_) #[true, true, true, true, true, false, true, true, false, true, false, false, false, false, false, false, false, false, false] rfl rfl (take_ofW HT_.out HW_.out (by kernel_rfl)) (fun _ _ _ h => h) (Or.inl ⟨by rfl, ?_⟩) hHeld ?_ ?_
          rotate_left
          · rintro w' ⟨s0, s1, s2, s3, s4⟩
            go_simp
            with_reducible rfl
          rotate_left
          · simp only [Act.put, List.setIfInBounds_toArray, List.set_cons_zero, List.set_cons_succ, i64_w, i32_w]
            rfl
          refine take_ (i := 5) (N := some 70) (v := ?_) (a' := ?_) #[true, true, true, true, true, true, true, true, false, true, false, false, false, false, false, false, false, false, false] rfl rfl (take_ofW HT_.out HW_.out (by kernel_rfl)) (fun _ _ _ h => h) (Or.inl ⟨by rfl, ?_⟩) hHeld ?_ ?_
          rotate_left
          · rintro w' ⟨s0, s1, s2, s3, s4⟩
            go_simp
            with_reducible rfl
          rotate_left
          · simp only [Act.put, List.setIfInBounds_toArray, List.set_cons_zero, List.set_cons_succ, i64_w, i32_w]
            rfl
          refine take_ (i := 8) (N := some 73) (v := ?_) (a' := ?_) #[true, true, true, true, true, true, true, true, true, true, false, false, false, false, false, false, false, false, false] rfl rfl (take_ofW HT_.out HW_.out (by kernel_rfl)) (fun _ _ _ h => h) (Or.inl ⟨by rfl, ?_⟩) hHeld ?_ ?_
          rotate_left
          · rintro w' ⟨s0, s1, s2, s3, s4⟩
            go_simp
            with_reducible rfl
          rotate_left
          · simp only [Act.put, List.setIfInBounds_toArray, List.set_cons_zero, List.set_cons_succ, i64_w, i32_w]
            rfl
          refine pure_ (i := 10) (N := some 75) (v := ?_) (a' := ?_) #[true, true, true, true, true, true, true, true, true, true, true, false, false, false, false, false, false, false, false] rfl rfl (any_of HT_.out (by kernel_rfl)) (fun _ _ _ h => h) (Or.inl ⟨by rfl, ?_⟩) ?_ ?_
          rotate_left
          · intro w'
            go_simp
            with_reducible rfl
          rotate_left
          · simp only [Act.put, List.setIfInBounds_toArray, List.set_cons_zero, List.set_cons_succ, i64_w, i32_w]
            rfl
          refine take_ (i := 11) (N := some 76) (v := ?_) (a' := ?_) #[true, true, true, true, true, true, true, true, true, true, true, true, false, false, false, false, false, false, false] rfl rfl (take_ofW HT_.out HW_.out (by kernel_rfl)) (fun _ _ _ h => h) (Or.inl ⟨by rfl, ?_⟩) hHeld ?_ ?_
          rotate_left
          · rintro w' ⟨s0, s1, s2, s3, s4⟩
            go_simp
            with_reducible rfl
          rotate_left
          · simp only [Act.put, List.setIfInBounds_toArray, List.set_cons_zero, List.set_cons_succ, i64_w, i32_w]
            rfl
          refine pure_ (i := 12) (N := some 77) (v := ?_) (a' := ?_) #[true, true, true, true, true, true, true, true, true, true, true, true, true, false, false, false, false, false, false] rfl rfl (any_of HT_.out (by kernel_rfl)) (fun _ _ _ h => h) (Or.inl ⟨by rfl, ?_⟩) ?_ ?_
          rotate_left
          · intro w'
            go_simp
            with_reducible rfl
          rotate_left
          · simp only [Act.put, List.setIfInBounds_toArray, List.set_cons_zero, List.set_cons_succ, i64_w, i32_w]
            rfl
          refine pure_ (i := 13) (N := some 78) (v := ?_) (a' := ?_) #[true, true, true, true, true, true, true, true, true, true, true, true, true, true, false, false, false, false, false] rfl rfl (any_of HT_.out (by kernel_rfl)) (fun _ _ _ h => h) (Or.inl ⟨by rfl, ?_⟩) ?_ ?_
          rotate_left
          · intro w'
            go_simp
            with_reducible rfl
          rotate_left
          · simp only [Act.put, List.setIfInBounds_toArray, List.set_cons_zero, List.set_cons_succ, i64_w, i32_w]
            rfl
          refine take_ (i := 14) (N := some 79) (v := ?_) (a' := ?_) #[true, true, true, true, true, true, true, true, true, true, true, true, true, true, true, false, false, false, false] rfl rfl (take_ofW HT_.out HW_.out (by kernel_rfl)) (fun _ _ _ h => h) (Or.inl ⟨by rfl, ?_⟩) hHeld ?_ ?_
          rotate_left
          · rintro w' ⟨s0, s1, s2, s3, s4⟩
            go_simp
            with_reducible rfl
          rotate_left
          · simp only [Act.put, List.setIfInBounds_toArray, List.set_cons_zero, List.set_cons_succ, i64_w, i32_w]
            rfl
          refine one_ (i := 15) (N := some 80) #[true, true, true, true, true, true, true, true, true, true, true, true, true, true, true, true, false, false, false] rfl rfl (one_of HT_.out (by kernel_rfl)) (by decide) (fun K hK => ?_)
          refine value_ (w1 := ?_) (v := ?_) (by rfl) rfl ?_ ?_
          rotate_left 2
          · go_simp
            constructor
            · rfl
            · rfl
          refine hK.out _ _ ⟨cell_to (below_alloc (Below.refl _ _) _) hHeld.1, cell_to (below_alloc (Below.refl _ _) _) hHeld.2.1, cell_to (below_alloc (Below.refl _ _) _) hHeld.2.2.1, cell_to (below_alloc (Below.refl _ _) _) hHeld.2.2.2.1, cell_to (below_alloc (Below.refl _ _) _) hHeld.2.2.2.2⟩ (fun hHeld => ?_)
          clear hK K
          refine norm_ (a' := ?_) ?_ ?_
          rotate_left
          · show Act.put _ (some 80) _ = _
            simp only [Act.put, List.setIfInBounds_toArray, List.set_cons_zero, List.set_cons_succ, i64_w, i32_w]
            rfl
          refine one_ (i := 16) (N := some 81) #[true, true, true, true, true, true, true, true, true, true, true, true, true, true, true, true, true, false, false] rfl rfl (one_of HT_.out (by kernel_rfl)) (by decide) (fun K hK => ?_)
          refine Kd.R_append_step (Kd.int .i64) (w0 := w) w.heap.size (by rfl) (.tmp 68) (.tmp 80) 46 2 (.int .i64 0) 8 rfl Try.underlying46 info2 rfl (by decide) (by omega) (V 1) (LL ts xs k1 m1 (m1 + 1) x 1) ((tk ts q).get 1) [.int .i64 ((tk ts q).get 1)] (ok4 V 1) (fun _ => False) rfl rfl ?aP (fun _ hk => hk.elim) ?aF ?aO ?aB ?aS ?aL ?_
          (case aP => exact rfl)
          (case aF => exact fun k_ hk j hj hne => Kd.fresh' (Kd.R_lt (hO1.row j hj)) k_ hk)
          (case aO => exact hO1.row 1 (by omega))
          (case aB => exact hO1.be)
          (case aS => exact hO1.be.size)
          (case aL => have := HLEN.out; omega)
          intro v1 w28 ho hb hg hat
          obtain ⟨Ao, co, hv1⟩ : ∃ A_ c_, v1 = .slice A_ (LL ts xs k1 m1 (m1 + 1) x 1 ++ [(tk ts q).get 1]).length c_ := Kd.R_slice ho
          obtain ⟨n1, hn1_⟩ : ∃ k_, k_ = (LL ts xs k1 m1 (m1 + 1) x 1 ++ [(tk ts q).get 1]).length := ⟨_, rfl⟩
          rw [← hn1_] at hv1
          clear hn1_
          subst hv1
          have z0 : w28.cell? ⟨g, 1, none⟩ = some (V 1) := (blk_cell (blk_grown hO1.bk hg (Kd.R_ne (hO1.row 1 (by omega)) hO1.bk (by decide))) 1).trans rfl
          have f0 : w28.frozen? ⟨g, 1, none⟩ = false := blk_frozen (blk_grown hO1.bk hg (Kd.R_ne (hO1.row 1 (by omega)) hO1.bk (by decide))) 1
          have bx : BK w28 w.heap.size #[.int .i64 C, .slice (some ⟨bt, ot, none⟩) n c] 32 := blk_grown b1x hg (Kd.R_ne (hO1.row 1 (by omega)) b1x (by decide))
          refine hK.out _ _ ⟨bx.cell rfl, z0, cell_to hb h00, cell_to hb hn0, cell_to hb t0⟩ (fun hHeld => ?_)
          clear hK K
          refine norm_ (a' := ?_) ?_ ?_
          rotate_left
          · show Act.put _ (some 81) _ = _
            simp only [Act.put, List.setIfInBounds_toArray, List.set_cons_zero, List.set_cons_succ, i64_w, i32_w]
            rfl
          refine pure_ (i := 17) (N := some 82) (v := ?_) (a' := ?_) #[true, true, true, true, true, true, true, true, true, true, true, true, true, true, true, true, true, true, false] rfl rfl (any_of HT_.out (by kernel_rfl)) (fun _ _ _ h => h) (Or.inl ⟨by rfl, ?_⟩) ?_ ?_
          rotate_left
          · intro w'
            go_simp
            with_reducible rfl
          rotate_left
          · simp only [Act.put, List.setIfInBounds_toArray, List.set_cons_zero, List.set_cons_succ, i64_w, i32_w]
            rfl
          refine last_ (i := 18) (N := none) #[true, true, true, true, true, true, true, true, true, true, true, true, true, true, true, true, true, true, true] rfl rfl (one_of HT_.out (by kernel_rfl)) (by decide) (fun K hK => ?_)
          refine skip_ (w1 := ?_) (by rfl) rfl ?_ ?_
          rotate_left
          · go_simp
            rfl
          refine hK.out _ _ ?_
          clear hK K
          refine done_ (done_of HT_.out (by kernel_rfl)) ?_

          have hO2 := hO1.app (i := 1) (by omega) ho hb hg hat
          have b2x : BK (w28.setCell ⟨g, 1, none⟩ (.slice Ao n1 co)) w.heap.size #[.int .i64 C, .slice (some ⟨bt, ot, none⟩) n c] 32 := blk_far bx (p := ⟨g, 1, none⟩) (blk_ne b1x hO1.bk (by decide)) (.slice Ao n1 co)
          generalize w28.setCell ⟨g, 1, none⟩ (.slice Ao n1 co) = w29 at hO2 b2x ⊢
          clear hHeld ho hb hg hat z0 f0 bx hO1 b1x HT_ HW_ HLEN
          generalize up4 V 1 (Value.slice Ao n1 co) = V1 at hO2
          go_wp2_with fail
          have hW := (Below.refl w29.heap.size w29).drew
          have hO1 := hO2.to hW; have b1x := b2x.below hW b2x.lt
          have HLEN := Lib.hid (show (up4 (LL ts xs k1 m1 (m1 + 1) x) 1 (LL ts xs k1 m1 (m1 + 1) x 1 ++ [(tk ts q).get 1]) 3).length ≤ 16 by rw [up4_ne _ _ (by decide)]; have := LL_len ts xs k1 m1 (m1 + 1) x 3; omega)
          clear hW hO2 b2x
          refine start_ (n := 22) (S := fun w' => w'.cell? ⟨w.heap.size, 1, none⟩ = some (.slice (some ⟨bt, ot, none⟩) n c) ∧ w'.cell? ⟨g, 3, none⟩ = some (V1 3) ∧ w'.cell? ⟨b0, o0 + m1, none⟩ = some (.slice (some ⟨bm, om, none⟩) (k1 + 1) cm) ∧ w'.cell? ⟨bm, om + x, none⟩ = some (.int .i64 p) ∧ w'.cell? ⟨bt, ot + p * 4 + 3, none⟩ = some (.int .i64 ((tk ts p).get 3))) (ds := [21]) #[false, false, false, false, false, false, false, false, false, false, false, false, false, false, false, false, false, false, false, false, false, false] (by kernel_rfl) rfl rfl ⟨b1x.cell rfl, (blk_cell hO1.bk 3).trans rfl, cell_to hO1.be hm0, cell_to hO1.be hn1, cell_to hO1.be t2⟩ (fun hHeld => ?_)
          refine with_tabW borders_tab12 borders_bits12 (fun HT_ HW_ => ?_)
          generalize w29.drew = wd at hO1 b1x hHeld ⊢
          refine pure_ (i := 0) (N := some 83) (v := ?_) (a' := ?_) #[true, false, false, false, false, false, false, false, false, false, false, false, false, false, false, false, false, false, false, false, false, false] rfl rfl (any_of HT_.out (by kernel_rfl)) (fun _ _ _ h => h) (Or.inl ⟨by rfl, ?_⟩) ?_ ?_
          rotate_left
          · intro w'
            go_simp
            with_reducible rfl
          rotate_left
          · simp only [Act.put, List.setIfInBounds_toArray, List.set_cons_zero, List.set_cons_succ, i64_w, i32_w]
            rfl
          refine pure_ (i := 1) (N := some 84) (v := ?_) (a' := ?_) #[true, true, false, false, false, false, false, false, false, false, false, false, false, false, false, false, false, false, false, false, false, false] rfl rfl (any_of HT_.out (by kernel_rfl)) (fun _ _ _ h => h) (Or.inl ⟨by rfl, ?_⟩) ?_ ?_
          rotate_left
          · intro w'
            go_simp
            with_reducible rfl
          rotate_left
          · simp only [Act.put, List.setIfInBounds_toArray, List.set_cons_zero, List.set_cons_succ, i64_w, i32_w]
            rfl
          refine pure_ (i := 2) (N := some 85) (v := ?_) (a' := ?_) #[true, true, true, false, false, false, false, false, false, false, false, false, false, false, false, false, false, false, false, false, false, false] rfl rfl (any_of HT_.out (by kernel_rfl)) (fun _ _ _ h => h) (Or.inl ⟨by rfl, ?_⟩) ?_ ?_
          rotate_left
          · intro w'
            go_simp
            with_reducible rfl
          rotate_left
          · simp only [Act.put, List.setIfInBounds_toArray, List.set_cons_zero, List.set_cons_succ, i64_w, i32_w]
            rfl
          refine pure_ (i := 4) (N := some 87) (v := ?_) (a' := ?_) #[true, true, true, false, true, false, false, false, false, false, false, false, false, false, false, false, false, false, false, false, false, false] rfl rfl (any_of HT_.out (by kernel_rfl)) (fun _ _ _ h => h) (Or.inl ⟨by rfl, ?_⟩) ?_ ?_
          rotate_left
          · intro w'
            go_simp
            with_reducible rfl
          rotate_left
          · simp only [Act.put, List.setIfInBounds_toArray, List.set_cons_zero, List.set_cons_succ, i64_w, i32_w]
            rfl
          refine pure_ (i := 6) (N := some 89) (v := ?_) (a' := ?_) #[true, true, true, false, true, false, true, false, false, false, false, false, false, false, false, false, false, false, false, false, false, false] rfl rfl (any_of HT_.out (by kernel_rfl)) (fun _ _ _ h => h) (Or.inl ⟨by rfl, ?_⟩) ?_ ?_
          rotate_left
          · intro w'
            go_simp
            with_reducible rfl
          rotate_left
          · simp only [Act.put, List.setIfInBounds_toArray, List.set_cons_zero, List.set_cons_succ, i64_w, i32_w]
            rfl
          refine pure_ (i := 7) (N := some 90) (v := ?_) (a' := ?_) #[true, true, true, false, true, false, true, true, false, false, false, false, false, false, false, false, false, false, false, false, false, false] rfl rfl (any_of HT_.out (by kernel_rfl)) (fun _ _ _ h => h) (Or.inl ⟨by rfl, ?_⟩) ?_ ?_
          rotate_left
          · intro w'
            go_simp
            with_reducible rfl
          rotate_left
          · simp only [Act.put, List.setIfInBounds_toArray, List.set_cons_zero, List.set_cons_succ, i64_w, i32_w]
            rfl
          refine pure_ (i := 8) (N := some 91) (v := ?_) (a' := ?_) #[true, true, true, false, true, false, true, true, true, false, false, false, false, false, false, false, false, false, false, false, false, false] rfl rfl (any_of HT_.out (by kernel_rfl)) (fun _ _ _ h => h) (Or.inl ⟨by rfl, ?_⟩) ?_ ?_
          rotate_left
          · intro w'
            go_simp
            with_reducible rfl
          rotate_left
          · simp only [Act.put, List.setIfInBounds_toArray, List.set_cons_zero, List.set_cons_succ, i64_w, i32_w]
            rfl
          refine pure_ (i := 9) (N := some 92) (v := ?_) (a' := ?_) #[true, true, true, false, true, false, true, true, true, true, false, false, false, false, false, false, false, false, false, false, false, false] rfl rfl (any_of HT_.out (by kernel_rfl)) (fun _ _ _ h => h) (Or.inl ⟨by rfl, ?_⟩) ?_ ?_
          rotate_left
          · intro w'
            go_simp
            with_reducible rfl
          rotate_left
          · simp only [Act.put, List.setIfInBounds_toArray, List.set_cons_zero, List.set_cons_succ, i64_w, i32_w]
            rfl
          rw [wrapN m1 (by omega)]
          refine pure_ (i := 10) (N := some 93) (v := ?_) (a' := ?_) #[true, true, true, false, true, false, true, true, true, true, true, false, false, false, false, false, false, false, false, false, false, false] rfl rfl (any_of HT_.out (by kernel_rfl)) (fun _ _ _ h => h) (Or.inl ⟨by rfl, ?_⟩) ?_ ?_
          rotate_left
          · intro w'
            go_simp
            with_reducible rfl
          rotate_left
          · simp only [Act.put, List.setIfInBounds_toArray, List.set_cons_zero, List.set_cons_succ, i64_w, i32_w]
            rfl
          refine pure_ (i := 12) (N := some 95) (v := ?_) (a' := ?_) #[true, true, true, false, true, false, true, true, true, true, true, false, true, false, false, false, false, false, false, false, false, false] rfl rfl (any_of HT_.out (by kernel_rfl)) (fun _ _ _ h => h) (Or.inl ⟨by rfl, ?_⟩) ?_ ?_
          rotate_left
          · intro w'
            go_simp
            with_reducible rfl
          rotate_left
          · simp only [Act.put, List.setIfInBounds_toArray, List.set_cons_zero, List.set_cons_succ, i64_w, i32_w]
            rfl
          refine take_ (i := 3) (N := some 86) (v := ?_) (a' := ?_) #[true, true, true, true, true, false, true, true, true, true, true, false, true, false, false, false, false, false, false, false, false, false] rfl rfl (take_ofW HT_.out HW_.out (by kernel_rfl)) (fun _ _ _ h => h) (Or.inl ⟨by rfl, ?_⟩) hHeld ?_ ?_
          rotate_left
          · rintro w' ⟨s0, s1, s2, s3, s4⟩
            go_simp
            with_reducible rfl
          rotate_left
          · simp only [Act.put, List.setIfInBounds_toArray, List.set_cons_zero, List.set_cons_succ, i64_w, i32_w]
            rfl
          refine take_ (i := 5) (N := some 88) (v := ?_) (a' := ?_) #[true, true, true, true, true, true, true, true, true, true, true, false, true, false, false, false, false, false, false, false, false, false] rfl rfl (take_ofW HT_.out HW_.out (by kernel_rfl)) (fun _ _ _ h => h) (Or.inl ⟨by rfl, ?_⟩) hHeld ?_ ?_
          rotate_left
          · rintro w' ⟨s0, s1, s2, s3, s4⟩
            go_simp
            with_reducible rfl
          rotate_left
          · simp only [Act.put, List.setIfInBounds_toArray, List.set_cons_zero, List.set_cons_succ, i64_w, i32_w]
            rfl
          refine take_ (i := 11) (N := some 94) (v := ?_) (a' := ?_) #[true, true, true, true, true, true, true, true, true, true, true, true, true, false, false, false, false, false, false, false, false, false] rfl rfl (take_ofW HT_.out HW_.out (by kernel_rfl)) (fun _ _ _ h => h) (Or.inl ⟨by rfl, ?_⟩) hHeld ?_ ?_
          rotate_left
          · rintro w' ⟨s0, s1, s2, s3, s4⟩
            go_simp
            with_reducible rfl
          rotate_left
          · simp only [Act.put, List.setIfInBounds_toArray, List.set_cons_zero, List.set_cons_succ, i64_w, i32_w]
            rfl
          refine pure_ (i := 13) (N := some 96) (v := ?_) (a' := ?_) #[true, true, true, true, true, true, true, true, true, true, true, true, true, true, false, false, false, false, false, false, false, false] rfl rfl (any_of HT_.out (by kernel_rfl)) (fun _ _ _ h => h) (Or.inl ⟨by rfl, ?_⟩) ?_ ?_
          rotate_left
          · intro w'
            go_simp
            with_reducible rfl
          rotate_left
          · simp only [Act.put, List.setIfInBounds_toArray, List.set_cons_zero, List.set_cons_succ, i64_w, i32_w]
            rfl
          refine take_ (i := 14) (N := some 97) (v := ?_) (a' := ?_) #[true, true, true, true, true, true, true, true, true, true, true, true, true, true, true, false, false, false, false, false, false, false] rfl rfl (take_ofW HT_.out HW_.out (by kernel_rfl)) (fun _ _ _ h => h) (Or.inl ⟨by rfl, ?_⟩) hHeld ?_ ?_
          rotate_left
          · rintro w' ⟨s0, s1, s2, s3, s4⟩
            go_simp
            with_reducible rfl
          rotate_left
          · simp only [Act.put, List.setIfInBounds_toArray, List.set_cons_zero, List.set_cons_succ, i64_w, i32_w]
            rfl
          refine pure_ (i := 15) (N := some 98) (v := ?_) (a' := ?_) #[true, true, true, true, true, true, true, true, true, true, true, true, true, true, true, true, false, false, false, false, false, false] rfl rfl (any_of HT_.out (by kernel_rfl)) (fun _ _ _ h => h) (Or.inl ⟨by rfl, ?_⟩) ?_ ?_
          rotate_left
          · intro w'
            go_simp
            with_reducible rfl
          rotate_left
          · simp only [Act.put, List.setIfInBounds_toArray, List.set_cons_zero, List.set_cons_succ, i64_w, i32_w]
            rfl
          refine pure_ (i := 16) (N := some 99) (v := ?_) (a' := ?_) #[true, true, true, true, true, true, true, true, true, true, true, true, true, true, true, true, true, false, false, false, false, false] rfl rfl (any_of HT_.out (by kernel_rfl)) (fun _ _ _ h => h) (Or.inl ⟨by rfl, ?_⟩) ?_ ?_
          rotate_left
          · intro w'
            go_simp
            with_reducible rfl
          rotate_left
          · simp only [Act.put, List.setIfInBounds_toArray, List.set_cons_zero, List.set_cons_succ, i64_w, i32_w]
            rfl
          refine take_ (i := 17) (N := some 100) (v := ?_) (a' := ?_) #[true, true, true, true, true, true, true, true, true, true, true, true, true, true, true, true, true, true, false, false, false, false] rfl rfl (take_ofW HT_.out HW_.out (by kernel_rfl)) (fun _ _ _ h => h) (Or.inl ⟨by rfl, ?_⟩) hHeld ?_ ?_
          rotate_left
          · rintro w' ⟨s0, s1, s2, s3, s4⟩
            go_simp
            with_reducible rfl
          rotate_left
          · simp only [Act.put, List.setIfInBounds_toArray, List.set_cons_zero, List.set_cons_succ, i64_w, i32_w]
            rfl
          refine one_ (i := 18) (N := some 101) #[true, true, true, true, true, true, true, true, true, true, true, true, true, true, true, true, true, true, true, false, false, false] rfl rfl (one_of HT_.out (by kernel_rfl)) (by decide) (fun K hK => ?_)
          refine value_ (w1 := ?_) (v := ?_) (by rfl) rfl ?_ ?_
          rotate_left 2
          · go_simp
            constructor
            · rfl
            · rfl
          refine hK.out _ _ ⟨cell_to (below_alloc (Below.refl _ _) _) hHeld.1, cell_to (below_alloc (Below.refl _ _) _) hHeld.2.1, cell_to (below_alloc (Below.refl _ _) _) hHeld.2.2.1, cell_to (below_alloc (Below.refl _ _) _) hHeld.2.2.2.1, cell_to (below_alloc (Below.refl _ _) _) hHeld.2.2.2.2⟩ (fun hHeld => ?_)
          clear hK K
          refine norm_ (a' := ?_) ?_ ?_
          rotate_left
          · show Act.put _ (some 101) _ = _
            simp only [Act.put, List.setIfInBounds_toArray, List.set_cons_zero, List.set_cons_succ, i64_w, i32_w]
            rfl
          refine one_ (i := 19) (N := some 102) #[true, true, true, true, true, true, true, true, true, true, true, true, true, true, true, true, true, true, true, true, false, false] rfl rfl (one_of HT_.out (by kernel_rfl)) (by decide) (fun K hK => ?_)
          refine Kd.R_append_step (Kd.int .i64) (w0 := w) w.heap.size (by rfl) (.tmp 86) (.tmp 101) 46 2 (.int .i64 0) 8 rfl Try.underlying46 info2 rfl (by decide) (by omega) (V1 3) (up4 (LL ts xs k1 m1 (m1 + 1) x) 1 (LL ts xs k1 m1 (m1 + 1) x 1 ++ [(tk ts q).get 1]) 3) ((tk ts p).get 3) [.int .i64 ((tk ts p).get 3)] (ok4 V1 3) (fun _ => False) rfl rfl ?aP (fun _ hk => hk.elim) ?aF ?aO ?aB ?aS ?aL ?_
          (case aP => exact rfl)
          (case aF => exact fun k_ hk j hj hne => Kd.fresh' (Kd.R_lt (hO1.row j hj)) k_ hk)
          (case aO => exact hO1.row 3 (by omega))
          (case aB => exact hO1.be)
          (case aS => exact hO1.be.size)
          (case aL => have := HLEN.out; omega)
          intro v1 w30 ho hb hg hat
          obtain ⟨Ao, co, hv1⟩ : ∃ A_ c_, v1 = .slice A_ (up4 (LL ts xs k1 m1 (m1 + 1) x) 1 (LL ts xs k1 m1 (m1 + 1) x 1 ++ [(tk ts q).get 1]) 3 ++ [(tk ts p).get 3]).length c_ := Kd.R_slice ho
          obtain ⟨n1, hn1_⟩ : ∃ k_, k_ = (up4 (LL ts xs k1 m1 (m1 + 1) x) 1 (LL ts xs k1 m1 (m1 + 1) x 1 ++ [(tk ts q).get 1]) 3 ++ [(tk ts p).get 3]).length := ⟨_, rfl⟩
          rw [← hn1_] at hv1
          clear hn1_
          subst hv1
          have z0 : w30.cell? ⟨g, 3, none⟩ = some (V1 3) := (blk_cell (blk_grown hO1.bk hg (Kd.R_ne (hO1.row 3 (by omega)) hO1.bk (by decide))) 3).trans rfl
          have f0 : w30.frozen? ⟨g, 3, none⟩ = false := blk_frozen (blk_grown hO1.bk hg (Kd.R_ne (hO1.row 3 (by omega)) hO1.bk (by decide))) 3
          have bx : BK w30 w.heap.size #[.int .i64 C, .slice (some ⟨bt, ot, none⟩) n c] 32 := blk_grown b1x hg (Kd.R_ne (hO1.row 3 (by omega)) b1x (by decide))
          refine hK.out _ _ ⟨bx.cell rfl, z0, cell_to hb hm0, cell_to hb hn1, cell_to hb t2⟩ (fun hHeld => ?_)
          clear hK K
          refine norm_ (a' := ?_) ?_ ?_
          rotate_left
          · show Act.put _ (some 102) _ = _
            simp only [Act.put, List.setIfInBounds_toArray, List.set_cons_zero, List.set_cons_succ, i64_w, i32_w]
            rfl
          refine pure_ (i := 20) (N := some 103) (v := ?_) (a' := ?_) #[true, true, true, true, true, true, true, true, true, true, true, true, true, true, true, true, true, true, true, true, true, false] rfl rfl (any_of HT_.out (by kernel_rfl)) (fun _ _ _ h => h) (Or.inl ⟨by rfl, ?_⟩) ?_ ?_
          rotate_left
          · intro w'
            go_simp
            with_reducible rfl
          rotate_left
          · simp only [Act.put, List.setIfInBounds_toArray, List.set_cons_zero, List.set_cons_succ, i64_w, i32_w]
            rfl
          refine last_ (i := 21) (N := none) #[true, true, true, true, true, true, true, true, true, true, true, true, true, true, true, true, true, true, true, true, true, true] rfl rfl (one_of HT_.out (by kernel_rfl)) (by decide) (fun K hK => ?_)
          refine skip_ (w1 := ?_) (by rfl) rfl ?_ ?_
          rotate_left
          · go_simp
            rfl
          refine hK.out _ _ ?_
          clear hK K
          refine done_ (done_of HT_.out (by kernel_rfl)) ?_

          have hO2 := hO1.app (i := 3) (by omega) ho hb hg hat
          have b2x : BK (w30.setCell ⟨g, 3, none⟩ (.slice Ao n1 co)) w.heap.size #[.int .i64 C, .slice (some ⟨bt, ot, none⟩) n c] 32 := blk_far bx (p := ⟨g, 3, none⟩) (blk_ne b1x hO1.bk (by decide)) (.slice Ao n1 co)
          generalize w30.setCell ⟨g, 3, none⟩ (.slice Ao n1 co) = w31 at hO2 b2x ⊢
          clear hHeld ho hb hg hat z0 f0 bx hO1 b1x HT_ HW_ HLEN
          generalize up4 V1 3 (Value.slice Ao n1 co) = V2 at hO2
          go_wp2_with fail
          go_roundw
          case rel => exact ⟨x + 1, by omega, by go_num, _, LL_col HQ.out HP.out ▸ hO2, b2x⟩
          case measure => simp [intOf]; omega
        · have hxm : x = k1 + 1 := by omega
          subst hxm
          go_wp2_with fail
          go_ret
          have hb : bordL ts xs = [LL ts xs k1 m1 (m1 + 1) (k1 + 1) 0, LL ts xs k1 m1 (m1 + 1) (k1 + 1) 1, LL ts xs k1 m1 (m1 + 1) (k1 + 1) 2, LL ts xs k1 m1 (m1 + 1) (k1 + 1) 3] := by
            unfold bordL
            rw [← HM.out, HK.out]; rfl
          rw [hb]
          exact ⟨_, rfl, HO.out.ows, HO.out.be⟩
end Go.Proofs.Ytgdmflmglkakgaa

/-
  Contract: the border words of a filling, by the statements' words. (mkborders2.py wrote it.)
-/
namespace Go.Proofs.Ytgdmflmglkakgaa
open Go Go.RowKit Go.Proofs Go.Proofs.YtgdmflmglkakgaaW.PrintWords Go.Proofs.YtgdmflmglkakgaaW.PrintLast Go.Proofs.YtgdmflmglkakgaaW.PrintMore Go.Proofs.Ytgdmflmglkakgaa.Q
set_option linter.unusedVariables false
set_option linter.unusedSimpArgs false

structure R4 (w0 W : World) (V : Nat → Value) (L : Nat → List Int) : Prop where
  row : ∀ i, i < 4 → Kd.R (Kd.int .i64) 2 W w0.heap.size (ok4 V i) (V i) (L i)
  be : Below w0.heap.size w0 W
theorem R4.to {w0 W W1 : World} {V : Nat → Value} {L : Nat → List Int} (h : R4 w0 W V L) (hb : Below W.heap.size W W1) : R4 w0 W1 V L :=
  ⟨fun i hi => Kd.R_below (h.row i hi) hb, below_to h.be hb⟩
theorem R4.app {w0 W W1 : World} {i : Nat} {V : Nat → Value} {L : Nat → List Int} {v : Value} {l : List Int} (h : R4 w0 W V L) (hi : i < 4)
    (ho : Kd.R (Kd.int .i64) 2 W1 w0.heap.size (ok4 V i) v l) (hb : Below w0.heap.size w0 W1) (hg : W.grownBy W1 (V i).ownBlock) (hat : v.ownBlock = (V i).ownBlock ∨ ∃ b, v.ownBlock = some b ∧ W.heap.size ≤ b) :
    R4 w0 W1 (up4 V i v) (up4 L i l) := by
  refine ⟨fun j hj => ?_, hb⟩
  by_cases e : j = i
  · subst e
    rw [up4_at, up4_at]
    exact Kd.R_mono ho (fun k hk m hm hne => by rw [up4_ne V v hne]; exact hk m hm hne)
  · rw [up4_ne V v e, up4_ne L l e]
    have h2 := Kd.R_after (ok := fun k => ∀ m, m < 4 → m ≠ j → m ≠ i → some k ≠ (V m).ownBlock) (v := V i) (Kd.R_mono (h.row j hj) (fun k hk => ⟨fun m hm h1 _ => hk m hm h1, hk i hi (Ne.symm e)⟩)) hg hat
    refine Kd.R_mono h2 (fun k hk m hm h1 => ?_)
    by_cases e2 : m = i
    · subst e2; rw [up4_at]; exact hk.2
    · rw [up4_ne V v e2]; exact hk.1 m hm h1 e2
theorem O4.of {w0 W : World} {V : Nat → Value} {L : Nat → List Int} (h : R4 w0 W V L) : O4 w0 (W.alloc (.cells #[V 0, V 1, V 2, V 3] 46)) W.heap.size V L :=
  ⟨BK.new _ _ _, h.be.size, fun i hi => Kd.R_alloc (h.row i hi) _, below_alloc h.be _⟩
theorem R4.start {w0 W : World} (h : Below w0.heap.size w0 W) : R4 w0 (al W 4) (fun i => .slice (some ⟨W.heap.size + i, 0, none⟩) 0 0) (fun _ => []) :=
  have f := four0 W (fun i => i) (fun i hi => hi) (fun i _ j _ h => Ne.symm h)
  ⟨fun i hi => R_empty (f.row i hi).1 (Nat.le_trans h.size (f.row i hi).2) (fun j hj hne => by
    intro e
    have e : some (W.heap.size + i) = some (W.heap.size + j) := e
    injection e with e
    exact f.ne i hi j hj hne e), below_to h f.be⟩
def sborders_T2 : Bool × List (List Nat × List Nat) := (true, [([], []), ([0], [0]), ([], []), ([2], [2]), ([3], [3]), ([4], [4]), ([1, 0, 1], [1]), ([5, 6, 0, 1, 2, 3, 4, 5, 6], [5])])
def sborders_B2 : List Nat := [0, 1, 0, 4, 12, 28, 3, 127]
theorem sborders_tab2 : rtab .any (opsOf Try.f37 2) = sborders_T2 := by kernel_rfl
theorem sborders_bits2 : waitsOk sborders_T2.2 sborders_B2 = true := by kernel_rfl
def sborders_T6 : Bool × List (List Nat × List Nat) := (true, [([], []), ([], []), ([1], [1]), ([], []), ([], []), ([3, 4], [3, 4]), ([5], [5]), ([6], [6]), ([7], [7]), ([2, 8], [2, 8]), ([9], [9]), ([10], [10]), ([11], [11]), ([0, 12], [0, 12]), ([13, 13, 0, 1, 2, 3, 4, 5, 6, 7, 8, 9, 10, 11, 12, 13], [0, 13])])
def sborders_B6 : List Nat := [0, 0, 2, 0, 0, 24, 56, 120, 248, 510, 1022, 2046, 4094, 8191, 16383]
theorem sborders_tab6 : rtab .any (opsOf Try.f37 6) = sborders_T6 := by kernel_rfl
theorem sborders_bits6 : waitsOk sborders_T6.2 sborders_B6 = true := by kernel_rfl
def sborders_T7 : Bool × List (List Nat × List Nat) := (true, [([], []), ([], []), ([1], [1]), ([], []), ([], []), ([3, 4], [3, 4]), ([5], [5]), ([], []), ([7], [7]), ([6, 8], [6, 8]), ([9], [9]), ([2, 10], [2, 10]), ([11], [11]), ([12], [12]), ([13], [13]), ([0, 14], [0, 14]), ([15, 15, 0, 1, 2, 3, 4, 5, 6, 7, 8, 9, 10, 11, 12, 13, 14, 15], [0, 15])])
def sborders_B7 : List Nat := [0, 0, 2, 0, 0, 24, 56, 0, 128, 504, 1016, 2046, 4094, 8190, 16382, 32767, 65535]
theorem sborders_tab7 : rtab .any (opsOf Try.f37 7) = sborders_T7 := by kernel_rfl
theorem sborders_bits7 : waitsOk sborders_T7.2 sborders_B7 = true := by kernel_rfl
def sborders_T11 : Bool × List (List Nat × List Nat) := (true, [([], []), ([], []), ([1], [1]), ([], []), ([3], [3]), ([4], [4]), ([], []), ([5, 6], [5, 6]), ([7], [7]), ([2, 8], [2, 8]), ([9], [9]), ([10], [10]), ([11], [11]), ([0, 12], [0, 12]), ([13, 13, 0, 1, 2, 3, 4, 5, 6, 7, 8, 9, 10, 11, 12, 13], [0, 13])])
def sborders_B11 : List Nat := [0, 0, 2, 0, 8, 24, 0, 120, 248, 510, 1022, 2046, 4094, 8191, 16383]
theorem sborders_tab11 : rtab .any (opsOf Try.f37 11) = sborders_T11 := by kernel_rfl
theorem sborders_bits11 : waitsOk sborders_T11.2 sborders_B11 = true := by kernel_rfl
def sborders_T12 : Bool × List (List Nat × List Nat) := (true, [([], []), ([], []), ([1], [1]), ([], []), ([], []), ([4], [4]), ([3, 5], [3, 5]), ([6], [6]), ([], []), ([7, 8], [7, 8]), ([9], [9]), ([2, 10], [2, 10]), ([11], [11]), ([12], [12]), ([13], [13]), ([0, 14], [0, 14]), ([15, 15, 0, 1, 2, 3, 4, 5, 6, 7, 8, 9, 10, 11, 12, 13, 14, 15], [0, 15])])
def sborders_B12 : List Nat := [0, 0, 2, 0, 0, 16, 56, 120, 0, 504, 1016, 2046, 4094, 8190, 16382, 32767, 65535]
theorem sborders_tab12 : rtab .any (opsOf Try.f37 12) = sborders_T12 := by kernel_rfl
theorem sborders_bits12 : waitsOk sborders_T12.2 sborders_B12 = true := by kernel_rfl
set_option maxHeartbeats 8000000 in
set_option maxRecDepth 100000 in
theorem specBorders_any (C : Int) (A : Option Addr) (ts : List T4) (n c : Nat) (A' : Option Addr) (xs : List (List Int)) (m c' : Nat) (w : World) (hn : n = ts.length) (hA : RT w A ts) (hl : n ≤ 35184372088832) (hm : m = xs.length) (hA' : RR w A' xs) (ht : Tab ts.length xs) :
    Calls Try.prog 37 #[.agg #[.int .i64 C, .slice A n c], .slice A' m c'] w fun e w' => ∃ v, e = .returned v ∧ OWS w' w.heap.size w'.heap.size v (bordL ts xs) (fun i => icells (rowAt (bordL ts xs) i)) ∧ Below w.heap.size w w' := by
  have HA := Lib.hid hA; have HN := Lib.hid hn; have HA' := Lib.hid hA'; have HT := Lib.hid ht
  have m8 : m ≤ 8 := by have := ht.h8; omega
  obtain ⟨m1, rfl⟩ : ∃ m1, m = m1 + 1 := ⟨m - 1, by have := ht.h1; omega⟩
  obtain ⟨k1, hk1⟩ : ∃ k1, width xs = k1 + 1 := ⟨width xs - 1, by have := ht.w1; omega⟩
  have k8 : k1 ≤ 7 := by have := ht.w8; omega
  have HK := Lib.hid hk1; have HM := Lib.hid hm
  clear hA hn hA' hm ht hk1
  have hlen : ∀ y, y < xs.length → rowLen xs y = k1 + 1 := fun y hy => (HT.out.len y hy).trans HK.out
  obtain ⟨b0, o0, A0, c0, hA0, -, h00, hr0, -, -⟩ := HA'.out 0 (by have := HM.out; omega)
  subst hA0
  rw [hlen 0 (by have := HM.out; omega), Nat.add_zero] at h00
  have HR0 := Lib.hid hr0; have HLEN0 := Lib.hid hlen
  clear hr0 hlen
  go_enter Try.func37, Try.ntmps37
  go_wp2_with fail
  have b1 : BK (w.alloc (.cells #[.int .i64 C, .slice A n c] 32)) w.heap.size #[.int .i64 C, .slice A n c] 32 := BK.new _ _ _
  have hb0 : Below w.heap.size w (w.alloc (.cells #[.int .i64 C, .slice A n c] 32)) := below_alloc (Below.refl _ _) _
  have hz : (w.alloc (.cells #[.int .i64 C, .slice A n c] 32)).heap.size = w.heap.size + 1 := by simp
  generalize (w.alloc (.cells #[.int .i64 C, .slice A n c] 32)) = W1 at b1 hb0 hz ⊢
  have HB0 := Lib.hid hb0; clear hb0
  have hR : R4 w ((((W1.alloc (.cells #[] 2)).alloc (.cells #[] 2)).alloc (.cells #[] 2)).alloc (.cells #[] 2)) (fun i => .slice (some ⟨W1.heap.size + i, 0, none⟩) 0 0) (fun _ => []) := R4.start HB0.out
  rw [hz] at hR
  clear hz
  have hR := (show (fun _ => [] : Nat → List Int) = LL ts xs k1 m1 0 0 by funext i; match i with | 0 => rfl | 1 => rfl | 2 => rfl | 3 => rfl | _ + 4 => rfl) ▸ hR
  have bX : BK ((((W1.alloc (.cells #[] 2)).alloc (.cells #[] 2)).alloc (.cells #[] 2)).alloc (.cells #[] 2)) w.heap.size #[.int .i64 C, .slice A n c] 32 := b1.below (al_below W1 4) b1.lt
  generalize ((((W1.alloc (.cells #[] 2)).alloc (.cells #[] 2)).alloc (.cells #[] 2)).alloc (.cells #[] 2)) = W5 at hR bX ⊢
  have hW := (Below.refl W5.heap.size W5).drew
  have hR1 := hR.to hW; have b1x := bX.below hW bX.lt
  clear hW hR bX b1
  refine start_ (n := 8) (S := fun w' => w'.cell? ⟨b0, o0, none⟩ = some (.slice A0 (k1 + 1) c0)) (ds := []) #[false, false, false, false, false, false, false, false] (by kernel_rfl) rfl rfl (cell_to hR1.be h00) (fun hHeld => ?_)
  refine with_tabW sborders_tab2 sborders_bits2 (fun HT_ HW_ => ?_)
  generalize W5.drew = wd at hR1 b1x hHeld ⊢
  refine pure_ (i := 0) (N := some 17) (v := ?_) (a' := ?_) #[true, false, false, false, false, false, false, false] rfl rfl (any_of HT_.out (by kernel_rfl)) (fun _ _ _ h => h) (Or.inl ⟨by rfl, ?_⟩) ?_ ?_
  rotate_left
  · intro w'
    go_simp
    with_reducible rfl
  rotate_left
  · simp only [Act.put, List.setIfInBounds_toArray, List.set_cons_zero, List.set_cons_succ, i64_w, i32_w]
    rfl
  refine pure_ (i := 1) (N := some 18) (v := ?_) (a' := ?_) #[true, true, false, false, false, false, false, false] rfl rfl (any_of HT_.out (by kernel_rfl)) (fun _ _ _ h => h) (Or.inl ⟨by rfl, ?_⟩) ?_ ?_
  rotate_left
  · intro w'
    go_simp
    with_reducible rfl
  rotate_left
  · simp only [Act.put, List.setIfInBounds_toArray, List.set_cons_zero, List.set_cons_succ, i64_w, i32_w]
    rfl
  refine pure_ (i := 2) (N := some 19) (v := ?_) (a' := ?_) #[true, true, true, false, false, false, false, false] rfl rfl (any_of HT_.out (by kernel_rfl)) (fun _ _ _ h => h) (Or.inl ⟨by rfl, ?_⟩) ?_ ?_
  rotate_left
  · intro w'
    go_simp
    with_reducible rfl
  rotate_left
  · simp only [Act.put, List.setIfInBounds_toArray, List.set_cons_zero, List.set_cons_succ, i64_w, i32_w]
    rfl
  refine pure_ (i := 3) (N := some 20) (v := ?_) (a' := ?_) #[true, true, true, true, false, false, false, false] rfl rfl (any_of HT_.out (by kernel_rfl)) (fun _ _ _ h => h) (Or.inl ⟨by rfl, ?_⟩) ?_ ?_
  rotate_left
  · intro w'
    go_simp
    with_reducible rfl
  rotate_left
  · simp only [Act.put, List.setIfInBounds_toArray, List.set_cons_zero, List.set_cons_succ, i64_w, i32_w]
    rfl
  refine pure_ (i := 6) (N := some 9) (v := ?_) (a' := ?_) #[true, true, true, true, false, false, true, false] rfl rfl (any_of HT_.out (by kernel_rfl)) (fun _ _ _ h => h) (Or.inl ⟨by rfl, ?_⟩) ?_ ?_
  rotate_left
  · intro w'
    go_simp
    with_reducible rfl
  rotate_left
  · simp only [Act.put, List.setIfInBounds_toArray, List.set_cons_zero, List.set_cons_succ, i64_w, i32_w]
    rfl
  refine take_ (i := 4) (N := some 21) (v := ?_) (a' := ?_) #[true, true, true, true, true, false, true, false] rfl rfl (take_ofW HT_.out HW_.out (by kernel_rfl)) (fun _ _ _ h => h) (Or.inl ⟨by rfl, ?_⟩) hHeld ?_ ?_
  rotate_left
  · intro w' s0
    go_simp
    with_reducible rfl
  rotate_left
  · simp only [Act.put, List.setIfInBounds_toArray, List.set_cons_zero, List.set_cons_succ, i64_w, i32_w]
    rfl
  refine pure_ (i := 5) (N := some 22) (v := ?_) (a' := ?_) #[true, true, true, true, true, true, true, false] rfl rfl (any_of HT_.out (by kernel_rfl)) (fun _ _ _ h => h) (Or.inl ⟨by rfl, ?_⟩) ?_ ?_
  rotate_left
  · intro w'
    go_simp
    with_reducible rfl
  rotate_left
  · simp only [Act.put, List.setIfInBounds_toArray, List.set_cons_zero, List.set_cons_succ, i64_w, i32_w]
    rfl
  refine pure_ (i := 7) (N := some 10) (v := ?_) (a' := ?_) #[true, true, true, true, true, true, true, true] rfl rfl (any_of HT_.out (by kernel_rfl)) (fun _ _ _ h => h) (Or.inl ⟨by rfl, ?_⟩) ?_ ?_
  rotate_left
  · intro w'
    go_simp
    with_reducible rfl
  rotate_left
  · simp only [Act.put, List.setIfInBounds_toArray, List.set_cons_zero, List.set_cons_succ, i64_w, i32_w]
    rfl
  refine done_ (done_of HT_.out (by kernel_rfl)) ?_

  have HR9 := Lib.hid hR1; have HBX := Lib.hid b1x
  clear hR1 b1x hHeld HT_ HW_
  go_wp2_with fail
  go_loopw [5, 7, 11] (fun v5 v7 i wr => ∃ y : Nat, y ≤ m1 + 1 ∧ i = .int .i64 y ∧ ∃ V, (v5 = V 0 ∧ v7 = V 2 ∧ V 1 = .slice (some ⟨w.heap.size + 1 + 1, 0, none⟩) 0 0 ∧ V 3 = .slice (some ⟨w.heap.size + 1 + 3, 0, none⟩) 0 0) ∧ R4 w wr V (LL ts xs k1 m1 y 0) ∧ BK wr w.heap.size #[.int .i64 C, .slice A n c] 32) (fun _ _ i _ => m1 + 1 - (intOf i).toNat)
  case atStart => exact ⟨0, by omega, rfl, (fun i => Value.slice (some ⟨w.heap.size + 1 + i, 0, none⟩) 0 0), ⟨rfl, rfl, rfl, rfl⟩, HR9.out, HBX.out⟩
  case round =>
    obtain ⟨y, hy, rfl, V, ⟨rfl, rfl, hV1, hV3⟩, hR, bB⟩ := hrel
    have HO := Lib.hid hR; have HBB := Lib.hid bB; have HV1 := Lib.hid hV1; have HV3 := Lib.hid hV3; clear hR bB hV1 hV3
    by_cases hlt : y < m1 + 1
    · have HY := Lib.hid (show y < xs.length by have := HM.out; omega)
      have i1 : (y : Int) < (m1 : Int) + 1 := by omega
      obtain ⟨b, o, Ay, cy, hAe, -, hy0, hry, -, -⟩ := HA'.out y HY.out
      obtain ⟨rfl, rfl⟩ : b0 = b ∧ o0 = o := by injection hAe with e; injection e with e1 e2; exact ⟨e1, e2⟩
      rw [HLEN0.out y HY.out] at hy0
      obtain ⟨by_, oy, hAy, -, hn0⟩ := hry 0 (by show 0 < rowLen xs y; rw [HLEN0.out y HY.out]; omega)
      subst hAy
      obtain ⟨by2, oy2, hE2, -, hn1⟩ := hry k1 (by show k1 < rowLen xs y; rw [HLEN0.out y HY.out]; omega)
      obtain ⟨rfl, rfl⟩ : by_ = by2 ∧ oy = oy2 := by injection hE2 with e; injection e with e1 e2; exact ⟨e1, e2⟩
      obtain ⟨q, hq⟩ : ∃ q : Nat, cell xs y 0 = q := ⟨(cell xs y 0).toNat, by have := HT.out.lo y 0 HY.out (by have := HK.out; omega); omega⟩
      obtain ⟨p, hp⟩ : ∃ p : Nat, cell xs y k1 = p := ⟨(cell xs y k1).toNat, by have := HT.out.lo y k1 HY.out (by have := HK.out; omega); omega⟩
      have hql : q < ts.length := by have := HT.out.up y 0 HY.out (by have := HK.out; omega); omega
      have hpl : p < ts.length := by have := HT.out.up y k1 HY.out (by have := HK.out; omega); omega
      have i3 : (q : Int) < n := by have := HN.out; omega
      have i4 : (p : Int) < n := by have := HN.out; omega
      have i5 : (k1 : Int) < (k1 : Int) + 1 := by omega
      rw [show ik (rowAt xs y) 0 = (q : Int) from hq, Nat.add_zero] at hn0
      rw [show ik (rowAt xs y) k1 = (p : Int) from hp] at hn1
      obtain ⟨bt, ot, hAt, -, t0, -, -, -⟩ := HA.out q hql
      subst hAt
      obtain ⟨bt2, ot2, hE3, -, -, -, t2, -⟩ := HA.out p hpl
      obtain ⟨rfl, rfl⟩ : bt = bt2 ∧ ot = ot2 := by injection hE3 with e; injection e with e1 e2; exact ⟨e1, e2⟩
      have HQ := Lib.hid hq; have HP := Lib.hid hp
      clear hq hp hql hpl hry hAe hE2 hE3
      go_wp2_with fail
      have hW := (Below.refl wr.heap.size wr).drew
      have hR1 := HO.out.to hW; have b1x := HBB.out.below hW HBB.out.lt
      have HLEN := Lib.hid (show (LL ts xs k1 m1 y 0 0).length ≤ 8 by have := LL_len ts xs k1 m1 y 0 0; omega)
      clear hW HO HBB
      refine start_ (n := 15) (S := fun w' => w'.cell? ⟨w.heap.size, 1, none⟩ = some (.slice (some ⟨bt, ot, none⟩) n c) ∧ w'.cell? ⟨b0, o0 + y, none⟩ = some (.slice (some ⟨by_, oy, none⟩) (k1 + 1) cy) ∧ w'.cell? ⟨by_, oy, none⟩ = some (.int .i64 q) ∧ w'.cell? ⟨bt, ot + q * 4, none⟩ = some (.int .i64 ((tk ts q).get 0))) (ds := []) #[false, false, false, false, false, false, false, false, false, false, false, false, false, false, false] (by kernel_rfl) rfl rfl ⟨b1x.cell rfl, cell_to hR1.be hy0, cell_to hR1.be hn0, cell_to hR1.be t0⟩ (fun hHeld => ?_)
      refine with_tabW sborders_tab6 sborders_bits6 (fun HT_ HW_ => ?_)
      generalize wr.drew = wd at hR1 b1x hHeld ⊢
      refine pure_ (i := 0) (N := some 28) (v := ?_) (a' := ?_) #[true, false, false, false, false, false, false, false, false, false, false, false, false, false, false] rfl rfl (any_of HT_.out (by kernel_rfl)) (fun _ _ _ h => h) (Or.inl ⟨by rfl, ?_⟩) ?_ ?_
      rotate_left
      · intro w'
        go_simp
        with_reducible rfl
      rotate_left
      · simp only [Act.put, List.setIfInBounds_toArray, List.set_cons_zero, List.set_cons_succ, i64_w, i32_w]
        rfl
      refine pure_ (i := 1) (N := some 29) (v := ?_) (a' := ?_) #[true, true, false, false, false, false, false, false, false, false, false, false, false, false, false] rfl rfl (any_of HT_.out (by kernel_rfl)) (fun _ _ _ h => h) (Or.inl ⟨by rfl, ?_⟩) ?_ ?_
      rotate_left
      · intro w'
        go_simp
        with_reducible rfl
      rotate_left
      · simp only [Act.put, List.setIfInBounds_toArray, List.set_cons_zero, List.set_cons_succ, i64_w, i32_w]
        rfl
      refine pure_ (i := 3) (N := some 31) (v := ?_) (a' := ?_) #[true, true, false, true, false, false, false, false, false, false, false, false, false, false, false] rfl rfl (any_of HT_.out (by kernel_rfl)) (fun _ _ _ h => h) (Or.inl ⟨by rfl, ?_⟩) ?_ ?_
      rotate_left
      · intro w'
        go_simp
        with_reducible rfl
      rotate_left
      · simp only [Act.put, List.setIfInBounds_toArray, List.set_cons_zero, List.set_cons_succ, i64_w, i32_w]
        rfl
      refine pure_ (i := 4) (N := some 32) (v := ?_) (a' := ?_) #[true, true, false, true, true, false, false, false, false, false, false, false, false, false, false] rfl rfl (any_of HT_.out (by kernel_rfl)) (fun _ _ _ h => h) (Or.inl ⟨by rfl, ?_⟩) ?_ ?_
      rotate_left
      · intro w'
        go_simp
        with_reducible rfl
      rotate_left
      · simp only [Act.put, List.setIfInBounds_toArray, List.set_cons_zero, List.set_cons_succ, i64_w, i32_w]
        rfl
      refine pure_ (i := 5) (N := some 33) (v := ?_) (a' := ?_) #[true, true, false, true, true, true, false, false, false, false, false, false, false, false, false] rfl rfl (any_of HT_.out (by kernel_rfl)) (fun _ _ _ h => h) (Or.inl ⟨by rfl, ?_⟩) ?_ ?_
      rotate_left
      · intro w'
        go_simp
        with_reducible rfl
      rotate_left
      · simp only [Act.put, List.setIfInBounds_toArray, List.set_cons_zero, List.set_cons_succ, i64_w, i32_w]
        rfl
      refine take_ (i := 2) (N := some 30) (v := ?_) (a' := ?_) #[true, true, true, true, true, true, false, false, false, false, false, false, false, false, false] rfl rfl (take_ofW HT_.out HW_.out (by kernel_rfl)) (fun _ _ _ h => h) (Or.inl ⟨by rfl, ?_⟩) hHeld ?_ ?_
      rotate_left
      · rintro w' ⟨s0, s1, s2, s3⟩
        go_simp
        with_reducible rfl
      rotate_left
      · simp only [Act.put, List.setIfInBounds_toArray, List.set_cons_zero, List.set_cons_succ, i64_w, i32_w]
        rfl
      refine take_ (i := 6) (N := some 34) (v := ?_) (a' := ?_) #[true, true, true, true, true, true, true, false, false, false, false, false, false, false, false] rfl rfl (take_ofW HT_.out HW_.out (by kernel_rfl)) (fun _ _ _ h => h) (Or.inl ⟨by rfl, ?_⟩) hHeld ?_ ?_
      rotate_left
      · rintro w' ⟨s0, s1, s2, s3⟩
        go_simp
        with_reducible rfl
      rotate_left
      · simp only [Act.put, List.setIfInBounds_toArray, List.set_cons_zero, List.set_cons_succ, i64_w, i32_w]
        rfl
      refine pure_ (i := 7) (N := some 35) (v := ?_) (a' := ?_) #[true, true, true, true, true, true, true, true, false, false, false, false, false, false, false] rfl rfl (any_of HT_.out (by kernel_rfl)) (fun _ _ _ h => h) (Or.inl ⟨by rfl, ?_⟩) ?_ ?_
      rotate_left
      · intro w'
        go_simp
        with_reducible rfl
      rotate_left
      · simp only [Act.put, List.setIfInBounds_toArray, List.set_cons_zero, List.set_cons_succ, i64_w, i32_w]
        rfl
      refine take_ (i := 8) (N := some 36) (v := ?_) (a' := ?_) #[true, true, true, true, true, true, true, true, true, false, false, false, false, false, false] rfl rfl (take_ofW HT_.out HW_.out (by kernel_rfl)) (fun _ _ _ h => h) (Or.inl ⟨by rfl, ?_⟩) hHeld ?_ ?_
      rotate_left
      · rintro w' ⟨s0, s1, s2, s3⟩
        go_simp
        with_reducible rfl
      rotate_left
      · simp only [Act.put, List.setIfInBounds_toArray, List.set_cons_zero, List.set_cons_succ, i64_w, i32_w]
        rfl
      refine pure_ (i := 9) (N := some 37) (v := ?_) (a' := ?_) #[true, true, true, true, true, true, true, true, true, true, false, false, false, false, false] rfl rfl (any_of HT_.out (by kernel_rfl)) (fun _ _ _ h => h) (Or.inl ⟨by rfl, ?_⟩) ?_ ?_
      rotate_left
      · intro w'
        go_simp
        with_reducible rfl
      rotate_left
      · simp only [Act.put, List.setIfInBounds_toArray, List.set_cons_zero, List.set_cons_succ, i64_w, i32_w]
        rfl
      refine pure_ (i := 10) (N := some 38) (v := ?_) (a' := ?_) #[true, true, true, true, true, true, true, true, true, true, true, false, false, false, false] rfl rfl (any_of HT_.out (by kernel_rfl)) (fun _ _ _ h => h) (Or.inl ⟨by rfl, ?_⟩) ?_ ?_
      rotate_left
      · intro w'
        go_simp
        with_reducible rfl
      rotate_left
      · simp only [Act.put, List.setIfInBounds_toArray, List.set_cons_zero, List.set_cons_succ, i64_w, i32_w]
        rfl
      refine take_ (i := 11) (N := some 39) (v := ?_) (a' := ?_) #[true, true, true, true, true, true, true, true, true, true, true, true, false, false, false] rfl rfl (take_ofW HT_.out HW_.out (by kernel_rfl)) (fun _ _ _ h => h) (Or.inl ⟨by rfl, ?_⟩) hHeld ?_ ?_
      rotate_left
      · rintro w' ⟨s0, s1, s2, s3⟩
        go_simp
        with_reducible rfl
      rotate_left
      · simp only [Act.put, List.setIfInBounds_toArray, List.set_cons_zero, List.set_cons_succ, i64_w, i32_w]
        rfl
      refine one_ (i := 12) (N := some 40) #[true, true, true, true, true, true, true, true, true, true, true, true, true, false, false] rfl rfl (one_of HT_.out (by kernel_rfl)) (by decide) (fun K hK => ?_)
      refine value_ (w1 := ?_) (v := ?_) (by rfl) rfl ?_ ?_
      rotate_left 2
      · go_simp
        constructor
        · rfl
        · rfl
      refine hK.out _ _ ⟨cell_to (below_alloc (Below.refl _ _) _) hHeld.1, cell_to (below_alloc (Below.refl _ _) _) hHeld.2.1, cell_to (below_alloc (Below.refl _ _) _) hHeld.2.2.1, cell_to (below_alloc (Below.refl _ _) _) hHeld.2.2.2⟩ (fun hHeld => ?_)
      clear hK K
      refine norm_ (a' := ?_) ?_ ?_
      rotate_left
      · show Act.put _ (some 40) _ = _
        simp only [Act.put, List.setIfInBounds_toArray, List.set_cons_zero, List.set_cons_succ, i64_w, i32_w]
        rfl
      refine one_ (i := 13) (N := some 41) #[true, true, true, true, true, true, true, true, true, true, true, true, true, true, false] rfl rfl (one_of HT_.out (by kernel_rfl)) (by decide) (fun K hK => ?_)
      refine Kd.R_append_step (Kd.int .i64) (w0 := w) w.heap.size (by rfl) (.tmp 28) (.tmp 40) 46 2 (.int .i64 0) 8 rfl Try.underlying46 info2 rfl (by decide) (by omega) (V 0) (LL ts xs k1 m1 y 0 0) ((tk ts q).get 0) [.int .i64 ((tk ts q).get 0)] (ok4 V 0) (fun _ => False) rfl rfl ?aP (fun _ hk => hk.elim) ?aF ?aO ?aB ?aS ?aL ?_
      (case aP => exact rfl)
      (case aF => exact fun k_ hk j hj hne => Kd.fresh' (Kd.R_lt (hR1.row j hj)) k_ hk)
      (case aO => exact hR1.row 0 (by omega))
      (case aB => exact hR1.be)
      (case aS => exact hR1.be.size)
      (case aL => have := HLEN.out; omega)
      intro v1 w28 ho hb hg hat
      have bx : BK w28 w.heap.size #[.int .i64 C, .slice (some ⟨bt, ot, none⟩) n c] 32 := blk_grown b1x hg (Kd.R_ne (hR1.row 0 (by omega)) b1x (by decide))
      refine hK.out _ _ ⟨bx.cell rfl, cell_to hb hy0, cell_to hb hn0, cell_to hb t0⟩ (fun hHeld => ?_)
      clear hK K
      refine norm_ (a' := ?_) ?_ ?_
      rotate_left
      · show Act.put _ (some 41) _ = _
        simp only [Act.put, List.setIfInBounds_toArray, List.set_cons_zero, List.set_cons_succ, i64_w, i32_w]
        rfl
      refine pure_ (i := 14) (N := some 5) (v := ?_) (a' := ?_) #[true, true, true, true, true, true, true, true, true, true, true, true, true, true, true] rfl rfl (any_of HT_.out (by kernel_rfl)) (fun _ _ _ h => h) (Or.inl ⟨by rfl, ?_⟩) ?_ ?_
      rotate_left
      · intro w'
        go_simp
        with_reducible rfl
      rotate_left
      · simp only [Act.put, List.setIfInBounds_toArray, List.set_cons_zero, List.set_cons_succ, i64_w, i32_w]
        rfl
      refine done_ (done_of HT_.out (by kernel_rfl)) ?_

      have hR2 := hR1.app (i := 0) (by omega) ho hb hg hat
      clear hHeld ho hb hg hat hR1 b1x HT_ HW_ HLEN
      go_wp2_with fail
      have hW := (Below.refl w28.heap.size w28).drew
      have hR1 := hR2.to hW; have b1x := bx.below hW bx.lt
      have HLEN := Lib.hid (show (up4 (LL ts xs k1 m1 y 0) 0 (LL ts xs k1 m1 y 0 0 ++ [(tk ts q).get 0]) 2).length ≤ 8 by rw [up4_ne _ _ (by decide)]; have := LL_len ts xs k1 m1 y 0 2; omega)
      clear hW hR2 bx
      refine start_ (n := 17) (S := fun w' => w'.cell? ⟨w.heap.size, 1, none⟩ = some (.slice (some ⟨bt, ot, none⟩) n c) ∧ w'.cell? ⟨b0, o0 + y, none⟩ = some (.slice (some ⟨by_, oy, none⟩) (k1 + 1) cy) ∧ w'.cell? ⟨by_, oy + k1, none⟩ = some (.int .i64 p) ∧ w'.cell? ⟨bt, ot + p * 4 + 2, none⟩ = some (.int .i64 ((tk ts p).get 2))) (ds := []) #[false, false, false, false, false, false, false, false, false, false, false, false, false, false, false, false, false] (by kernel_rfl) rfl rfl ⟨b1x.cell rfl, cell_to hR1.be hy0, cell_to hR1.be hn1, cell_to hR1.be t2⟩ (fun hHeld => ?_)
      refine with_tabW sborders_tab7 sborders_bits7 (fun HT_ HW_ => ?_)
      generalize w28.drew = wd at hR1 b1x hHeld ⊢
      refine pure_ (i := 0) (N := some 42) (v := ?_) (a' := ?_) #[true, false, false, false, false, false, false, false, false, false, false, false, false, false, false, false, false] rfl rfl (any_of HT_.out (by kernel_rfl)) (fun _ _ _ h => h) (Or.inl ⟨by rfl, ?_⟩) ?_ ?_
      rotate_left
      · intro w'
        go_simp
        with_reducible rfl
      rotate_left
      · simp only [Act.put, List.setIfInBounds_toArray, List.set_cons_zero, List.set_cons_succ, i64_w, i32_w]
        rfl
      refine pure_ (i := 1) (N := some 43) (v := ?_) (a' := ?_) #[true, true, false, false, false, false, false, false, false, false, false, false, false, false, false, false, false] rfl rfl (any_of HT_.out (by kernel_rfl)) (fun _ _ _ h => h) (Or.inl ⟨by rfl, ?_⟩) ?_ ?_
      rotate_left
      · intro w'
        go_simp
        with_reducible rfl
      rotate_left
      · simp only [Act.put, List.setIfInBounds_toArray, List.set_cons_zero, List.set_cons_succ, i64_w, i32_w]
        rfl
      refine pure_ (i := 3) (N := some 45) (v := ?_) (a' := ?_) #[true, true, false, true, false, false, false, false, false, false, false, false, false, false, false, false, false] rfl rfl (any_of HT_.out (by kernel_rfl)) (fun _ _ _ h => h) (Or.inl ⟨by rfl, ?_⟩) ?_ ?_
      rotate_left
      · intro w'
        go_simp
        with_reducible rfl
      rotate_left
      · simp only [Act.put, List.setIfInBounds_toArray, List.set_cons_zero, List.set_cons_succ, i64_w, i32_w]
        rfl
      refine pure_ (i := 4) (N := some 46) (v := ?_) (a' := ?_) #[true, true, false, true, true, false, false, false, false, false, false, false, false, false, false, false, false] rfl rfl (any_of HT_.out (by kernel_rfl)) (fun _ _ _ h => h) (Or.inl ⟨by rfl, ?_⟩) ?_ ?_
      rotate_left
      · intro w'
        go_simp
        with_reducible rfl
      rotate_left
      · simp only [Act.put, List.setIfInBounds_toArray, List.set_cons_zero, List.set_cons_succ, i64_w, i32_w]
        rfl
      refine pure_ (i := 5) (N := some 47) (v := ?_) (a' := ?_) #[true, true, false, true, true, true, false, false, false, false, false, false, false, false, false, false, false] rfl rfl (any_of HT_.out (by kernel_rfl)) (fun _ _ _ h => h) (Or.inl ⟨by rfl, ?_⟩) ?_ ?_
      rotate_left
      · intro w'
        go_simp
        with_reducible rfl
      rotate_left
      · simp only [Act.put, List.setIfInBounds_toArray, List.set_cons_zero, List.set_cons_succ, i64_w, i32_w]
        rfl
      refine pure_ (i := 7) (N := some 49) (v := ?_) (a' := ?_) #[true, true, false, true, true, true, false, true, false, false, false, false, false, false, false, false, false] rfl rfl (any_of HT_.out (by kernel_rfl)) (fun _ _ _ h => h) (Or.inl ⟨by rfl, ?_⟩) ?_ ?_
      rotate_left
      · intro w'
        go_simp
        with_reducible rfl
      rotate_left
      · simp only [Act.put, List.setIfInBounds_toArray, List.set_cons_zero, List.set_cons_succ, i64_w, i32_w]
        rfl
      refine pure_ (i := 8) (N := some 50) (v := ?_) (a' := ?_) #[true, true, false, true, true, true, false, true, true, false, false, false, false, false, false, false, false] rfl rfl (any_of HT_.out (by kernel_rfl)) (fun _ _ _ h => h) (Or.inl ⟨by rfl, ?_⟩) ?_ ?_
      rotate_left
      · intro w'
        go_simp
        with_reducible rfl
      rotate_left
      · simp only [Act.put, List.setIfInBounds_toArray, List.set_cons_zero, List.set_cons_succ, i64_w, i32_w]
        rfl
      rw [wrapN k1 (by omega)]
      refine take_ (i := 2) (N := some 44) (v := ?_) (a' := ?_) #[true, true, true, true, true, true, false, true, true, false, false, false, false, false, false, false, false] rfl rfl (take_ofW HT_.out HW_.out (by kernel_rfl)) (fun _ _ _ h => h) (Or.inl ⟨by rfl, ?_⟩) hHeld ?_ ?_
      rotate_left
      · rintro w' ⟨s0, s1, s2, s3⟩
        go_simp
        with_reducible rfl
      rotate_left
      · simp only [Act.put, List.setIfInBounds_toArray, List.set_cons_zero, List.set_cons_succ, i64_w, i32_w]
        rfl
      refine take_ (i := 6) (N := some 48) (v := ?_) (a' := ?_) #[true, true, true, true, true, true, true, true, true, false, false, false, false, false, false, false, false] rfl rfl (take_ofW HT_.out HW_.out (by kernel_rfl)) (fun _ _ _ h => h) (Or.inl ⟨by rfl, ?_⟩) hHeld ?_ ?_
      rotate_left
      · rintro w' ⟨s0, s1, s2, s3⟩
        go_simp
        with_reducible rfl
      rotate_left
      · simp only [Act.put, List.setIfInBounds_toArray, List.set_cons_zero, List.set_cons_succ, i64_w, i32_w]
        rfl
      refine pure_ (i := 9) (N := some 51) (v := ?_) (a' := ?_) #[true, true, true, true, true, true, true, true, true, true, false, false, false, false, false, false, false] rfl rfl (any_of HT_.out (by kernel_rfl)) (fun _ _ _ h => h) (Or.inl ⟨by rfl, ?_⟩) ?_ ?_
      rotate_left
      · intro w'
        go_simp
        with_reducible rfl
      rotate_left
      · simp only [Act.put, List.setIfInBounds_toArray, List.set_cons_zero, List.set_cons_succ, i64_w, i32_w]
        rfl
      refine take_ (i := 10) (N := some 52) (v := ?_) (a' := ?_) #[true, true, true, true, true, true, true, true, true, true, true, false, false, false, false, false, false] rfl rfl (take_ofW HT_.out HW_.out (by kernel_rfl)) (fun _ _ _ h => h) (Or.inl ⟨by rfl, ?_⟩) hHeld ?_ ?_
      rotate_left
      · rintro w' ⟨s0, s1, s2, s3⟩
        go_simp
        with_reducible rfl
      rotate_left
      · simp only [Act.put, List.setIfInBounds_toArray, List.set_cons_zero, List.set_cons_succ, i64_w, i32_w]
        rfl
      refine pure_ (i := 11) (N := some 53) (v := ?_) (a' := ?_) #[true, true, true, true, true, true, true, true, true, true, true, true, false, false, false, false, false] rfl rfl (any_of HT_.out (by kernel_rfl)) (fun _ _ _ h => h) (Or.inl ⟨by rfl, ?_⟩) ?_ ?_
      rotate_left
      · intro w'
        go_simp
        with_reducible rfl
      rotate_left
      · simp only [Act.put, List.setIfInBounds_toArray, List.set_cons_zero, List.set_cons_succ, i64_w, i32_w]
        rfl
      refine pure_ (i := 12) (N := some 54) (v := ?_) (a' := ?_) #[true, true, true, true, true, true, true, true, true, true, true, true, true, false, false, false, false] rfl rfl (any_of HT_.out (by kernel_rfl)) (fun _ _ _ h => h) (Or.inl ⟨by rfl, ?_⟩) ?_ ?_
      rotate_left
      · intro w'
        go_simp
        with_reducible rfl
      rotate_left
      · simp only [Act.put, List.setIfInBounds_toArray, List.set_cons_zero, List.set_cons_succ, i64_w, i32_w]
        rfl
      refine take_ (i := 13) (N := some 55) (v := ?_) (a' := ?_) #[true, true, true, true, true, true, true, true, true, true, true, true, true, true, false, false, false] rfl rfl (take_ofW HT_.out HW_.out (by kernel_rfl)) (fun _ _ _ h => h) (Or.inl ⟨by rfl, ?_⟩) hHeld ?_ ?_
      rotate_left
      · rintro w' ⟨s0, s1, s2, s3⟩
        go_simp
        with_reducible rfl
      rotate_left
      · simp only [Act.put, List.setIfInBounds_toArray, List.set_cons_zero, List.set_cons_succ, i64_w, i32_w]
        rfl
      refine one_ (i := 14) (N := some 56) #[true, true, true, true, true, true, true, true, true, true, true, true, true, true, true, false, false] rfl rfl (one_of HT_.out (by kernel_rfl)) (by decide) (fun K hK => ?_)
      refine value_ (w1 := ?_) (v := ?_) (by rfl) rfl ?_ ?_
      rotate_left 2
      · go_simp
        constructor
        · rfl
        · rfl
      refine hK.out _ _ ⟨cell_to (below_alloc (Below.refl _ _) _) hHeld.1, cell_to (below_alloc (Below.refl _ _) _) hHeld.2.1, cell_to (below_alloc (Below.refl _ _) _) hHeld.2.2.1, cell_to (below_alloc (Below.refl _ _) _) hHeld.2.2.2⟩ (fun hHeld => ?_)
      clear hK K
      refine norm_ (a' := ?_) ?_ ?_
      rotate_left
      · show Act.put _ (some 56) _ = _
        simp only [Act.put, List.setIfInBounds_toArray, List.set_cons_zero, List.set_cons_succ, i64_w, i32_w]
        rfl
      refine one_ (i := 15) (N := some 57) #[true, true, true, true, true, true, true, true, true, true, true, true, true, true, true, true, false] rfl rfl (one_of HT_.out (by kernel_rfl)) (by decide) (fun K hK => ?_)
      refine Kd.R_append_step (Kd.int .i64) (w0 := w) w.heap.size (by rfl) (.tmp 42) (.tmp 56) 46 2 (.int .i64 0) 8 rfl Try.underlying46 info2 rfl (by decide) (by omega) ((up4 V 0 v1) 2) (up4 (LL ts xs k1 m1 y 0) 0 (LL ts xs k1 m1 y 0 0 ++ [(tk ts q).get 0]) 2) ((tk ts p).get 2) [.int .i64 ((tk ts p).get 2)] (ok4 (up4 V 0 v1) 2) (fun _ => False) rfl rfl ?aP (fun _ hk => hk.elim) ?aF ?aO ?aB ?aS ?aL ?_
      (case aP => exact rfl)
      (case aF => exact fun k_ hk j hj hne => Kd.fresh' (Kd.R_lt (hR1.row j hj)) k_ hk)
      (case aO => exact hR1.row 2 (by omega))
      (case aB => exact hR1.be)
      (case aS => exact hR1.be.size)
      (case aL => have := HLEN.out; omega)
      intro v2 w30 ho hb hg hat
      have bx : BK w30 w.heap.size #[.int .i64 C, .slice (some ⟨bt, ot, none⟩) n c] 32 := blk_grown b1x hg (Kd.R_ne (hR1.row 2 (by omega)) b1x (by decide))
      refine hK.out _ _ ⟨bx.cell rfl, cell_to hb hy0, cell_to hb hn1, cell_to hb t2⟩ (fun hHeld => ?_)
      clear hK K
      refine norm_ (a' := ?_) ?_ ?_
      rotate_left
      · show Act.put _ (some 57) _ = _
        simp only [Act.put, List.setIfInBounds_toArray, List.set_cons_zero, List.set_cons_succ, i64_w, i32_w]
        rfl
      refine pure_ (i := 16) (N := some 7) (v := ?_) (a' := ?_) #[true, true, true, true, true, true, true, true, true, true, true, true, true, true, true, true, true] rfl rfl (any_of HT_.out (by kernel_rfl)) (fun _ _ _ h => h) (Or.inl ⟨by rfl, ?_⟩) ?_ ?_
      rotate_left
      · intro w'
        go_simp
        with_reducible rfl
      rotate_left
      · simp only [Act.put, List.setIfInBounds_toArray, List.set_cons_zero, List.set_cons_succ, i64_w, i32_w]
        rfl
      refine done_ (done_of HT_.out (by kernel_rfl)) ?_

      have hR2 := hR1.app (i := 2) (by omega) ho hb hg hat
      clear hHeld ho hb hg hat hR1 b1x HT_ HW_ HLEN
      go_wp2_with fail
      go_roundw
      case rel => exact ⟨y + 1, by omega, by go_num, up4 (up4 V 0 v1) 2 v2, ⟨rfl, rfl, HV1.out, HV3.out⟩, LL_row HQ.out HP.out ▸ hR2, bx⟩
      case measure => simp [intOf]; omega
    · have hym : y = m1 + 1 := by omega
      subst hym
      go_wp2_with fail
      go_loopw [6, 8, 12] (fun v6 v8 i wr => ∃ x : Nat, x ≤ k1 + 1 ∧ i = .int .i64 x ∧ ∃ U, (v6 = U 1 ∧ v8 = U 3 ∧ U 0 = V 0 ∧ U 2 = V 2) ∧ R4 w wr U (LL ts xs k1 m1 (m1 + 1) x) ∧ BK wr w.heap.size #[.int .i64 C, .slice A n c] 32) (fun _ _ i _ => k1 + 1 - (intOf i).toNat)
      case atStart => exact ⟨0, by omega, rfl, V, ⟨HV1.out.symm, HV3.out.symm, rfl, rfl⟩, HO.out, HBB.out⟩
      case round =>
        clear HO HBB
        obtain ⟨x, hx, rfl, U, ⟨rfl, rfl, hU0, hU2⟩, hR, bB⟩ := hrel
        have HO := Lib.hid hR; have HBB := Lib.hid bB; have HU0 := Lib.hid hU0; have HU2 := Lib.hid hU2; clear hR bB hU0 hU2
        by_cases hlt : x < k1 + 1
        · have i1 : (x : Int) < (k1 : Int) + 1 := by omega
          obtain ⟨by_, oy, hAy, -, hn0⟩ := HR0.out x (by show x < rowLen xs 0; rw [HLEN0.out 0 (by have := HM.out; omega)]; exact hlt)
          subst hAy
          obtain ⟨b, o, Am, cm, hAe, -, hm0, hrm, -, -⟩ := HA'.out m1 (by have := HM.out; omega)
          obtain ⟨rfl, rfl⟩ : b0 = b ∧ o0 = o := by injection hAe with e; injection e with e1 e2; exact ⟨e1, e2⟩
          rw [HLEN0.out m1 (by have := HM.out; omega)] at hm0
          obtain ⟨bm, om, hAm, -, hn1⟩ := hrm x (by show x < rowLen xs m1; rw [HLEN0.out m1 (by have := HM.out; omega)]; exact hlt)
          subst hAm
          obtain ⟨q, hq⟩ : ∃ q : Nat, cell xs 0 x = q := ⟨(cell xs 0 x).toNat, by have := HT.out.lo 0 x (by have := HM.out; omega) (by have := HK.out; omega); omega⟩
          obtain ⟨p, hp⟩ : ∃ p : Nat, cell xs m1 x = p := ⟨(cell xs m1 x).toNat, by have := HT.out.lo m1 x (by have := HM.out; omega) (by have := HK.out; omega); omega⟩
          have hql : q < ts.length := by have := HT.out.up 0 x (by have := HM.out; omega) (by have := HK.out; omega); omega
          have hpl : p < ts.length := by have := HT.out.up m1 x (by have := HM.out; omega) (by have := HK.out; omega); omega
          have i3 : (q : Int) < n := by have := HN.out; omega
          have i4 : (p : Int) < n := by have := HN.out; omega
          have i5 : (m1 : Int) < (m1 : Int) + 1 := by omega
          rw [show ik (rowAt xs 0) x = (q : Int) from hq] at hn0
          rw [show ik (rowAt xs m1) x = (p : Int) from hp] at hn1
          obtain ⟨bt, ot, hAt, -, -, t0, -, -⟩ := HA.out q hql
          subst hAt
          obtain ⟨bt2, ot2, hE3, -, -, -, -, t2⟩ := HA.out p hpl
          obtain ⟨rfl, rfl⟩ : bt = bt2 ∧ ot = ot2 := by injection hE3 with e; injection e with e1 e2; exact ⟨e1, e2⟩
          have HQ := Lib.hid hq; have HP := Lib.hid hp
          clear hq hp hql hpl hrm hAe hE3
          go_wp2_with fail
          have hW := (Below.refl wr.heap.size wr).drew
          have hR1 := HO.out.to hW; have b1x := HBB.out.below hW HBB.out.lt
          have HLEN := Lib.hid (show (LL ts xs k1 m1 (m1 + 1) x 1).length ≤ 16 by have := LL_len ts xs k1 m1 (m1 + 1) x 1; omega)
          clear hW HO HBB
          refine start_ (n := 15) (S := fun w' => w'.cell? ⟨w.heap.size, 1, none⟩ = some (.slice (some ⟨bt, ot, none⟩) n c) ∧ w'.cell? ⟨b0, o0, none⟩ = some (.slice (some ⟨by_, oy, none⟩) (k1 + 1) c0) ∧ w'.cell? ⟨by_, oy + x, none⟩ = some (.int .i64 q) ∧ w'.cell? ⟨bt, ot + q * 4 + 1, none⟩ = some (.int .i64 ((tk ts q).get 1))) (ds := []) #[false, false, false, false, false, false, false, false, false, false, false, false, false, false, false] (by kernel_rfl) rfl rfl ⟨b1x.cell rfl, cell_to hR1.be h00, cell_to hR1.be hn0, cell_to hR1.be t0⟩ (fun hHeld => ?_)
          refine with_tabW sborders_tab11 sborders_bits11 (fun HT_ HW_ => ?_)
          generalize wr.drew = wd at hR1 b1x hHeld ⊢
          refine pure_ (i := 0) (N := some 63) (v := ?_) (a' := ?_) #[true, false, false, false, false, false, false, false, false, false, false, false, false, false, false] rfl rfl (any_of HT_.out (by kernel_rfl)) (fun _ _ _ h => h) (Or.inl ⟨by rfl, ?_⟩) ?_ ?_
          rotate_left
          · intro w'
            go_simp
            with_reducible rfl
          rotate_left
          · simp only [Act.put, List.setIfInBounds_toArray, List.set_cons_zero, List.set_cons_succ, i64_w, i32_w]
            rfl
          refine pure_ (i := 1) (N := some 64) (v := ?_) (a' := ?_) #[true, true, false, false, false, false, false, false, false, false, false, false, false, false, false] rfl rfl (any_of HT_.out (by kernel_rfl)) (fun _ _ _ h => h) (Or.inl ⟨by rfl, ?_⟩) ?_ ?_
          rotate_left
          · intro w'
            go_simp
            with_reducible rfl
          rotate_left
          · simp only [Act.put, List.setIfInBounds_toArray, List.set_cons_zero, List.set_cons_succ, i64_w, i32_w]
            rfl
          refine pure_ (i := 3) (N := some 66) (v := ?_) (a' := ?_) #[true, true, false, true, false, false, false, false, false, false, false, false, false, false, false] rfl rfl (any_of HT_.out (by kernel_rfl)) (fun _ _ _ h => h) (Or.inl ⟨by rfl, ?_⟩) ?_ ?_
          rotate_left
          · intro w'
            go_simp
            with_reducible rfl
          rotate_left
          · simp only [Act.put, List.setIfInBounds_toArray, List.set_cons_zero, List.set_cons_succ, i64_w, i32_w]
            rfl
          refine pure_ (i := 4) (N := some 67) (v := ?_) (a' := ?_) #[true, true, false, true, true, false, false, false, false, false, false, false, false, false, false] rfl rfl (any_of HT_.out (by kernel_rfl)) (fun _ _ _ h => h) (Or.inl ⟨by rfl, ?_⟩) ?_ ?_
          rotate_left
          · intro w'
            go_simp
            with_reducible rfl
          rotate_left
          · simp only [Act.put, List.setIfInBounds_toArray, List.set_cons_zero, List.set_cons_succ, i64_w, i32_w]
            rfl
          refine pure_ (i := 6) (N := some 69) (v := ?_) (a' := ?_) #[true, true, false, true, true, false, true, false, false, false, false, false, false, false, false] rfl rfl (any_of HT_.out (by kernel_rfl)) (fun _ _ _ h => h) (Or.inl ⟨by rfl, ?_⟩) ?_ ?_
          rotate_left
          · intro w'
            go_simp
            with_reducible rfl
          rotate_left
          · simp only [Act.put, List.setIfInBounds_toArray, List.set_cons_zero, List.set_cons_succ, i64_w, i32_w]
            rfl
          refine take_ (i := 2) (N := some 65) (v := ?_) (a' := ?_) #[true, true, true, true, true, false, true, false, false, false, false, false, false, false, false] rfl rfl (take_ofW HT_.out HW_.out (by kernel_rfl)) (fun _ _ _ h => h) (Or.inl ⟨by rfl, ?_⟩) hHeld ?_ ?_
          rotate_left
          · rintro w' ⟨s0, s1, s2, s3⟩
            go_simp
            with_reducible rfl
          rotate_left
          · simp only [Act.put, List.setIfInBounds_toArray, List.set_cons_zero, List.set_cons_succ, i64_w, i32_w]
            rfl
          refine take_ (i := 5) (N := some 68) (v := ?_) (a' := ?_) #[true, true, true, true, true, true, true, false, false, false, false, false, false, false, false] rfl rfl (take_ofW HT_.out HW_.out (by kernel_rfl)) (fun _ _ _ h => h) (Or.inl ⟨by rfl, ?_⟩) hHeld ?_ ?_
          rotate_left
          · rintro w' ⟨s0, s1, s2, s3⟩
            go_simp
            with_reducible rfl
          rotate_left
          · simp only [Act.put, List.setIfInBounds_toArray, List.set_cons_zero, List.set_cons_succ, i64_w, i32_w]
            rfl
          refine pure_ (i := 7) (N := some 70) (v := ?_) (a' := ?_) #[true, true, true, true, true, true, true, true, false, false, false, false, false, false, false] rfl rfl (any_of HT_.out (by kernel_rfl)) (fun _ _ _ h => h) (Or.inl ⟨by rfl, ?_⟩) ?_ ?_
          rotate_left
          · intro w'
            go_simp
            with_reducible rfl
          rotate_left
          · simp only [Act.put, List.setIfInBounds_toArray, List.set_cons_zero, List.set_cons_succ, i64_w, i32_w]
            rfl
          refine take_ (i := 8) (N := some 71) (v := ?_) (a' := ?_) #[true, true, true, true, true, true, true, true, true, false, false, false, false, false, false] rfl rfl (take_ofW HT_.out HW_.out (by kernel_rfl)) (fun _ _ _ h => h) (Or.inl ⟨by rfl, ?_⟩) hHeld ?_ ?_
          rotate_left
          · rintro w' ⟨s0, s1, s2, s3⟩
            go_simp
            with_reducible rfl
          rotate_left
          · simp only [Act.put, List.setIfInBounds_toArray, List.set_cons_zero, List.set_cons_succ, i64_w, i32_w]
            rfl
          refine pure_ (i := 9) (N := some 72) (v := ?_) (a' := ?_) #[true, true, true, true, true, true, true, true, true, true, false, false, false, false, false] rfl rfl (any_of HT_.out (by kernel_rfl)) (fun _ _ _ h => h) (Or.inl ⟨by rfl, ?_⟩) ?_ ?_
          rotate_left
          · intro w'
            go_simp
            with_reducible rfl
          rotate_left
          · simp only [Act.put, List.setIfInBounds_toArray, List.set_cons_zero, List.set_cons_succ, i64_w, i32_w]
            rfl
          refine pure_ (i := 10) (N := some 73) (v := ?_) (a' := ?_) #[true, true, true, true, true, true, true, true, true, true, true, false, false, false, false] rfl rfl (any_of HT_.out (by kernel_rfl)) (fun _ _ _ h => h) (Or.inl ⟨by rfl, ?_⟩) ?_ ?_
          rotate_left
          · intro w'
            go_simp
            with_reducible rfl
          rotate_left
          · simp only [Act.put, List.setIfInBounds_toArray, List.set_cons_zero, List.set_cons_succ, i64_w, i32_w]
            rfl
          refine take_ (i := 11) (N := some 74) (v := ?_) (a' := ?_) #[true, true, true, true, true, true, true, true, true, true, true, true, false, false, false] rfl rfl (take_ofW HT_.out HW_.out (by kernel_rfl)) (fun _ _ _ h => h) (Or.inl ⟨by rfl, ?_⟩) hHeld ?_ ?_
          rotate_left
          · rintro w' ⟨s0, s1, s2, s3⟩
            go_simp
            with_reducible rfl
          rotate_left
          · simp only [Act.put, List.setIfInBounds_toArray, List.set_cons_zero, List.set_cons_succ, i64_w, i32_w]
            rfl
          refine one_ (i := 12) (N := some 75) #[true, true, true, true, true, true, true, true, true, true, true, true, true, false, false] rfl rfl (one_of HT_.out (by kernel_rfl)) (by decide) (fun K hK => ?_)
          refine value_ (w1 := ?_) (v := ?_) (by rfl) rfl ?_ ?_
          rotate_left 2
          · go_simp
            constructor
            · rfl
            · rfl
          refine hK.out _ _ ⟨cell_to (below_alloc (Below.refl _ _) _) hHeld.1, cell_to (below_alloc (Below.refl _ _) _) hHeld.2.1, cell_to (below_alloc (Below.refl _ _) _) hHeld.2.2.1, cell_to (below_alloc (Below.refl _ _) _) hHeld.2.2.2⟩ (fun hHeld => ?_)
          clear hK K
          refine norm_ (a' := ?_) ?_ ?_
          rotate_left
          · show Act.put _ (some 75) _ = _
            simp only [Act.put, List.setIfInBounds_toArray, List.set_cons_zero, List.set_cons_succ, i64_w, i32_w]
            rfl
          refine one_ (i := 13) (N := some 76) #[true, true, true, true, true, true, true, true, true, true, true, true, true, true, false] rfl rfl (one_of HT_.out (by kernel_rfl)) (by decide) (fun K hK => ?_)
          refine Kd.R_append_step (Kd.int .i64) (w0 := w) w.heap.size (by rfl) (.tmp 63) (.tmp 75) 46 2 (.int .i64 0) 8 rfl Try.underlying46 info2 rfl (by decide) (by omega) (U 1) (LL ts xs k1 m1 (m1 + 1) x 1) ((tk ts q).get 1) [.int .i64 ((tk ts q).get 1)] (ok4 U 1) (fun _ => False) rfl rfl ?aP (fun _ hk => hk.elim) ?aF ?aO ?aB ?aS ?aL ?_
          (case aP => exact rfl)
          (case aF => exact fun k_ hk j hj hne => Kd.fresh' (Kd.R_lt (hR1.row j hj)) k_ hk)
          (case aO => exact hR1.row 1 (by omega))
          (case aB => exact hR1.be)
          (case aS => exact hR1.be.size)
          (case aL => have := HLEN.out; omega)
          intro v1 w28 ho hb hg hat
          have bx : BK w28 w.heap.size #[.int .i64 C, .slice (some ⟨bt, ot, none⟩) n c] 32 := blk_grown b1x hg (Kd.R_ne (hR1.row 1 (by omega)) b1x (by decide))
          refine hK.out _ _ ⟨bx.cell rfl, cell_to hb h00, cell_to hb hn0, cell_to hb t0⟩ (fun hHeld => ?_)
          clear hK K
          refine norm_ (a' := ?_) ?_ ?_
          rotate_left
          · show Act.put _ (some 76) _ = _
            simp only [Act.put, List.setIfInBounds_toArray, List.set_cons_zero, List.set_cons_succ, i64_w, i32_w]
            rfl
          refine pure_ (i := 14) (N := some 6) (v := ?_) (a' := ?_) #[true, true, true, true, true, true, true, true, true, true, true, true, true, true, true] rfl rfl (any_of HT_.out (by kernel_rfl)) (fun _ _ _ h => h) (Or.inl ⟨by rfl, ?_⟩) ?_ ?_
          rotate_left
          · intro w'
            go_simp
            with_reducible rfl
          rotate_left
          · simp only [Act.put, List.setIfInBounds_toArray, List.set_cons_zero, List.set_cons_succ, i64_w, i32_w]
            rfl
          refine done_ (done_of HT_.out (by kernel_rfl)) ?_

          have hR2 := hR1.app (i := 1) (by omega) ho hb hg hat
          clear hHeld ho hb hg hat hR1 b1x HT_ HW_ HLEN
          go_wp2_with fail
          have hW := (Below.refl w28.heap.size w28).drew
          have hR1 := hR2.to hW; have b1x := bx.below hW bx.lt
          have HLEN := Lib.hid (show (up4 (LL ts xs k1 m1 (m1 + 1) x) 1 (LL ts xs k1 m1 (m1 + 1) x 1 ++ [(tk ts q).get 1]) 3).length ≤ 16 by rw [up4_ne _ _ (by decide)]; have := LL_len ts xs k1 m1 (m1 + 1) x 3; omega)
          clear hW hR2 bx
          refine start_ (n := 17) (S := fun w' => w'.cell? ⟨w.heap.size, 1, none⟩ = some (.slice (some ⟨bt, ot, none⟩) n c) ∧ w'.cell? ⟨b0, o0 + m1, none⟩ = some (.slice (some ⟨bm, om, none⟩) (k1 + 1) cm) ∧ w'.cell? ⟨bm, om + x, none⟩ = some (.int .i64 p) ∧ w'.cell? ⟨bt, ot + p * 4 + 3, none⟩ = some (.int .i64 ((tk ts p).get 3))) (ds := []) #[false, false, false, false, false, false, false, false, false, false, false, false, false, false, false, false, false] (by kernel_rfl) rfl rfl ⟨b1x.cell rfl, cell_to hR1.be hm0, cell_to hR1.be hn1, cell_to hR1.be t2⟩ (fun hHeld => ?_)
          refine with_tabW sborders_tab12 sborders_bits12 (fun HT_ HW_ => ?_)
          generalize w28.drew = wd at hR1 b1x hHeld ⊢
          refine pure_ (i := 0) (N := some 77) (v := ?_) (a' := ?_) #[true, false, false, false, false, false, false, false, false, false, false, false, false, false, false, false, false] rfl rfl (any_of HT_.out (by kernel_rfl)) (fun _ _ _ h => h) (Or.inl ⟨by rfl, ?_⟩) ?_ ?_
          rotate_left
          · intro w'
            go_simp
            with_reducible rfl
          rotate_left
          · simp only [Act.put, List.setIfInBounds_toArray, List.set_cons_zero, List.set_cons_succ, i64_w, i32_w]
            rfl
          refine pure_ (i := 1) (N := some 78) (v := ?_) (a' := ?_) #[true, true, false, false, false, false, false, false, false, false, false, false, false, false, false, false, false] rfl rfl (any_of HT_.out (by kernel_rfl)) (fun _ _ _ h => h) (Or.inl ⟨by rfl, ?_⟩) ?_ ?_
          rotate_left
          · intro w'
            go_simp
            with_reducible rfl
          rotate_left
          · simp only [Act.put, List.setIfInBounds_toArray, List.set_cons_zero, List.set_cons_succ, i64_w, i32_w]
            rfl
          refine pure_ (i := 3) (N := some 80) (v := ?_) (a' := ?_) #[true, true, false, true, false, false, false, false, false, false, false, false, false, false, false, false, false] rfl rfl (any_of HT_.out (by kernel_rfl)) (fun _ _ _ h => h) (Or.inl ⟨by rfl, ?_⟩) ?_ ?_
          rotate_left
          · intro w'
            go_simp
            with_reducible rfl
          rotate_left
          · simp only [Act.put, List.setIfInBounds_toArray, List.set_cons_zero, List.set_cons_succ, i64_w, i32_w]
            rfl
          refine pure_ (i := 4) (N := some 81) (v := ?_) (a' := ?_) #[true, true, false, true, true, false, false, false, false, false, false, false, false, false, false, false, false] rfl rfl (any_of HT_.out (by kernel_rfl)) (fun _ _ _ h => h) (Or.inl ⟨by rfl, ?_⟩) ?_ ?_
          rotate_left
          · intro w'
            go_simp
            with_reducible rfl
          rotate_left
          · simp only [Act.put, List.setIfInBounds_toArray, List.set_cons_zero, List.set_cons_succ, i64_w, i32_w]
            rfl
          refine pure_ (i := 5) (N := some 82) (v := ?_) (a' := ?_) #[true, true, false, true, true, true, false, false, false, false, false, false, false, false, false, false, false] rfl rfl (any_of HT_.out (by kernel_rfl)) (fun _ _ _ h => h) (Or.inl ⟨by rfl, ?_⟩) ?_ ?_
          rotate_left
          · intro w'
            go_simp
            with_reducible rfl
          rotate_left
          · simp only [Act.put, List.setIfInBounds_toArray, List.set_cons_zero, List.set_cons_succ, i64_w, i32_w]
            rfl
          rw [wrapN m1 (by omega)]
          refine pure_ (i := 6) (N := some 83) (v := ?_) (a' := ?_) #[true, true, false, true, true, true, true, false, false, false, false, false, false, false, false, false, false] rfl rfl (any_of HT_.out (by kernel_rfl)) (fun _ _ _ h => h) (Or.inl ⟨by rfl, ?_⟩) ?_ ?_
          rotate_left
          · intro w'
            go_simp
            with_reducible rfl
          rotate_left
          · simp only [Act.put, List.setIfInBounds_toArray, List.set_cons_zero, List.set_cons_succ, i64_w, i32_w]
            rfl
          refine pure_ (i := 8) (N := some 85) (v := ?_) (a' := ?_) #[true, true, false, true, true, true, true, false, true, false, false, false, false, false, false, false, false] rfl rfl (any_of HT_.out (by kernel_rfl)) (fun _ _ _ h => h) (Or.inl ⟨by rfl, ?_⟩) ?_ ?_
          rotate_left
          · intro w'
            go_simp
            with_reducible rfl
          rotate_left
          · simp only [Act.put, List.setIfInBounds_toArray, List.set_cons_zero, List.set_cons_succ, i64_w, i32_w]
            rfl
          refine take_ (i := 2) (N := some 79) (v := ?_) (a' := ?_) #[true, true, true, true, true, true, true, false, true, false, false, false, false, false, false, false, false] rfl rfl (take_ofW HT_.out HW_.out (by kernel_rfl)) (fun _ _ _ h => h) (Or.inl ⟨by rfl, ?_⟩) hHeld ?_ ?_
          rotate_left
          · rintro w' ⟨s0, s1, s2, s3⟩
            go_simp
            with_reducible rfl
          rotate_left
          · simp only [Act.put, List.setIfInBounds_toArray, List.set_cons_zero, List.set_cons_succ, i64_w, i32_w]
            rfl
          refine take_ (i := 7) (N := some 84) (v := ?_) (a' := ?_) #[true, true, true, true, true, true, true, true, true, false, false, false, false, false, false, false, false] rfl rfl (take_ofW HT_.out HW_.out (by kernel_rfl)) (fun _ _ _ h => h) (Or.inl ⟨by rfl, ?_⟩) hHeld ?_ ?_
          rotate_left
          · rintro w' ⟨s0, s1, s2, s3⟩
            go_simp
            with_reducible rfl
          rotate_left
          · simp only [Act.put, List.setIfInBounds_toArray, List.set_cons_zero, List.set_cons_succ, i64_w, i32_w]
            rfl
          refine pure_ (i := 9) (N := some 86) (v := ?_) (a' := ?_) #[true, true, true, true, true, true, true, true, true, true, false, false, false, false, false, false, false] rfl rfl (any_of HT_.out (by kernel_rfl)) (fun _ _ _ h => h) (Or.inl ⟨by rfl, ?_⟩) ?_ ?_
          rotate_left
          · intro w'
            go_simp
            with_reducible rfl
          rotate_left
          · simp only [Act.put, List.setIfInBounds_toArray, List.set_cons_zero, List.set_cons_succ, i64_w, i32_w]
            rfl
          refine take_ (i := 10) (N := some 87) (v := ?_) (a' := ?_) #[true, true, true, true, true, true, true, true, true, true, true, false, false, false, false, false, false] rfl rfl (take_ofW HT_.out HW_.out (by kernel_rfl)) (fun _ _ _ h => h) (Or.inl ⟨by rfl, ?_⟩) hHeld ?_ ?_
          rotate_left
          · rintro w' ⟨s0, s1, s2, s3⟩
            go_simp
            with_reducible rfl
          rotate_left
          · simp only [Act.put, List.setIfInBounds_toArray, List.set_cons_zero, List.set_cons_succ, i64_w, i32_w]
            rfl
          refine pure_ (i := 11) (N := some 88) (v := ?_) (a' := ?_) #[true, true, true, true, true, true, true, true, true, true, true, true, false, false, false, false, false] rfl rfl (any_of HT_.out (by kernel_rfl)) (fun _ _ _ h => h) (Or.inl ⟨by rfl, ?_⟩) ?_ ?_
          rotate_left
          · intro w'
            go_simp
            with_reducible rfl
          rotate_left
          · simp only [Act.put, List.setIfInBounds_toArray, List.set_cons_zero, List.set_cons_succ, i64_w, i32_w]
            rfl
          refine pure_ (i := 12) (N := some 89) (v := ?_) (a' := ?_) #[true, true, true, true, true, true, true, true, true, true, true, true, true, false, false, false, false] rfl rfl (any_of HT_.out (by kernel_rfl)) (fun _ _ _ h => h) (Or.inl ⟨by rfl, ?_⟩) ?_ ?_
          rotate_left
          · intro w'
            go_simp
            with_reducible rfl
          rotate_left
          · simp only [Act.put, List.setIfInBounds_toArray, List.set_cons_zero, List.set_cons_succ, i64_w, i32_w]
            rfl
          refine take_ (i := 13) (N := some 90) (v := ?_) (a' := ?_) #[true, true, true, true, true, true, true, true, true, true, true, true, true, true, false, false, false] rfl rfl (take_ofW HT_.out HW_.out (by kernel_rfl)) (fun _ _ _ h => h) (Or.inl ⟨by rfl, ?_⟩) hHeld ?_ ?_
          rotate_left
          · rintro w' ⟨s0, s1, s2, s3⟩
            go_simp
            with_reducible rfl
          rotate_left
          · simp only [Act.put, List.setIfInBounds_toArray, List.set_cons_zero, List.set_cons_succ, i64_w, i32_w]
            rfl
          refine one_ (i := 14) (N := some 91) #[true, true, true, true, true, true, true, true, true, true, true, true, true, true, true, false, false] rfl rfl (one_of HT_.out (by kernel_rfl)) (by decide) (fun K hK => ?_)
          refine value_ (w1 := ?_) (v := ?_) (by rfl) rfl ?_ ?_
          rotate_left 2
          · go_simp
            constructor
            · rfl
            · rfl
          refine hK.out _ _ ⟨cell_to (below_alloc (Below.refl _ _) _) hHeld.1, cell_to (below_alloc (Below.refl _ _) _) hHeld.2.1, cell_to (below_alloc (Below.refl _ _) _) hHeld.2.2.1, cell_to (below_alloc (Below.refl _ _) _) hHeld.2.2.2⟩ (fun hHeld => ?_)
          clear hK K
          refine norm_ (a' := ?_) ?_ ?_
          rotate_left
          · show Act.put _ (some 91) _ = _
            simp only [Act.put, List.setIfInBounds_toArray, List.set_cons_zero, List.set_cons_succ, i64_w, i32_w]
            rfl
          refine one_ (i := 15) (N := some 92) #[true, true, true, true, true, true, true, true, true, true, true, true, true, true, true, true, false] rfl rfl (one_of HT_.out (by kernel_rfl)) (by decide) (fun K hK => ?_)
          refine Kd.R_append_step (Kd.int .i64) (w0 := w) w.heap.size (by rfl) (.tmp 77) (.tmp 91) 46 2 (.int .i64 0) 8 rfl Try.underlying46 info2 rfl (by decide) (by omega) ((up4 U 1 v1) 3) (up4 (LL ts xs k1 m1 (m1 + 1) x) 1 (LL ts xs k1 m1 (m1 + 1) x 1 ++ [(tk ts q).get 1]) 3) ((tk ts p).get 3) [.int .i64 ((tk ts p).get 3)] (ok4 (up4 U 1 v1) 3) (fun _ => False) rfl rfl ?aP (fun _ hk => hk.elim) ?aF ?aO ?aB ?aS ?aL ?_
          (case aP => exact rfl)
          (case aF => exact fun k_ hk j hj hne => Kd.fresh' (Kd.R_lt (hR1.row j hj)) k_ hk)
          (case aO => exact hR1.row 3 (by omega))
          (case aB => exact hR1.be)
          (case aS => exact hR1.be.size)
          (case aL => have := HLEN.out; omega)
          intro v2 w30 ho hb hg hat
          have bx : BK w30 w.heap.size #[.int .i64 C, .slice (some ⟨bt, ot, none⟩) n c] 32 := blk_grown b1x hg (Kd.R_ne (hR1.row 3 (by omega)) b1x (by decide))
          refine hK.out _ _ ⟨bx.cell rfl, cell_to hb hm0, cell_to hb hn1, cell_to hb t2⟩ (fun hHeld => ?_)
          clear hK K
          refine norm_ (a' := ?_) ?_ ?_
          rotate_left
          · show Act.put _ (some 92) _ = _
            simp only [Act.put, List.setIfInBounds_toArray, List.set_cons_zero, List.set_cons_succ, i64_w, i32_w]
            rfl
          refine pure_ (i := 16) (N := some 8) (v := ?_) (a' := ?_) #[true, true, true, true, true, true, true, true, true, true, true, true, true, true, true, true, true] rfl rfl (any_of HT_.out (by kernel_rfl)) (fun _ _ _ h => h) (Or.inl ⟨by rfl, ?_⟩) ?_ ?_
          rotate_left
          · intro w'
            go_simp
            with_reducible rfl
          rotate_left
          · simp only [Act.put, List.setIfInBounds_toArray, List.set_cons_zero, List.set_cons_succ, i64_w, i32_w]
            rfl
          refine done_ (done_of HT_.out (by kernel_rfl)) ?_

          have hR2 := hR1.app (i := 3) (by omega) ho hb hg hat
          clear hHeld ho hb hg hat hR1 b1x HT_ HW_ HLEN
          go_wp2_with fail
          go_roundw
          case rel => exact ⟨x + 1, by omega, by go_num, up4 (up4 U 1 v1) 3 v2, ⟨rfl, rfl, HU0.out, HU2.out⟩, LL_col HQ.out HP.out ▸ hR2, bx⟩
          case measure => simp [intOf]; omega
        · have hxm : x = k1 + 1 := by omega
          subst hxm
          have hW := (O4.of HO.out).ows
          have hE := (O4.of HO.out).be
          rw [HU0.out, HU2.out] at hW hE
          obtain ⟨a0, g0, e0⟩ := Kd.R_slice (HO.out.row 0 (by omega))
          obtain ⟨a1, g1, e1⟩ := Kd.R_slice (HO.out.row 1 (by omega))
          obtain ⟨a2, g2, e2⟩ := Kd.R_slice (HO.out.row 2 (by omega))
          obtain ⟨a3, g3, e3⟩ := Kd.R_slice (HO.out.row 3 (by omega))
          rw [HU0.out] at e0
          rw [HU2.out] at e2
          generalize (LL ts xs k1 m1 (m1 + 1) (k1 + 1) 0).length = l0 at e0
          generalize (LL ts xs k1 m1 (m1 + 1) (k1 + 1) 1).length = l1 at e1
          generalize (LL ts xs k1 m1 (m1 + 1) (k1 + 1) 2).length = l2 at e2
          generalize (LL ts xs k1 m1 (m1 + 1) (k1 + 1) 3).length = l3 at e3
          rw [e0, e1, e2, e3] at hW hE
          rw [e0, e1, e2, e3]
          clear e0 e1 e2 e3
          have HW9 := Lib.hid hW; have HE9 := Lib.hid hE; clear hW hE
          go_wp2_with fail
          go_ret
          have hb : bordL ts xs = [LL ts xs k1 m1 (m1 + 1) (k1 + 1) 0, LL ts xs k1 m1 (m1 + 1) (k1 + 1) 1, LL ts xs k1 m1 (m1 + 1) (k1 + 1) 2, LL ts xs k1 m1 (m1 + 1) (k1 + 1) 3] := by
            unfold bordL
            rw [← HM.out, HK.out]; rfl
          rw [hb]
          exact ⟨_, rfl, HW9.out, HE9.out⟩
end Go.Proofs.Ytgdmflmglkakgaa

/-
  Contracts: rows of numbers of tiles that are a filling.
-/
namespace Go.Proofs.Ytgdmflmglkakgaa
open Go Go.RowKit Go.Proofs Go.Proofs.YtgdmflmglkakgaaW.PrintWords Go.Proofs.YtgdmflmglkakgaaW.PrintLast Go.Proofs.YtgdmflmglkakgaaW.PrintMore Go.Proofs.Ytgdmflmglkakgaa.Q
set_option linter.unusedVariables false
set_option linter.unusedSimpArgs false

theorem below_set4g {w0 w : World} {g : Nat} (h : Below w0.heap.size w0 w) (hg : w0.heap.size ≤ g) (v0 v1 v2 v3 : Value) : Below w0.heap.size w0 ((((w.setCell ⟨g, 0, none⟩ v0).setCell ⟨g, 1, none⟩ v1).setCell ⟨g, 2, none⟩ v2).setCell ⟨g, 3, none⟩ v3) :=
  (((h.setCell hg _).setCell hg _).setCell hg _).setCell hg _
def good_T7 : Bool × List (List Nat × List Nat) := (true, [([], []), ([0], [0]), ([], []), ([], []), ([2, 3], [2, 3]), ([4], [4]), ([], []), ([5, 6], [5, 6]), ([7], [7]), ([1, 8], [1, 8]), ([9], [9]), ([], []), ([11, 10, 0, 1, 2, 3, 4, 5, 6, 7, 8, 9, 10, 11], [10, 11])])
def good_B7 : List Nat := [0, 1, 0, 0, 12, 28, 0, 124, 252, 511, 1023, 0, 4095]
theorem good_tab7 : rtab .any (opsOf Try.f28 7) = good_T7 := by kernel_rfl
theorem good_bits7 : waitsOk good_T7.2 good_B7 = true := by kernel_rfl
theorem bad_at {l : List STile} {xs : List (List Int)} {y x : Nat} (hy : y < xs.length) (hx : x < width xs) (h : cellB l xs y x = false) : goodB l xs = false :=
  allN_false (Nat.zero_le y) (by omega) (allN_false (Nat.zero_le x) (by omega) h)
theorem tile_get {ts : List T4} {q : Nat} (h : q < ts.length) : tileAt (ts.map toS) (q : Int) = toS (tk ts q) := by
  simp [tileAt, rd_T63, List.getD, List.getElem?_map, List.getElem?_eq_getElem h, tk]
set_option maxHeartbeats 8000000 in
set_option maxRecDepth 100000 in
theorem good_any (C : Int) (A : Option Addr) (ts : List T4) (n c : Nat) (A' : Option Addr) (xs : List (List Int)) (m c' : Nat) (w : World) (hn : n = ts.length) (hA : RT w A ts) (hl : n ≤ 35184372088832) (hm : m = xs.length) (hA' : RR w A' xs) (ht : Tab ts.length xs) :
    Calls Try.prog 28 #[.agg #[.int .i64 C, .slice A n c], .slice A' m c'] w fun e w' => e = .returned (.bool (goodB (ts.map toS) xs)) ∧ Below w.heap.size w w' := by
  have HA := Lib.hid hA; have HN := Lib.hid hn; have HA' := Lib.hid hA'; have HM := Lib.hid hm; have HT := Lib.hid ht
  have m8 : m ≤ 8 := by have := ht.h8; omega
  clear hA hn hA' hm ht
  go_enter Try.func28, Try.ntmps28
  go_wp2_with fail
  refine name1 ?_
  intro W1 b1 hz hb0
  have HB0 := Lib.hid hb0; clear hb0 hz
  go_loopw [5, 6, 7] (fun i _ _ wr => Below W1.heap.size W1 wr ∧ ∃ y : Nat, y ≤ m ∧ i = .int .i64 y ∧ ∀ j, j < y → rowB (ts.map toS) xs j = true) (fun i _ _ _ => m - (intOf i).toNat)
  case atStart => exact ⟨Below.refl _ _, 0, by omega, rfl, fun j h => absurd h (by omega)⟩
  case round =>
    obtain ⟨hB, y, hy, rfl, hall⟩ := hrel
    have b1' := b1.below hB b1.lt
    have HE := Lib.hid (below_to HB0.out hB)
    have HB := Lib.hid hB; have HALL := Lib.hid hall; clear hB hall
    by_cases hlt : y < m
    · have HY := Lib.hid (show y < xs.length by have := HM.out; omega)
      have i1 : (y : Int) < m := by omega
      go_wp2_with fail
      obtain ⟨wo, rfl⟩ : ∃ wo : World, wo = wr := ⟨_, rfl⟩
      go_loopw [6, 7] (fun i _ wr => Below W1.heap.size W1 wr ∧ ∃ x : Nat, x ≤ width xs ∧ i = .int .i64 x ∧ ∀ j, j < x → cellB (ts.map toS) xs y j = true) (fun i _ _ => width xs - (intOf i).toNat)
      case atStart => exact ⟨HB.out, 0, by omega, rfl, fun j h => absurd h (by omega)⟩
      case round =>
        obtain ⟨hB2, x, hx, rfl, hall2⟩ := hrel
        have b2 := b1.below hB2 b1.lt
        have HE2 := Lib.hid (below_to HB0.out hB2)
        have HB2 := Lib.hid hB2; have HALL2 := Lib.hid hall2; clear hB2 hall2 b1'
        have a1 : wr.cell? ⟨w.heap.size, 1, none⟩ = some (.slice A n c) := b2.cell rfl
        have l1 := b2.lt
        have hlen : rowLen xs y = width xs := HT.out.len y HY.out
        obtain ⟨b, o, Ay, cy, hAe, hb, h0, hr, -, -⟩ := (HA'.out.below HE2.out) y HY.out
        subst hAe
        have w8 := HT.out.w8
        have r1 : rowLen xs y ≤ 35184372088832 := by omega
        by_cases hx2 : x < width xs
        · have i2 : (x : Int) < rowLen xs y := by omega
          obtain ⟨by_, oy, hAy, hby, hrx⟩ := hr x (by show x < rowLen xs y; omega)
          rw [hlen] at h0 i2 r1
          subst hAy
          obtain ⟨q, hq⟩ : ∃ q : Nat, cell xs y x = q := ⟨(cell xs y x).toNat, by have := HT.out.lo y x HY.out hx2; omega⟩
          have hqlt : q < ts.length := by have := HT.out.up y x HY.out hx2; omega
          have i3 : (q : Int) < n := by have := HN.out; omega
          rw [show ik (rowAt xs y) x = (q : Int) from hq] at hrx
          obtain ⟨bt, ot, hAt, hbt, t0, t1, t2, t3⟩ := (HA.out.below HE2.out) q hqlt
          subst hAt
          have HQ := Lib.hid hq; have HQL := Lib.hid hqlt
          have HRI := Lib.hid hr
          clear hq hqlt hr hlen
          go_wp2_with fail
          have hW1 := (Below.refl wr.heap.size wr).drew
          have d1 := cell_to hW1 a1; have d2 := cell_to hW1 h0; have d3 := cell_to hW1 hrx; have d4 := cell_to hW1 t0; have d5 := cell_to hW1 t1; have d6 := cell_to hW1 t2; have d7 := cell_to hW1 t3
          have k1 := lt_to hW1 l1; have k2 := lt_to hW1 hb; have k3 := lt_to hW1 hby; have k4 := lt_to hW1 hbt
          have HE3 := Lib.hid (below_to HE2.out hW1); have HB3 := Lib.hid (below_to HB2.out hW1); have HRI3 := Lib.hid (HRI.out.below hW1)
          clear a1 h0 hrx t0 t1 t2 t3 l1 hb hby hbt hW1 HRI b2
          refine start_ (n := 13) (S := fun w_ => w_.cell? ⟨w.heap.size, 1, none⟩ = some (.slice (some ⟨bt, ot, none⟩) n c) ∧ w_.cell? ⟨b, o + y, none⟩ = some (.slice (some ⟨by_, oy, none⟩) (width xs) cy) ∧ w_.cell? ⟨by_, oy + x, none⟩ = some (.int .i64 q) ∧ w_.cell? ⟨bt, ot + q * 4, none⟩ = some (.int .i64 ((tk ts q).get 0)) ∧ w_.cell? ⟨bt, ot + q * 4 + 1, none⟩ = some (.int .i64 ((tk ts q).get 1)) ∧ w_.cell? ⟨bt, ot + q * 4 + 2, none⟩ = some (.int .i64 ((tk ts q).get 2)) ∧ w_.cell? ⟨bt, ot + q * 4 + 3, none⟩ = some (.int .i64 ((tk ts q).get 3))) (ds := []) #[false, false, false, false, false, false, false, false, false, false, false, false, false] (by kernel_rfl) rfl rfl ⟨d1, d2, d3, d4, d5, d6, d7⟩ (fun hHeld => ?_); refine with_tabW good_tab7 good_bits7 (fun HT_ HW_ => ?_)
          generalize wr.drew = wd at d1 d2 d3 d4 d5 d6 d7 k1 k2 k3 k4 HE3 HB3 HRI3 hHeld ⊢
          refine pure_ (i := 0) (N := some 23) (v := ?_) (a' := ?_) #[true, false, false, false, false, false, false, false, false, false, false, false, false] rfl rfl (any_of HT_.out (by kernel_rfl)) (fun _ _ _ h => h) (Or.inl ⟨by rfl, ?_⟩) ?_ ?_
          rotate_left
          · intro w'
            go_simp
            with_reducible rfl
          rotate_left
          · simp only [Act.put, List.setIfInBounds_toArray, List.set_cons_zero, List.set_cons_succ, i64_w, i32_w]
            rfl
          refine pure_ (i := 2) (N := some 25) (v := ?_) (a' := ?_) #[true, false, true, false, false, false, false, false, false, false, false, false, false] rfl rfl (any_of HT_.out (by kernel_rfl)) (fun _ _ _ h => h) (Or.inl ⟨by rfl, ?_⟩) ?_ ?_
          rotate_left
          · intro w'
            go_simp
            with_reducible rfl
          rotate_left
          · simp only [Act.put, List.setIfInBounds_toArray, List.set_cons_zero, List.set_cons_succ, i64_w, i32_w]
            rfl
          refine pure_ (i := 3) (N := some 26) (v := ?_) (a' := ?_) #[true, false, true, true, false, false, false, false, false, false, false, false, false] rfl rfl (any_of HT_.out (by kernel_rfl)) (fun _ _ _ h => h) (Or.inl ⟨by rfl, ?_⟩) ?_ ?_
          rotate_left
          · intro w'
            go_simp
            with_reducible rfl
          rotate_left
          · simp only [Act.put, List.setIfInBounds_toArray, List.set_cons_zero, List.set_cons_succ, i64_w, i32_w]
            rfl
          refine pure_ (i := 4) (N := some 27) (v := ?_) (a' := ?_) #[true, false, true, true, true, false, false, false, false, false, false, false, false] rfl rfl (any_of HT_.out (by kernel_rfl)) (fun _ _ _ h => h) (Or.inl ⟨by rfl, ?_⟩) ?_ ?_
          rotate_left
          · intro w'
            go_simp
            with_reducible rfl
          rotate_left
          · simp only [Act.put, List.setIfInBounds_toArray, List.set_cons_zero, List.set_cons_succ, i64_w, i32_w]
            rfl
          refine pure_ (i := 6) (N := some 29) (v := ?_) (a' := ?_) #[true, false, true, true, true, false, true, false, false, false, false, false, false] rfl rfl (any_of HT_.out (by kernel_rfl)) (fun _ _ _ h => h) (Or.inl ⟨by rfl, ?_⟩) ?_ ?_
          rotate_left
          · intro w'
            go_simp
            with_reducible rfl
          rotate_left
          · simp only [Act.put, List.setIfInBounds_toArray, List.set_cons_zero, List.set_cons_succ, i64_w, i32_w]
            rfl
          refine take_ (i := 1) (N := some 24) (v := ?_) (a' := ?_) #[true, true, true, true, true, false, true, false, false, false, false, false, false] rfl rfl (take_ofW HT_.out HW_.out (by kernel_rfl)) (fun _ _ _ h => h) (Or.inl ⟨by rfl, ?_⟩) hHeld ?_ ?_
          rotate_left
          · rintro w' ⟨s0, s1, s2, s3, s4, s5, s6⟩
            go_simp
            with_reducible rfl
          rotate_left
          · simp only [Act.put, List.setIfInBounds_toArray, List.set_cons_zero, List.set_cons_succ, i64_w, i32_w]
            rfl
          refine take_ (i := 5) (N := some 28) (v := ?_) (a' := ?_) #[true, true, true, true, true, true, true, false, false, false, false, false, false] rfl rfl (take_ofW HT_.out HW_.out (by kernel_rfl)) (fun _ _ _ h => h) (Or.inl ⟨by rfl, ?_⟩) hHeld ?_ ?_
          rotate_left
          · rintro w' ⟨s0, s1, s2, s3, s4, s5, s6⟩
            go_simp
            with_reducible rfl
          rotate_left
          · simp only [Act.put, List.setIfInBounds_toArray, List.set_cons_zero, List.set_cons_succ, i64_w, i32_w]
            rfl
          refine pure_ (i := 7) (N := some 30) (v := ?_) (a' := ?_) #[true, true, true, true, true, true, true, true, false, false, false, false, false] rfl rfl (any_of HT_.out (by kernel_rfl)) (fun _ _ _ h => h) (Or.inl ⟨by rfl, ?_⟩) ?_ ?_
          rotate_left
          · intro w'
            go_simp
            with_reducible rfl
          rotate_left
          · simp only [Act.put, List.setIfInBounds_toArray, List.set_cons_zero, List.set_cons_succ, i64_w, i32_w]
            rfl
          refine take_ (i := 8) (N := some 31) (v := ?_) (a' := ?_) #[true, true, true, true, true, true, true, true, true, false, false, false, false] rfl rfl (take_ofW HT_.out HW_.out (by kernel_rfl)) (fun _ _ _ h => h) (Or.inl ⟨by rfl, ?_⟩) hHeld ?_ ?_
          rotate_left
          · rintro w' ⟨s0, s1, s2, s3, s4, s5, s6⟩
            go_simp
            with_reducible rfl
          rotate_left
          · simp only [Act.put, List.setIfInBounds_toArray, List.set_cons_zero, List.set_cons_succ, i64_w, i32_w]
            rfl
          refine pure_ (i := 9) (N := some 32) (v := ?_) (a' := ?_) #[true, true, true, true, true, true, true, true, true, true, false, false, false] rfl rfl (any_of HT_.out (by kernel_rfl)) (fun _ _ _ h => h) (Or.inl ⟨by rfl, ?_⟩) ?_ ?_
          rotate_left
          · intro w'
            go_simp
            with_reducible rfl
          rotate_left
          · simp only [Act.put, List.setIfInBounds_toArray, List.set_cons_zero, List.set_cons_succ, i64_w, i32_w]
            rfl
          refine take_ (i := 10) (N := some 33) (v := ?_) (a' := ?_) #[true, true, true, true, true, true, true, true, true, true, true, false, false] rfl rfl (take_ofW HT_.out HW_.out (by kernel_rfl)) (fun _ _ _ h => h) (Or.inl ⟨by rfl, ?_⟩) hHeld ?_ ?_
          rotate_left
          · rintro w' ⟨s0, s1, s2, s3, s4, s5, s6⟩
            go_simp
            with_reducible rfl
          rotate_left
          · simp only [Act.put, List.setIfInBounds_toArray, List.set_cons_zero, List.set_cons_succ, i64_w, i32_w]
            rfl
          refine one_ (i := 11) (N := some 7) #[true, true, true, true, true, true, true, true, true, true, true, true, false] rfl rfl (one_of HT_.out (by kernel_rfl)) (by decide) (fun K hK => ?_)
          refine box_step ?hg (N := 7) ?hd (cs := #[.int .i64 0, .int .i64 0, .int .i64 0, .int .i64 0]) (t := 63) ?hr ?_; (case hd => rfl); (case hg => rfl); (case hr => first | (go_simp; done) | (go_simp; rfl))
          intro gb hg w27 hbox hb
          have G1 : wd.heap.size ≤ gb := Nat.le_of_eq hg.symm
          have bT : BK w27 gb #[.int .i64 0, .int .i64 0, .int .i64 0, .int .i64 0] 63 := hbox
          clear hg hbox
          refine hK.out _ _ ⟨cell_to hb hHeld.1, cell_to hb hHeld.2.1, cell_to hb hHeld.2.2.1, cell_to hb hHeld.2.2.2.1, cell_to hb hHeld.2.2.2.2.1, cell_to hb hHeld.2.2.2.2.2.1, cell_to hb hHeld.2.2.2.2.2.2⟩ (fun hHeld2 => ?_)
          clear hK K
          refine norm_ (a' := ?_) ?_ ?_
          rotate_left
          · show Act.put _ (some 7) _ = _
            simp only [Act.put, List.setIfInBounds_toArray, List.set_cons_zero, List.set_cons_succ, i64_w, i32_w]
            rfl
          refine one_ (i := 12) (N := none) #[true, true, true, true, true, true, true, true, true, true, true, true, true] rfl rfl (one_of HT_.out (by kernel_rfl)) (by decide) (fun K hK => ?_)
          have y0 : w27.cell? ⟨gb, 0, none⟩ = some (.int .i64 0) := bT.cell rfl
          have y1 : w27.cell? ⟨gb, 1, none⟩ = some (.int .i64 0) := bT.cell rfl
          have y2 : w27.cell? ⟨gb, 2, none⟩ = some (.int .i64 0) := bT.cell rfl
          have y3 : w27.cell? ⟨gb, 3, none⟩ = some (.int .i64 0) := bT.cell rfl
          have f0 := bT.frozen 0; have f1 := bT.frozen 1; have f2 := bT.frozen 2; have f3 := bT.frozen 3
          refine skip_ (w1 := ?_) (by rfl) rfl ?_ ?_
          rotate_left
          · go_simp
            rfl
          have hs4 := below_set4g hb G1 (.int .i64 ((tk ts q).get 0)) (.int .i64 ((tk ts q).get 1)) (.int .i64 ((tk ts q).get 2)) (.int .i64 ((tk ts q).get 3))
          have bT4 := (((bT.set 0 (.int .i64 ((tk ts q).get 0))).set 1 (.int .i64 ((tk ts q).get 1))).set 2 (.int .i64 ((tk ts q).get 2))).set 3 (.int .i64 ((tk ts q).get 3))
          refine hK.out _ _ ⟨cell_to hs4 hHeld.1, cell_to hs4 hHeld.2.1, cell_to hs4 hHeld.2.2.1, cell_to hs4 hHeld.2.2.2.1, cell_to hs4 hHeld.2.2.2.2.1, cell_to hs4 hHeld.2.2.2.2.2.1, cell_to hs4 hHeld.2.2.2.2.2.2⟩ (fun hHeld3 => ?_)
          clear hK K y0 y1 y2 y3 f0 f1 f2 f3
          refine done_ (done_of HT_.out (by kernel_rfl)) ?_
          generalize ((((w27.setCell ⟨gb, 0, none⟩ (.int .i64 ((tk ts q).get 0))).setCell ⟨gb, 1, none⟩ (.int .i64 ((tk ts q).get 1))).setCell ⟨gb, 2, none⟩ (.int .i64 ((tk ts q).get 2))).setCell ⟨gb, 3, none⟩ (.int .i64 ((tk ts q).get 3))) = w4 at hs4 bT4 hHeld3 ⊢
          have bT5 : BK w4 gb #[.int .i64 ((tk ts q).get 0), .int .i64 ((tk ts q).get 1), .int .i64 ((tk ts q).get 2), .int .i64 ((tk ts q).get 3)] 63 := bT4
          clear hHeld hHeld2 bT bT4 hb
          go_wp2_with fail
          obtain ⟨a1, h0, hrx, t0, t1, t2, t3⟩ := hHeld3
          have l1 := lt_to hs4 k1; have l2 := lt_to hs4 k2; have l3 := lt_to hs4 k3; have l4 := lt_to hs4 k4
          have HE4 := Lib.hid (below_to HE3.out hs4); have HB4 := Lib.hid (below_to HB3.out hs4); have HRI4 := Lib.hid (HRI3.out.below hs4)
          have o0 : w4.cell? ⟨gb, 0, none⟩ = some (.int .i64 ((tk ts q).get 0)) := bT5.cell rfl
          have o1 : w4.cell? ⟨gb, 1, none⟩ = some (.int .i64 ((tk ts q).get 1)) := bT5.cell rfl
          have lg := bT5.lt
          clear hs4 d1 d2 d3 d4 d5 d6 d7 k1 k2 k3 k4 HE3 HB3 HRI3 bT5 HT_ HW_ t0 t1 t2 t3 G1
          cases x with
          | zero =>
            simp only [Nat.add_zero] at hrx
            cases y with
            | zero =>
              simp only [Nat.add_zero] at h0
              refine wp_region_gro (by kernel_rfl) (by kernel_rfl) ?_
              repeat (first | go_big_quiet_step (fail) | quiet_step (fail))
              refine wpQuiet_nil ?_
              intro w5 hB5
              have HB5 := Lib.hid (below_to HB4.out hB5); clear hB5
              go_wp2_with fail
              go_roundw
              case rel => exact ⟨HB5.out, 0 + 1, by omega, by go_num, fun j hj => by
                obtain rfl : j = 0 := by omega
                simp [cellB]⟩
              case measure => simp [intOf]; omega
            | succ y =>
              obtain ⟨b2, o2, Az, cz, hE2, -, n0, hrz, -, -⟩ := (HA'.out.below HE4.out) y (by have := HY.out; omega)
              obtain ⟨rfl, rfl⟩ : b = b2 ∧ o = o2 := by injection hE2 with e; injection e with e1 e2; exact ⟨e1, e2⟩
              have hlz : rowLen xs y = width xs := HT.out.len y (by have := HY.out; omega)
              obtain ⟨bz, oz, hAz, lz, nz⟩ := hrz 0 (by show 0 < rowLen xs y; omega)
              subst hAz
              rw [hlz] at n0
              obtain ⟨r, hr⟩ : ∃ r : Nat, cell xs y 0 = r := ⟨(cell xs y 0).toNat, by have := HT.out.lo y 0 (by have := HY.out; omega) (by omega); omega⟩
              have hrlt : r < ts.length := by have := HT.out.up y 0 (by have := HY.out; omega) (by omega); omega
              have i4 : (r : Int) < n := by have := HN.out; omega
              have i5 : (y : Int) < m := by omega
              rw [show ik (rowAt xs y) 0 = (r : Int) from hr] at nz
              try simp only [Nat.add_zero] at nz
              obtain ⟨b3, o3, hE3, -, -, -, -, u3⟩ := (HA.out.below HE4.out) r hrlt
              obtain ⟨rfl, rfl⟩ : bt = b3 ∧ ot = o3 := by injection hE3 with e; injection e with e1 e2; exact ⟨e1, e2⟩
              have HR := Lib.hid hr; have HRL := Lib.hid hrlt; clear hr hrlt hE2 hE3 hlz hrz
              by_cases hn : (tk ts r).get 3 = (tk ts q).get 1
              · have HN2 := Lib.hid hn; clear hn
                have hn' : ((tk ts r).get 3 != (tk ts q).get 1) = false := by simp [HN2.out]
                refine wp_region_gro (by kernel_rfl) (by kernel_rfl) ?_
                repeat (first | go_big_quiet_step (fail) | quiet_step (fail))
                refine wpQuiet_nil ?_
                intro w5 hB5
                have HB5 := Lib.hid (below_to HB4.out hB5); clear hB5
                go_wp2_with fail
                go_roundw
                case rel => exact ⟨HB5.out, 0 + 1, by omega, by go_num, fun j hj => by
                  by_cases e : j = 0
                  · subst e
                    have h1 : (tk ts r).d = (tk ts q).b := HN2.out
                    skip
                    simp [cellB, HQ.out, HR.out, tile_get HQL.out, tile_get HRL.out, toS, h1]
                  · exact HALL2.out j (by omega)⟩
                case measure => simp [intOf]; omega
              · have HN2 := Lib.hid hn; clear hn
                have hn' : ((tk ts r).get 3 != (tk ts q).get 1) = true := by simpa using HN2.out
                refine wp_region_gro (by kernel_rfl) (by kernel_rfl) ?_
                repeat (first | go_big_quiet_step (fail) | quiet_step (fail))
                refine wpQuiet_nil ?_
                intro w5 hB5
                have HE5 := Lib.hid (below_to HE4.out hB5); clear hB5
                go_wp2_with fail
                go_ret
                have hc : cellB (ts.map toS) xs (y + 1) (0) = false := by
                  have h1 : ¬ (tk ts r).d = (tk ts q).b := HN2.out
                  simp [cellB, HQ.out, HR.out, tile_get HQL.out, tile_get HRL.out, toS, h1]
                exact ⟨ret_bool (bad_at HY.out (by omega) hc).symm, HE5.out⟩
          | succ x =>
            obtain ⟨b4, o4, hE4, -, hrw⟩ := HRI4.out x (by show x < rowLen xs y; have := HT.out.len y HY.out; show x < (xs.getD y []).length; omega)
            obtain ⟨rfl, rfl⟩ : by_ = b4 ∧ oy = o4 := by injection hE4 with e; injection e with e1 e2; exact ⟨e1, e2⟩
            obtain ⟨p, hp⟩ : ∃ p : Nat, cell xs y x = p := ⟨(cell xs y x).toNat, by have := HT.out.lo y x HY.out (by omega); omega⟩
            have hplt : p < ts.length := by have := HT.out.up y x HY.out (by omega); omega
            have i6 : (p : Int) < n := by have := HN.out; omega
            have i7 : (x : Int) < width xs := by omega
            rw [show ik (rowAt xs y) x = (p : Int) from hp] at hrw
            obtain ⟨b5, o5, hE5, -, -, -, v2, -⟩ := (HA.out.below HE4.out) p hplt
            obtain ⟨rfl, rfl⟩ : bt = b5 ∧ ot = o5 := by injection hE5 with e; injection e with e1 e2; exact ⟨e1, e2⟩
            have HP := Lib.hid hp; have HPL := Lib.hid hplt; clear hp hplt hE4 hE5
            by_cases he : (tk ts p).get 2 = (tk ts q).get 0
            · have HW2 := Lib.hid he; clear he
              have he' : ((tk ts p).get 2 != (tk ts q).get 0) = false := by simp [HW2.out]
              cases y with
              | zero =>
                simp only [Nat.add_zero] at h0
                refine wp_region_gro (by kernel_rfl) (by kernel_rfl) ?_
                repeat (first | go_big_quiet_step (fail) | quiet_step (fail))
                refine wpQuiet_nil ?_
                intro w5 hB5
                have HB5 := Lib.hid (below_to HB4.out hB5); clear hB5
                go_wp2_with fail
                go_roundw
                case rel => exact ⟨HB5.out, x + 1 + 1, by omega, by go_num, fun j hj => by
                  by_cases e : j = x + 1
                  · subst e
                    have h2 : (tk ts p).c = (tk ts q).a := HW2.out
                    simp [cellB, HQ.out, HP.out, tile_get HQL.out, tile_get HPL.out, toS, h2]
                  · exact HALL2.out j (by omega)⟩
                case measure => simp [intOf]; omega
              | succ y =>
                obtain ⟨b2, o2, Az, cz, hE2, -, n0, hrz, -, -⟩ := (HA'.out.below HE4.out) y (by have := HY.out; omega)
                obtain ⟨rfl, rfl⟩ : b = b2 ∧ o = o2 := by injection hE2 with e; injection e with e1 e2; exact ⟨e1, e2⟩
                have hlz : rowLen xs y = width xs := HT.out.len y (by have := HY.out; omega)
                obtain ⟨bz, oz, hAz, lz, nz⟩ := hrz (x + 1) (by show (x + 1) < rowLen xs y; omega)
                subst hAz
                rw [hlz] at n0
                obtain ⟨r, hr⟩ : ∃ r : Nat, cell xs y (x + 1) = r := ⟨(cell xs y (x + 1)).toNat, by have := HT.out.lo y (x + 1) (by have := HY.out; omega) (by omega); omega⟩
                have hrlt : r < ts.length := by have := HT.out.up y (x + 1) (by have := HY.out; omega) (by omega); omega
                have i4 : (r : Int) < n := by have := HN.out; omega
                have i5 : (y : Int) < m := by omega
                rw [show ik (rowAt xs y) (x + 1) = (r : Int) from hr] at nz
                try simp only [Nat.add_zero] at nz
                obtain ⟨b3, o3, hE3, -, -, -, -, u3⟩ := (HA.out.below HE4.out) r hrlt
                obtain ⟨rfl, rfl⟩ : bt = b3 ∧ ot = o3 := by injection hE3 with e; injection e with e1 e2; exact ⟨e1, e2⟩
                have HR := Lib.hid hr; have HRL := Lib.hid hrlt; clear hr hrlt hE2 hE3 hlz hrz
                by_cases hn : (tk ts r).get 3 = (tk ts q).get 1
                · have HN2 := Lib.hid hn; clear hn
                  have hn' : ((tk ts r).get 3 != (tk ts q).get 1) = false := by simp [HN2.out]
                  refine wp_region_gro (by kernel_rfl) (by kernel_rfl) ?_
                  repeat (first | go_big_quiet_step (fail) | quiet_step (fail))
                  refine wpQuiet_nil ?_
                  intro w5 hB5
                  have HB5 := Lib.hid (below_to HB4.out hB5); clear hB5
                  go_wp2_with fail
                  go_roundw
                  case rel => exact ⟨HB5.out, (x + 1) + 1, by omega, by go_num, fun j hj => by
                    by_cases e : j = (x + 1)
                    · subst e
                      have h1 : (tk ts r).d = (tk ts q).b := HN2.out
                      have h2 : (tk ts p).c = (tk ts q).a := HW2.out
                      simp [cellB, HQ.out, HR.out, tile_get HQL.out, tile_get HRL.out, toS, h1, HP.out, tile_get HPL.out, h2]
                    · exact HALL2.out j (by omega)⟩
                  case measure => simp [intOf]; omega
                · have HN2 := Lib.hid hn; clear hn
                  have hn' : ((tk ts r).get 3 != (tk ts q).get 1) = true := by simpa using HN2.out
                  refine wp_region_gro (by kernel_rfl) (by kernel_rfl) ?_
                  repeat (first | go_big_quiet_step (fail) | quiet_step (fail))
                  refine wpQuiet_nil ?_
                  intro w5 hB5
                  have HE5 := Lib.hid (below_to HE4.out hB5); clear hB5
                  go_wp2_with fail
                  go_ret
                  have hc : cellB (ts.map toS) xs (y + 1) ((x + 1)) = false := by
                    have h1 : ¬ (tk ts r).d = (tk ts q).b := HN2.out
                    simp [cellB, HQ.out, HR.out, tile_get HQL.out, tile_get HRL.out, toS, h1]
                  exact ⟨ret_bool (bad_at HY.out (by omega) hc).symm, HE5.out⟩
            · have HW2 := Lib.hid he; clear he
              have he' : ((tk ts p).get 2 != (tk ts q).get 0) = true := by simpa using HW2.out
              refine wp_region_gro (by kernel_rfl) (by kernel_rfl) ?_
              repeat (first | go_big_quiet_step (fail) | quiet_step (fail))
              refine wpQuiet_nil ?_
              intro w5 hB5
              have HE5 := Lib.hid (below_to HE4.out hB5); clear hB5
              go_wp2_with fail
              go_ret
              have hc : cellB (ts.map toS) xs y (x + 1) = false := by
                have h2 : ¬ (tk ts p).c = (tk ts q).a := HW2.out
                simp [cellB, HQ.out, HP.out, tile_get HQL.out, tile_get HPL.out, toS, h2]
              exact ⟨ret_bool (bad_at HY.out (by omega) hc).symm, HE5.out⟩
        · go_wp2_with fail
          go_roundw
          case rel => exact ⟨HB2.out, y + 1, by omega, by go_num, fun j hj => by
            by_cases e : j = y
            · subst e; exact allN_true fun i _ h2 => HALL2.out i (by omega)
            · exact HALL.out j (by omega)⟩
          case measure => simp [intOf]; omega
    · go_wp2_with fail
      go_ret
      exact ⟨ret_bool (allN_true fun i _ h2 => HALL.out i (by have := HM.out; omega)).symm, HE.out⟩
end Go.Proofs.Ytgdmflmglkakgaa

/-
  The laws' functions on rows of rows that come in: how many numbers, a copy.
-/
namespace Go.Proofs.Ytgdmflmglkakgaa
open Go Go.RowKit Go.Proofs Go.Proofs.YtgdmflmglkakgaaW.PrintWords Go.Proofs.YtgdmflmglkakgaaW.PrintMore Go.Proofs.Ytgdmflmglkakgaa.Q
set_option linter.unusedVariables false
set_option linter.unusedSimpArgs false

theorem succW (m : Nat) (h : m < 1000000000) : wrap64 ((m : Int) + 1) = ((m + 1 : Nat) : Int) := by unfold wrap64; omega
theorem le_ofS {w : World} {lo hi : Nat} {A : Option Addr} {n c : Nat} {xs : List (List Int)} {cs : Nat → List Value} (h : OWS w lo hi (.slice A n c) xs cs) : n ≤ c := by
  obtain ⟨A', c', g, hv, e, hc, -⟩ := h.ex
  injection e with e1 e2 e3
  omega
def sumF (f : Nat → Nat) : Nat → Nat → Nat
  | 0, _ => 0
  | d + 1, i => f i + sumF f d (i + 1)
theorem sumF_tot (f : Nat → Nat) : ∀ d m, tot f m + sumF f d m = tot f (m + d) := by
  intro d
  induction d with
  | zero => intro m; simp [sumF]
  | succ d ih =>
    intro m
    have := ih (m + 1)
    rw [sumF, show m + (d + 1) = m + 1 + d by omega, ← this, tot]
    omega
theorem szRow_f (row : List Int) (left : Int) (h0 : 0 ≤ left) (h1 : left ≤ 1048576) (hl : row.length ≤ 9223372036854775807) : laws_szInt64S.f row left = some (if left < (row.length : Nat) then -1 else left - (row.length : Nat)) := by
  have e : wrap64 (left - (row.length : Int)) = left - (row.length : Int) := by unfold wrap64; omega
  rw [laws_szInt64S.f, e]
  by_cases h : left < (row.length : Int)
  · rw [if_pos (show left - (row.length : Int) < 0 by omega), if_pos h]
  · rw [if_neg (show ¬ left - (row.length : Int) < 0 by omega), if_neg h]
theorem szRows_l0 (xs : List (List Int)) (hx : xs.length ≤ 1048576) (hr : ∀ i, i < xs.length → rowLen xs i ≤ 9223372036854775807) : ∀ d m (left : Int), m + d = xs.length → 0 ≤ left → left ≤ 1048576 →
    Ev (fun k => laws_szInt64SS.l0 k xs left (m : Int)) (if left < (sumF (rowLen xs) d m : Nat) then -1 else left - (sumF (rowLen xs) d m : Nat)) := by
  intro d
  induction d with
  | zero =>
    intro m left hm h0 h1
    have b1 : ¬ (m : Int) < (xs.length : Int) := by omega
    rw [sumF, if_neg (by omega)]
    exact Ev.step (f := fun _ => some _) (fun k => by rw [laws_szInt64SS.l0, if_neg b1]) (by simpa using Ev.now left)
  | succ d ih =>
    intro m left hm h0 h1
    have b1 : (m : Int) < (xs.length : Int) := by omega
    have b2 : (0 : Int) ≤ (m : Int) := Int.natCast_nonneg m
    have hm9 : m < 1000000000 := by omega
    have e1 : rd_L1 xs (m : Int) = rowAt xs m := by simp [rd_L1, rowAt]
    have hs := szRow_f (rowAt xs m) left h0 h1 (hr m (by omega))
    have el : (rowAt xs m).length = rowLen xs m := rfl
    rw [el] at hs
    rw [sumF]
    by_cases q : left < (rowLen xs m : Int)
    · rw [if_pos q] at hs
      rw [if_pos (by omega)]
      exact Ev.step (f := fun _ => some (-1)) (fun k => by rw [laws_szInt64SS.l0, if_pos b1, if_pos b2, e1, hs]; rfl) (Ev.now _)
    · rw [if_neg q] at hs
      have n0 : ¬ left - (rowLen xs m : Int) < 0 := by omega
      have hi := ih (m + 1) (left - (rowLen xs m : Int)) (by omega) (by omega) (by omega)
      have e : (if left - (rowLen xs m : Int) < (sumF (rowLen xs) d (m + 1) : Nat) then -1 else left - (rowLen xs m : Int) - (sumF (rowLen xs) d (m + 1) : Nat)) = (if left < ((rowLen xs m + sumF (rowLen xs) d (m + 1) : Nat) : Int) then -1 else left - ((rowLen xs m + sumF (rowLen xs) d (m + 1) : Nat) : Int)) := by
        by_cases q2 : left - (rowLen xs m : Int) < (sumF (rowLen xs) d (m + 1) : Nat)
        · rw [if_pos q2, if_pos (by omega)]
        · rw [if_neg q2, if_neg (by omega)]; omega
      rw [e] at hi
      exact Ev.step (fun k => by rw [laws_szInt64SS.l0, if_pos b1, if_pos b2, e1, hs, Option.bind_some, if_neg n0, succW m hm9]) hi
theorem szInt64SS_any (A : Option Addr) (xs : List (List Int)) (n c : Nat) (left : Int) (w : World) (hn : n = xs.length) (hA : RR w A xs) (hnc : n ≤ c) (hl : n ≤ 35184372088832) (h0 : 0 ≤ left) (h1 : left ≤ 1048576) :
    Calls Try.prog 8 #[.slice A n c, .int .i64 left] w fun e w' => e = .returned (.int .i64 (if left < ((xs.length + rowsz0 xs : Nat) : Int) then -1 else left - ((xs.length + rowsz0 xs : Nat) : Int))) ∧ Below w.heap.size w w' := by
  subst hn
  have hr : ∀ i, i < xs.length → rowLen xs i ≤ 9223372036854775807 := fun i hi => by
    obtain ⟨-, -, -, -, -, -, -, -, -, h⟩ := hA i hi
    exact h
  have e : wrap64 (left - (xs.length : Int)) = left - (xs.length : Int) := by unfold wrap64; omega
  have ev : Ev (fun k => laws_szInt64SS.f k xs left) (if left < ((xs.length + rowsz0 xs : Nat) : Int) then -1 else left - ((xs.length + rowsz0 xs : Nat) : Int)) := by
    by_cases q : left - (xs.length : Int) < 0
    · rw [if_pos (by omega)]
      exact Ev.congr (fun k => by rw [laws_szInt64SS.f, e, if_pos q]) (Ev.now _)
    · have h := szRows_l0 xs (by omega) hr xs.length 0 (left - (xs.length : Int)) (by omega) (by omega) (by omega)
      have et : sumF (rowLen xs) xs.length 0 = rowsz0 xs := by
        have := sumF_tot (rowLen xs) xs.length 0
        rw [tot, Nat.zero_add, Nat.zero_add] at this
        exact this
      rw [et] at h
      have e2 : (if left - (xs.length : Int) < (rowsz0 xs : Nat) then -1 else left - (xs.length : Int) - (rowsz0 xs : Nat)) = (if left < ((xs.length + rowsz0 xs : Nat) : Int) then -1 else left - ((xs.length + rowsz0 xs : Nat) : Int)) := by
        by_cases q2 : left - (xs.length : Int) < (rowsz0 xs : Nat)
        · rw [if_pos q2, if_pos (by omega)]
        · rw [if_neg q2, if_neg (by omega)]; omega
      rw [e2] at h
      exact Ev.congr (fun k => by rw [laws_szInt64SS.f, e, if_neg q]; rfl) h
  obtain ⟨k, hk⟩ := ev.rounds
  exact (laws_szInt64SS.calls k A c xs left _ w (C_of_rr hA (by omega)) hnc hk).mono fun e w' ⟨h1, h2⟩ => ⟨h1, h2.below⟩
theorem set_take {α : Type} (l : List α) (z : α) (m d : Nat) (h : m + (d + 1) = l.length) : (l.take m ++ List.replicate (d + 1) z).set m (l[m]'(by omega)) = l.take (m + 1) ++ List.replicate d z := by
  have hl : (l.take m).length = m := by rw [List.length_take]; omega
  rw [List.set_append_right _ _ (by omega), hl, Nat.sub_self, List.replicate_succ, List.set_cons_zero, List.take_succ_eq_append_getElem (by omega), List.append_assoc]
  rfl
theorem toRow_ev (row : List Int) (hr : row.length ≤ 10000000) : Ev (fun k => laws_toInt64S.f k row) row := by
  have go : ∀ d m, m + d = row.length → Ev (fun k => laws_toInt64S.l0 k row (row.take m ++ List.replicate d 0) (m : Int)) row := by
    intro d
    induction d with
    | zero =>
      intro m hm
      have b1 : ¬ (m : Int) < (row.length : Int) := by omega
      refine Ev.step (f := fun _ => some row) (fun k => ?_) (Ev.now _)
      rw [laws_toInt64S.l0, if_neg b1, List.take_of_length_le (by omega)]; simp
    | succ d ih =>
      intro m hm
      have hlt : m < row.length := by omega
      have b1 : (m : Int) < (row.length : Int) := by omega
      have b2 : (0 : Int) ≤ (m : Int) := Int.natCast_nonneg m
      have b3 : (m : Int) < ((row.take m ++ List.replicate (d + 1) (0 : Int)).length : Int) := by rw [List.length_append, List.length_take, List.length_replicate]; omega
      have hm9 : m < 1000000000 := by omega
      have e1 : rd row (m : Int) = row[m] := by simp [rd, List.getD, List.getElem?_eq_getElem hlt]
      refine Ev.step (fun k => ?_) (ih (m + 1) (by omega))
      rw [laws_toInt64S.l0, if_pos b1, if_pos b2, if_pos b3, e1, Int.toNat_natCast, set_take row 0 m d hm, succW m hm9]
  have h := go row.length 0 (by omega)
  rw [List.take_zero, List.nil_append] at h
  exact Ev.congr (fun k => by rw [laws_toInt64S.f, if_pos (by omega), Int.toNat_natCast, if_pos (by omega)]; rfl) h
theorem toRows_ev (xs : List (List Int)) (hx : xs.length ≤ 10000000) (hr : ∀ r ∈ xs, r.length ≤ 10000000) : Ev (fun k => laws_toInt64SS.f k xs) xs := by
  have go : ∀ d m, m + d = xs.length → Ev (fun k => laws_toInt64SS.l0 k xs (xs.take m ++ List.replicate d []) (m : Int)) xs := by
    intro d
    induction d with
    | zero =>
      intro m hm
      have b1 : ¬ (m : Int) < (xs.length : Int) := by omega
      refine Ev.step (f := fun _ => some xs) (fun k => ?_) (Ev.now _)
      rw [laws_toInt64SS.l0, if_neg b1, List.take_of_length_le (by omega)]; simp
    | succ d ih =>
      intro m hm
      have hlt : m < xs.length := by omega
      have b1 : (m : Int) < (xs.length : Int) := by omega
      have b2 : (0 : Int) ≤ (m : Int) := Int.natCast_nonneg m
      have b3 : (m : Int) < ((xs.take m ++ List.replicate (d + 1) ([] : List Int)).length : Int) := by rw [List.length_append, List.length_take, List.length_replicate]; omega
      have hm9 : m < 1000000000 := by omega
      have e1 : rd_L1 xs (m : Int) = xs[m] := by simp [rd_L1, List.getD, List.getElem?_eq_getElem hlt]
      refine Ev.step (f := fun k => (laws_toInt64S.f k xs[m]).bind fun t => if (m : Int) < ((xs.take m ++ List.replicate (d + 1) ([] : List Int)).length : Int) then laws_toInt64SS.l0 k xs ((xs.take m ++ List.replicate (d + 1) ([] : List Int)).set (m : Int).toNat t) (wrap64 ((m : Int) + 1)) else none) (fun k => ?_) (Ev.bind (toRow_ev xs[m] (hr _ (List.getElem_mem hlt))) (Ev.congr (fun k => ?_) (ih (m + 1) (by omega))))
      · rw [laws_toInt64SS.l0, if_pos b1, if_pos b2, e1]
      · rw [if_pos b3, Int.toNat_natCast, set_take xs [] m d hm, succW m hm9]
  have h := go xs.length 0 (by omega)
  rw [List.take_zero, List.nil_append] at h
  exact Ev.congr (fun k => by rw [laws_toInt64SS.f, if_pos (by omega), Int.toNat_natCast, if_pos (by omega)]; rfl) h
theorem rows_lens {xs : List (List Int)} {b : Nat} (h : rowsz0 xs ≤ b) : ∀ r ∈ xs, r.length ≤ b := by
  intro r hr
  obtain ⟨i, hi, e⟩ := List.mem_iff_getElem.1 hr
  have := rowsz0_row hi
  rw [rowLen, rowAt_at hi, e] at this
  omega
theorem toInt64SS_any (A : Option Addr) (xs : List (List Int)) (n c : Nat) (w : World) (hn : n = xs.length) (hA : RR w A xs) (hnc : n ≤ c) (hl : xs.length ≤ 10000000 ∧ rowsz0 xs ≤ 10000000) :
    Calls Try.prog 11 #[.slice A n c] w fun e w' => ∃ v, e = .returned v ∧ OWS w' w.heap.size w'.heap.size v xs (fun i => icells (rowAt xs i)) ∧ Below w.heap.size w w' := by
  subst hn
  obtain ⟨k, hk⟩ := (toRows_ev xs hl.1 (rows_lens hl.2)).rounds
  exact (laws_toInt64SS.calls k A c xs _ w (C_of_rr hA (by omega)) hnc hk).mono fun e w' ⟨v, he, hR, hB⟩ => ⟨v, he, ows_of_S hR, hB⟩
end Go.Proofs.Ytgdmflmglkakgaa

-- Printed by a program of this session (the kit's print, turned: printpatch.py) out of Lean's print of the translation. Lean checks it.
namespace Go.Proofs.Ytgdmflmglkakgaa.Q
open Go.RowKit Go.Proofs.YtgdmflmglkakgaaW.PrintWords Go.Proofs.YtgdmflmglkakgaaW.PrintLast Go.Proofs.YtgdmflmglkakgaaW.PrintMore
attribute [local go_sem] max2_int min2_int max_two min_two max_three min_three max_four min_four   -- for this text's walks alone
set_option linter.unusedVariables false
set_option linter.unusedSimpArgs false

/-! ### impl_setCode_at_impl_BordersOf_1: function 90 -/
def impl_setCode_at_impl_BordersOf_1.f (k : Nat) (a0_0 : Int) (l0_1 : List (S63)) (a1_0_0 : Int) (l1_0_1 : List (S63)) (l1_1_0 : List (List Int)) : Option (Int) := (impl_IsSet.f a0_0 l0_1).bind fun t235 => (if t235 = true then ((impl_BordersOf_1.f k a1_0_0 l1_0_1 l1_1_0).bind fun t236 => (if t236 = true then (some 0) else (some 2))) else (some 1))
theorem impl_setCode_at_impl_BordersOf_1.mono : ∀ a0 a1 a2 a3 a4 k, LeO (impl_setCode_at_impl_BordersOf_1.f k a0 a1 a2 a3 a4) (impl_setCode_at_impl_BordersOf_1.f (k + 1) a0 a1 a2 a3 a4) := by
 intro a0 a1 a2 a3 a4 k
 unfold impl_setCode_at_impl_BordersOf_1.f
 repeat' first
   | (with_reducible exact impl_BordersOf_1.mono _ _ _ _)
   | (with_reducible exact LeO.refl _)
   | (with_reducible exact LeO.none _)
   | (with_reducible refine LeO.ite ?_ ?_)
   | (with_reducible refine LeO.bind ?_ (fun _ => ?_))
   | exact impl_BordersOf_1.mono _ _ _ _
   | exact LeO.none _
   | refine LeO.ite ?_ ?_
   | refine LeO.bind ?_ (fun _ => ?_)
set_option maxHeartbeats 8000000 in
set_option maxRecDepth 100000 in
theorem impl_setCode_at_impl_BordersOf_1.calls (k : Nat) (a0_0 : Int) (A0_1 : Option Addr) (c0_1 : Nat) (l0_1 : List (S63)) (g1_0_ : Nat) (a1_0_0 : Int) (A1_0_1 : Option Addr) (c1_0_1 : Nat) (l1_0_1 : List (S63)) (g1_1_ : Nat) (A1_1_0 : Option Addr) (c1_1_0 : Nat) (l1_1_0 : List (List Int)) (r : Int) (w : World) (hr0_1 : Kd.C k63 w A0_1 l0_1.length l0_1) (hc0_1 : l0_1.length ≤ c0_1) (hr1_0_1 : Kd.C k63 w A1_0_1 l1_0_1.length l1_0_1) (hc1_0_1 : l1_0_1.length ≤ c1_0_1) (hr1_1_0 : Kd.C (Kd.slice 2 (Kd.int .i64)) w A1_1_0 l1_1_0.length l1_1_0) (hc1_1_0 : l1_1_0.length ≤ c1_1_0) (hb1_0_ : w.heap[g1_0_]? = some (.cells #[.int .i64 a1_0_0, .slice A1_0_1 l1_0_1.length c1_0_1] 32 (0, 0))) (hb1_1_ : w.heap[g1_1_]? = some (.cells #[.slice A1_1_0 l1_1_0.length c1_1_0] 25 (0, 0))) (h : impl_setCode_at_impl_BordersOf_1.f k a0_0 l0_1 a1_0_0 l1_0_1 l1_1_0 = some r) :
  Calls Try.prog 31 #[.agg #[.int .i64 a0_0, .slice A0_1 l0_1.length c0_1], .func (.func 38) #[] #[.pointer (some ⟨g1_0_, 0, none⟩), .pointer (some ⟨g1_1_, 0, none⟩)]] w fun e w' => e = .returned (.int .i64 r) ∧ Below w.heap.size w w' := by
 have hu32 := Try.underlying32
 have HR0_1 := Aside0.mk hr0_1
 have HC0_1 := Aside0.mk hc0_1
 clear hr0_1 hc0_1
 have HR1_0_1 := Aside0.mk hr1_0_1
 have HC1_0_1 := Aside0.mk hc1_0_1
 clear hr1_0_1 hc1_0_1
 have HR1_1_0 := Aside0.mk hr1_1_0
 have HC1_1_0 := Aside0.mk hc1_1_0
 clear hr1_1_0 hc1_1_0
 have BK90020 := Aside0.mk hb1_0_
 clear hb1_0_
 have BK90021 := Aside0.mk hb1_1_
 clear hb1_1_
 have HB := Aside0.mk (Below.refl w.heap.size w)
 have H : ((impl_IsSet.f a0_0 l0_1).bind fun t235 => (if t235 = true then ((impl_BordersOf_1.f k a1_0_0 l1_0_1 l1_1_0).bind fun t236 => (if t236 = true then (some 0) else (some 2))) else (some 1))) = some r := h
 clear h
 replace H := Option.bind_eq_some_iff.mp H
 obtain ⟨t235, A30, H⟩ := H
 replace H : (if t235 = true then ((impl_BordersOf_1.f k a1_0_0 l1_0_1 l1_1_0).bind fun t236 => (if t236 = true then (some 0) else (some 2))) else (some 1)) = some r := H
 have A3 := Aside0.mk A30
 clear A30
 by_cases c4 : t235 = true
 ·subst c4
  have H1 : ((impl_BordersOf_1.f k a1_0_0 l1_0_1 l1_1_0).bind fun t236 => (if t236 = true then (some 0) else (some 2))) = some r := by rw [if_pos rfl] at H; exact H
  clear H
  have H := H1
  clear H1
  replace H := Option.bind_eq_some_iff.mp H
  obtain ⟨t236, A50, H⟩ := H
  replace H : (if t236 = true then (some 0) else (some 2)) = some r := H
  have A5 := Aside0.mk A50
  clear A50
  by_cases c6 : t236 = true
  ·subst c6
   have H1 : (some 0) = some r := by rw [if_pos rfl] at H; exact H
   clear H
   have H := H1
   clear H1
   obtain rfl := Option.some.inj H
   go_enter Try.func31, Try.ntmps31
   go_wp2_with (first | ((with_reducible refine gate_dst (N := 2) rfl ?_); refine box_event ?hg (N := 2) ?hd (cs := #[.int .i64 a0_0, .slice A0_1 l0_1.length c0_1]) (t := 32) ?hr ?_; (case hd => rfl); (case hg => rfl); (case hr => first | (go_simp; done) | (go_simp; rfl)); intro gb234 hg w7 hbox hb; have n0_ := Aside0.mk (blk_below (g := g1_0_) (o := .cells #[.int .i64 a1_0_0, .slice A1_0_1 l1_0_1.length c1_0_1] 32 (0, 0)) (by (with_reducible repeat (first | refine blk_drewN ?_ _ | refine blk_drew ?_ | refine blk_alloc ?_ _)); exact BK90020.out) hb); have n1_ := Aside0.mk (blk_below (g := g1_1_) (o := .cells #[.slice A1_1_0 l1_1_0.length c1_1_0] 25 (0, 0)) (by (with_reducible repeat (first | refine blk_drewN ?_ _ | refine blk_drew ?_ | refine blk_alloc ?_ _)); exact BK90021.out) hb); have n2_ := Aside0.mk (below_step (by repeat (first | (with_reducible first | exact HB.out | apply below_alloc | apply pw_below_drewN | apply below_drew1) | exact HB.out)) hb); have n3_ := Aside0.mk (hbox); have n4_ := Aside0.mk ((by rw [hg]; exact (below_size (by repeat (first | (with_reducible first | exact HB.out | apply below_alloc | apply pw_below_drewN | apply below_drew1) | exact HB.out))) : w.heap.size ≤ gb234)); have n5_ := Aside0.mk ((by rw [hg]; exact (below_size (by repeat (first | (with_reducible first | exact HB.out | apply below_alloc | apply pw_below_drewN | apply below_drew1) | exact HB.out))) : w.heap.size ≤ gb234)); have n6_ := Aside0.mk ((by rw [hg]; exact Nat.ne_of_lt (blk_lt (g := g1_0_) (o := .cells #[.int .i64 a1_0_0, .slice A1_0_1 l1_0_1.length c1_0_1] 32 (0, 0)) (by (with_reducible repeat (first | refine blk_drewN ?_ _ | refine blk_drew ?_ | refine blk_alloc ?_ _)); exact BK90020.out)) : g1_0_ ≠ gb234)); have n7_ := Aside0.mk ((by rw [hg]; exact Nat.ne_of_gt (blk_lt (g := g1_0_) (o := .cells #[.int .i64 a1_0_0, .slice A1_0_1 l1_0_1.length c1_0_1] 32 (0, 0)) (by (with_reducible repeat (first | refine blk_drewN ?_ _ | refine blk_drew ?_ | refine blk_alloc ?_ _)); exact BK90020.out)) : gb234 ≠ g1_0_)); have n8_ := Aside0.mk ((by rw [hg]; exact Nat.ne_of_lt (blk_lt (g := g1_1_) (o := .cells #[.slice A1_1_0 l1_1_0.length c1_1_0] 25 (0, 0)) (by (with_reducible repeat (first | refine blk_drewN ?_ _ | refine blk_drew ?_ | refine blk_alloc ?_ _)); exact BK90021.out)) : g1_1_ ≠ gb234)); have n9_ := Aside0.mk ((by rw [hg]; exact Nat.ne_of_gt (blk_lt (g := g1_1_) (o := .cells #[.slice A1_1_0 l1_1_0.length c1_1_0] 25 (0, 0)) (by (with_reducible repeat (first | refine blk_drewN ?_ _ | refine blk_drew ?_ | refine blk_alloc ?_ _)); exact BK90021.out)) : gb234 ≠ g1_1_)); clear BK90020; clear BK90021; clear HB; have BK90020 := n0_; have BK90021 := n1_; have HB := n2_; have BK234 := n3_; have GW234 := n4_; have GE234 := n5_; have NB90020_234 := n6_; have NB234_90020 := n7_; have NB90021_234 := n8_; have NB234_90021 := n9_; clear n0_ n1_ n2_ n3_ n4_ n5_ n6_ n7_ n8_ n9_; clear hb hbox hg; have hnb8 := NB234_90020.out; have hnc8 := NB90020_234.out; have hnb9 := NB234_90021.out; have hnc9 := NB90021_234.out; have hcz10_0 : w7.cell? ⟨gb234, 0, none⟩ = some (.int .i64 a0_0) := (blk_cell BK234.out 0).trans rfl; have hcz10_1 : w7.cell? ⟨gb234, 1, none⟩ = some (.slice A0_1 l0_1.length c0_1) := (blk_cell BK234.out 1).trans rfl; have hfz10_0 := blk_frozen BK234.out 0; have hfz10_1 := blk_frozen BK234.out 1) | ((with_reducible refine gate_callee (f := 45) rfl ?_); refine goesL_ (some 7) rfl rfl Try.func45 (by kernel_rfl) rfl #[.agg #[.int .i64 a0_0, .slice A0_1 l0_1.length c0_1]] rfl (by (try simp only [List.map_toArray, List.map_cons, List.map_nil]); first | done | rfl | (simp only [List.length_drop, List.length_take]; rfl)) ?_; (with_reducible refine (impl_IsSet.calls a0_0 _ _ l0_1 true _ ?side1 ?side2 A3.out).mono ?_); (case side1 => repeat (first | exact (Kd.C_below HR0_1.out HB.out) | (with_reducible refine Kd.C_alloc ?_ _) | (with_reducible refine Kd.C_drewN ?_ _) | (with_reducible refine Kd.C_drew ?_))); (case side2 => exact HC0_1.out); rintro e w11 ⟨rfl, hb⟩; refine ⟨_, rfl, ?_⟩; have n0_ := Aside0.mk (blk_below (g := g1_0_) (o := .cells #[.int .i64 a1_0_0, .slice A1_0_1 l1_0_1.length c1_0_1] 32 (0, 0)) (by (with_reducible repeat (first | refine blk_drewN ?_ _ | refine blk_drew ?_ | refine blk_alloc ?_ _)); exact BK90020.out) hb); have n1_ := Aside0.mk (blk_below (g := g1_1_) (o := .cells #[.slice A1_1_0 l1_1_0.length c1_1_0] 25 (0, 0)) (by (with_reducible repeat (first | refine blk_drewN ?_ _ | refine blk_drew ?_ | refine blk_alloc ?_ _)); exact BK90021.out) hb); have n2_ := Aside0.mk (blk_below (g := gb234) (o := .cells #[.int .i64 a0_0, .slice A0_1 l0_1.length c0_1] 32 (0, 0)) (by (with_reducible repeat (first | refine blk_drewN ?_ _ | refine blk_drew ?_ | refine blk_alloc ?_ _)); exact BK234.out) hb); have n3_ := Aside0.mk (below_step (by repeat (first | (with_reducible first | exact HB.out | apply below_alloc | apply pw_below_drewN | apply below_drew1 | refine below_set ?_ GE234.out) | exact HB.out)) hb); clear BK90020; clear BK90021; clear BK234; clear HB; have BK90020 := n0_; have BK90021 := n1_; have BK234 := n2_; have HB := n3_; clear n0_ n1_ n2_ n3_; (try clear hb); (try clear hb2); (try clear hk); (try clear hi)))
   (with_reducible refine (impl_BordersOf_1.calls k g1_0_ a1_0_0 A1_0_1 c1_0_1 l1_0_1 g1_1_ A1_1_0 c1_1_0 l1_1_0 true _ ?side1_q13 ?side2_q13 ?side3_q13 ?side4_q13 ?side5_q13 ?side6_q13 A5.out).mono ?_); (case side1_q13 => repeat (first | exact (Kd.C_below HR1_0_1.out HB.out) | (with_reducible refine Kd.C_alloc ?_ _) | (with_reducible refine Kd.C_drewN ?_ _) | (with_reducible refine Kd.C_drew ?_))); (case side2_q13 => exact HC1_0_1.out); (case side3_q13 => repeat (first | exact (Kd.C_below HR1_1_0.out HB.out) | (with_reducible refine Kd.C_alloc ?_ _) | (with_reducible refine Kd.C_drewN ?_ _) | (with_reducible refine Kd.C_drew ?_))); (case side4_q13 => exact HC1_1_0.out); (case side5_q13 => exact (by (with_reducible repeat (first | refine blk_drewN ?_ _ | refine blk_drew ?_ | refine blk_alloc ?_ _)); exact BK90020.out)); (case side6_q13 => exact (by (with_reducible repeat (first | refine blk_drewN ?_ _ | refine blk_drew ?_ | refine blk_alloc ?_ _)); exact BK90021.out))
   rintro e w12 ⟨rfl, hb⟩
   have n0_ := Aside0.mk (blk_below (g := g1_0_) (o := .cells #[.int .i64 a1_0_0, .slice A1_0_1 l1_0_1.length c1_0_1] 32 (0, 0)) (by (with_reducible repeat (first | refine blk_drewN ?_ _ | refine blk_drew ?_ | refine blk_alloc ?_ _)); exact BK90020.out) hb)
   have n1_ := Aside0.mk (blk_below (g := g1_1_) (o := .cells #[.slice A1_1_0 l1_1_0.length c1_1_0] 25 (0, 0)) (by (with_reducible repeat (first | refine blk_drewN ?_ _ | refine blk_drew ?_ | refine blk_alloc ?_ _)); exact BK90021.out) hb)
   have n2_ := Aside0.mk (blk_below (g := gb234) (o := .cells #[.int .i64 a0_0, .slice A0_1 l0_1.length c0_1] 32 (0, 0)) (by (with_reducible repeat (first | refine blk_drewN ?_ _ | refine blk_drew ?_ | refine blk_alloc ?_ _)); exact BK234.out) hb)
   have n3_ := Aside0.mk (below_step (by repeat (first | (with_reducible first | exact HB.out | apply below_alloc | apply pw_below_drewN | apply below_drew1 | refine below_set ?_ GE234.out) | exact HB.out)) hb)
   clear BK90020
   clear BK90021
   clear BK234
   clear HB
   have BK90020 := n0_
   have BK90021 := n1_
   have BK234 := n2_
   have HB := n3_
   clear n0_ n1_ n2_ n3_
   (try clear hb)
   (try clear hb2)
   (try clear hk)
   (try clear hi)
   go_wp2_with fail
   go_ret
   exact ⟨by first | rfl | (simp [errW_none, errW_some] <;> rfl) | (simp [*, errW_none, errW_some] <;> rfl), by repeat (first | (with_reducible first | exact HB.out | apply below_alloc | apply pw_below_drewN | apply below_drew1 | refine below_set ?_ GE234.out) | exact HB.out)⟩
  ·replace c6 := Bool.eq_false_iff.mpr c6
   subst c6
   have H1 : (some 2) = some r := by rw [if_neg (show ¬ (false = true) by decide)] at H; exact H
   clear H
   have H := H1
   clear H1
   obtain rfl := Option.some.inj H
   go_enter Try.func31, Try.ntmps31
   go_wp2_with (first | ((with_reducible refine gate_dst (N := 2) rfl ?_); refine box_event ?hg (N := 2) ?hd (cs := #[.int .i64 a0_0, .slice A0_1 l0_1.length c0_1]) (t := 32) ?hr ?_; (case hd => rfl); (case hg => rfl); (case hr => first | (go_simp; done) | (go_simp; rfl)); intro gb234 hg w14 hbox hb; have n0_ := Aside0.mk (blk_below (g := g1_0_) (o := .cells #[.int .i64 a1_0_0, .slice A1_0_1 l1_0_1.length c1_0_1] 32 (0, 0)) (by (with_reducible repeat (first | refine blk_drewN ?_ _ | refine blk_drew ?_ | refine blk_alloc ?_ _)); exact BK90020.out) hb); have n1_ := Aside0.mk (blk_below (g := g1_1_) (o := .cells #[.slice A1_1_0 l1_1_0.length c1_1_0] 25 (0, 0)) (by (with_reducible repeat (first | refine blk_drewN ?_ _ | refine blk_drew ?_ | refine blk_alloc ?_ _)); exact BK90021.out) hb); have n2_ := Aside0.mk (below_step (by repeat (first | (with_reducible first | exact HB.out | apply below_alloc | apply pw_below_drewN | apply below_drew1) | exact HB.out)) hb); have n3_ := Aside0.mk (hbox); have n4_ := Aside0.mk ((by rw [hg]; exact (below_size (by repeat (first | (with_reducible first | exact HB.out | apply below_alloc | apply pw_below_drewN | apply below_drew1) | exact HB.out))) : w.heap.size ≤ gb234)); have n5_ := Aside0.mk ((by rw [hg]; exact (below_size (by repeat (first | (with_reducible first | exact HB.out | apply below_alloc | apply pw_below_drewN | apply below_drew1) | exact HB.out))) : w.heap.size ≤ gb234)); have n6_ := Aside0.mk ((by rw [hg]; exact Nat.ne_of_lt (blk_lt (g := g1_0_) (o := .cells #[.int .i64 a1_0_0, .slice A1_0_1 l1_0_1.length c1_0_1] 32 (0, 0)) (by (with_reducible repeat (first | refine blk_drewN ?_ _ | refine blk_drew ?_ | refine blk_alloc ?_ _)); exact BK90020.out)) : g1_0_ ≠ gb234)); have n7_ := Aside0.mk ((by rw [hg]; exact Nat.ne_of_gt (blk_lt (g := g1_0_) (o := .cells #[.int .i64 a1_0_0, .slice A1_0_1 l1_0_1.length c1_0_1] 32 (0, 0)) (by (with_reducible repeat (first | refine blk_drewN ?_ _ | refine blk_drew ?_ | refine blk_alloc ?_ _)); exact BK90020.out)) : gb234 ≠ g1_0_)); have n8_ := Aside0.mk ((by rw [hg]; exact Nat.ne_of_lt (blk_lt (g := g1_1_) (o := .cells #[.slice A1_1_0 l1_1_0.length c1_1_0] 25 (0, 0)) (by (with_reducible repeat (first | refine blk_drewN ?_ _ | refine blk_drew ?_ | refine blk_alloc ?_ _)); exact BK90021.out)) : g1_1_ ≠ gb234)); have n9_ := Aside0.mk ((by rw [hg]; exact Nat.ne_of_gt (blk_lt (g := g1_1_) (o := .cells #[.slice A1_1_0 l1_1_0.length c1_1_0] 25 (0, 0)) (by (with_reducible repeat (first | refine blk_drewN ?_ _ | refine blk_drew ?_ | refine blk_alloc ?_ _)); exact BK90021.out)) : gb234 ≠ g1_1_)); clear BK90020; clear BK90021; clear HB; have BK90020 := n0_; have BK90021 := n1_; have HB := n2_; have BK234 := n3_; have GW234 := n4_; have GE234 := n5_; have NB90020_234 := n6_; have NB234_90020 := n7_; have NB90021_234 := n8_; have NB234_90021 := n9_; clear n0_ n1_ n2_ n3_ n4_ n5_ n6_ n7_ n8_ n9_; clear hb hbox hg; have hnb15 := NB234_90020.out; have hnc15 := NB90020_234.out; have hnb16 := NB234_90021.out; have hnc16 := NB90021_234.out; have hcz17_0 : w14.cell? ⟨gb234, 0, none⟩ = some (.int .i64 a0_0) := (blk_cell BK234.out 0).trans rfl; have hcz17_1 : w14.cell? ⟨gb234, 1, none⟩ = some (.slice A0_1 l0_1.length c0_1) := (blk_cell BK234.out 1).trans rfl; have hfz17_0 := blk_frozen BK234.out 0; have hfz17_1 := blk_frozen BK234.out 1) | ((with_reducible refine gate_callee (f := 45) rfl ?_); refine goesL_ (some 7) rfl rfl Try.func45 (by kernel_rfl) rfl #[.agg #[.int .i64 a0_0, .slice A0_1 l0_1.length c0_1]] rfl (by (try simp only [List.map_toArray, List.map_cons, List.map_nil]); first | done | rfl | (simp only [List.length_drop, List.length_take]; rfl)) ?_; (with_reducible refine (impl_IsSet.calls a0_0 _ _ l0_1 true _ ?side1 ?side2 A3.out).mono ?_); (case side1 => repeat (first | exact (Kd.C_below HR0_1.out HB.out) | (with_reducible refine Kd.C_alloc ?_ _) | (with_reducible refine Kd.C_drewN ?_ _) | (with_reducible refine Kd.C_drew ?_))); (case side2 => exact HC0_1.out); rintro e w18 ⟨rfl, hb⟩; refine ⟨_, rfl, ?_⟩; have n0_ := Aside0.mk (blk_below (g := g1_0_) (o := .cells #[.int .i64 a1_0_0, .slice A1_0_1 l1_0_1.length c1_0_1] 32 (0, 0)) (by (with_reducible repeat (first | refine blk_drewN ?_ _ | refine blk_drew ?_ | refine blk_alloc ?_ _)); exact BK90020.out) hb); have n1_ := Aside0.mk (blk_below (g := g1_1_) (o := .cells #[.slice A1_1_0 l1_1_0.length c1_1_0] 25 (0, 0)) (by (with_reducible repeat (first | refine blk_drewN ?_ _ | refine blk_drew ?_ | refine blk_alloc ?_ _)); exact BK90021.out) hb); have n2_ := Aside0.mk (blk_below (g := gb234) (o := .cells #[.int .i64 a0_0, .slice A0_1 l0_1.length c0_1] 32 (0, 0)) (by (with_reducible repeat (first | refine blk_drewN ?_ _ | refine blk_drew ?_ | refine blk_alloc ?_ _)); exact BK234.out) hb); have n3_ := Aside0.mk (below_step (by repeat (first | (with_reducible first | exact HB.out | apply below_alloc | apply pw_below_drewN | apply below_drew1 | refine below_set ?_ GE234.out) | exact HB.out)) hb); clear BK90020; clear BK90021; clear BK234; clear HB; have BK90020 := n0_; have BK90021 := n1_; have BK234 := n2_; have HB := n3_; clear n0_ n1_ n2_ n3_; (try clear hb); (try clear hb2); (try clear hk); (try clear hi)))
   (with_reducible refine (impl_BordersOf_1.calls k g1_0_ a1_0_0 A1_0_1 c1_0_1 l1_0_1 g1_1_ A1_1_0 c1_1_0 l1_1_0 false _ ?side1_q20 ?side2_q20 ?side3_q20 ?side4_q20 ?side5_q20 ?side6_q20 A5.out).mono ?_); (case side1_q20 => repeat (first | exact (Kd.C_below HR1_0_1.out HB.out) | (with_reducible refine Kd.C_alloc ?_ _) | (with_reducible refine Kd.C_drewN ?_ _) | (with_reducible refine Kd.C_drew ?_))); (case side2_q20 => exact HC1_0_1.out); (case side3_q20 => repeat (first | exact (Kd.C_below HR1_1_0.out HB.out) | (with_reducible refine Kd.C_alloc ?_ _) | (with_reducible refine Kd.C_drewN ?_ _) | (with_reducible refine Kd.C_drew ?_))); (case side4_q20 => exact HC1_1_0.out); (case side5_q20 => exact (by (with_reducible repeat (first | refine blk_drewN ?_ _ | refine blk_drew ?_ | refine blk_alloc ?_ _)); exact BK90020.out)); (case side6_q20 => exact (by (with_reducible repeat (first | refine blk_drewN ?_ _ | refine blk_drew ?_ | refine blk_alloc ?_ _)); exact BK90021.out))
   rintro e w19 ⟨rfl, hb⟩
   have n0_ := Aside0.mk (blk_below (g := g1_0_) (o := .cells #[.int .i64 a1_0_0, .slice A1_0_1 l1_0_1.length c1_0_1] 32 (0, 0)) (by (with_reducible repeat (first | refine blk_drewN ?_ _ | refine blk_drew ?_ | refine blk_alloc ?_ _)); exact BK90020.out) hb)
   have n1_ := Aside0.mk (blk_below (g := g1_1_) (o := .cells #[.slice A1_1_0 l1_1_0.length c1_1_0] 25 (0, 0)) (by (with_reducible repeat (first | refine blk_drewN ?_ _ | refine blk_drew ?_ | refine blk_alloc ?_ _)); exact BK90021.out) hb)
   have n2_ := Aside0.mk (blk_below (g := gb234) (o := .cells #[.int .i64 a0_0, .slice A0_1 l0_1.length c0_1] 32 (0, 0)) (by (with_reducible repeat (first | refine blk_drewN ?_ _ | refine blk_drew ?_ | refine blk_alloc ?_ _)); exact BK234.out) hb)
   have n3_ := Aside0.mk (below_step (by repeat (first | (with_reducible first | exact HB.out | apply below_alloc | apply pw_below_drewN | apply below_drew1 | refine below_set ?_ GE234.out) | exact HB.out)) hb)
   clear BK90020
   clear BK90021
   clear BK234
   clear HB
   have BK90020 := n0_
   have BK90021 := n1_
   have BK234 := n2_
   have HB := n3_
   clear n0_ n1_ n2_ n3_
   (try clear hb)
   (try clear hb2)
   (try clear hk)
   (try clear hi)
   go_wp2_with fail
   go_ret
   exact ⟨by first | rfl | (simp [errW_none, errW_some] <;> rfl) | (simp [*, errW_none, errW_some] <;> rfl), by repeat (first | (with_reducible first | exact HB.out | apply below_alloc | apply pw_below_drewN | apply below_drew1 | refine below_set ?_ GE234.out) | exact HB.out)⟩
 ·replace c4 := Bool.eq_false_iff.mpr c4
  subst c4
  have H1 : (some 1) = some r := by rw [if_neg (show ¬ (false = true) by decide)] at H; exact H
  clear H
  have H := H1
  clear H1
  obtain rfl := Option.some.inj H
  go_enter Try.func31, Try.ntmps31
  go_wp2_with (first | ((with_reducible refine gate_dst (N := 2) rfl ?_); refine box_event ?hg (N := 2) ?hd (cs := #[.int .i64 a0_0, .slice A0_1 l0_1.length c0_1]) (t := 32) ?hr ?_; (case hd => rfl); (case hg => rfl); (case hr => first | (go_simp; done) | (go_simp; rfl)); intro gb234 hg w21 hbox hb; have n0_ := Aside0.mk (blk_below (g := g1_0_) (o := .cells #[.int .i64 a1_0_0, .slice A1_0_1 l1_0_1.length c1_0_1] 32 (0, 0)) (by (with_reducible repeat (first | refine blk_drewN ?_ _ | refine blk_drew ?_ | refine blk_alloc ?_ _)); exact BK90020.out) hb); have n1_ := Aside0.mk (blk_below (g := g1_1_) (o := .cells #[.slice A1_1_0 l1_1_0.length c1_1_0] 25 (0, 0)) (by (with_reducible repeat (first | refine blk_drewN ?_ _ | refine blk_drew ?_ | refine blk_alloc ?_ _)); exact BK90021.out) hb); have n2_ := Aside0.mk (below_step (by repeat (first | (with_reducible first | exact HB.out | apply below_alloc | apply pw_below_drewN | apply below_drew1) | exact HB.out)) hb); have n3_ := Aside0.mk (hbox); have n4_ := Aside0.mk ((by rw [hg]; exact (below_size (by repeat (first | (with_reducible first | exact HB.out | apply below_alloc | apply pw_below_drewN | apply below_drew1) | exact HB.out))) : w.heap.size ≤ gb234)); have n5_ := Aside0.mk ((by rw [hg]; exact (below_size (by repeat (first | (with_reducible first | exact HB.out | apply below_alloc | apply pw_below_drewN | apply below_drew1) | exact HB.out))) : w.heap.size ≤ gb234)); have n6_ := Aside0.mk ((by rw [hg]; exact Nat.ne_of_lt (blk_lt (g := g1_0_) (o := .cells #[.int .i64 a1_0_0, .slice A1_0_1 l1_0_1.length c1_0_1] 32 (0, 0)) (by (with_reducible repeat (first | refine blk_drewN ?_ _ | refine blk_drew ?_ | refine blk_alloc ?_ _)); exact BK90020.out)) : g1_0_ ≠ gb234)); have n7_ := Aside0.mk ((by rw [hg]; exact Nat.ne_of_gt (blk_lt (g := g1_0_) (o := .cells #[.int .i64 a1_0_0, .slice A1_0_1 l1_0_1.length c1_0_1] 32 (0, 0)) (by (with_reducible repeat (first | refine blk_drewN ?_ _ | refine blk_drew ?_ | refine blk_alloc ?_ _)); exact BK90020.out)) : gb234 ≠ g1_0_)); have n8_ := Aside0.mk ((by rw [hg]; exact Nat.ne_of_lt (blk_lt (g := g1_1_) (o := .cells #[.slice A1_1_0 l1_1_0.length c1_1_0] 25 (0, 0)) (by (with_reducible repeat (first | refine blk_drewN ?_ _ | refine blk_drew ?_ | refine blk_alloc ?_ _)); exact BK90021.out)) : g1_1_ ≠ gb234)); have n9_ := Aside0.mk ((by rw [hg]; exact Nat.ne_of_gt (blk_lt (g := g1_1_) (o := .cells #[.slice A1_1_0 l1_1_0.length c1_1_0] 25 (0, 0)) (by (with_reducible repeat (first | refine blk_drewN ?_ _ | refine blk_drew ?_ | refine blk_alloc ?_ _)); exact BK90021.out)) : gb234 ≠ g1_1_)); clear BK90020; clear BK90021; clear HB; have BK90020 := n0_; have BK90021 := n1_; have HB := n2_; have BK234 := n3_; have GW234 := n4_; have GE234 := n5_; have NB90020_234 := n6_; have NB234_90020 := n7_; have NB90021_234 := n8_; have NB234_90021 := n9_; clear n0_ n1_ n2_ n3_ n4_ n5_ n6_ n7_ n8_ n9_; clear hb hbox hg; have hnb22 := NB234_90020.out; have hnc22 := NB90020_234.out; have hnb23 := NB234_90021.out; have hnc23 := NB90021_234.out; have hcz24_0 : w21.cell? ⟨gb234, 0, none⟩ = some (.int .i64 a0_0) := (blk_cell BK234.out 0).trans rfl; have hcz24_1 : w21.cell? ⟨gb234, 1, none⟩ = some (.slice A0_1 l0_1.length c0_1) := (blk_cell BK234.out 1).trans rfl; have hfz24_0 := blk_frozen BK234.out 0; have hfz24_1 := blk_frozen BK234.out 1) | ((with_reducible refine gate_callee (f := 45) rfl ?_); refine goesL_ (some 7) rfl rfl Try.func45 (by kernel_rfl) rfl #[.agg #[.int .i64 a0_0, .slice A0_1 l0_1.length c0_1]] rfl (by (try simp only [List.map_toArray, List.map_cons, List.map_nil]); first | done | rfl | (simp only [List.length_drop, List.length_take]; rfl)) ?_; (with_reducible refine (impl_IsSet.calls a0_0 _ _ l0_1 false _ ?side1 ?side2 A3.out).mono ?_); (case side1 => repeat (first | exact (Kd.C_below HR0_1.out HB.out) | (with_reducible refine Kd.C_alloc ?_ _) | (with_reducible refine Kd.C_drewN ?_ _) | (with_reducible refine Kd.C_drew ?_))); (case side2 => exact HC0_1.out); rintro e w25 ⟨rfl, hb⟩; refine ⟨_, rfl, ?_⟩; have n0_ := Aside0.mk (blk_below (g := g1_0_) (o := .cells #[.int .i64 a1_0_0, .slice A1_0_1 l1_0_1.length c1_0_1] 32 (0, 0)) (by (with_reducible repeat (first | refine blk_drewN ?_ _ | refine blk_drew ?_ | refine blk_alloc ?_ _)); exact BK90020.out) hb); have n1_ := Aside0.mk (blk_below (g := g1_1_) (o := .cells #[.slice A1_1_0 l1_1_0.length c1_1_0] 25 (0, 0)) (by (with_reducible repeat (first | refine blk_drewN ?_ _ | refine blk_drew ?_ | refine blk_alloc ?_ _)); exact BK90021.out) hb); have n2_ := Aside0.mk (blk_below (g := gb234) (o := .cells #[.int .i64 a0_0, .slice A0_1 l0_1.length c0_1] 32 (0, 0)) (by (with_reducible repeat (first | refine blk_drewN ?_ _ | refine blk_drew ?_ | refine blk_alloc ?_ _)); exact BK234.out) hb); have n3_ := Aside0.mk (below_step (by repeat (first | (with_reducible first | exact HB.out | apply below_alloc | apply pw_below_drewN | apply below_drew1 | refine below_set ?_ GE234.out) | exact HB.out)) hb); clear BK90020; clear BK90021; clear BK234; clear HB; have BK90020 := n0_; have BK90021 := n1_; have BK234 := n2_; have HB := n3_; clear n0_ n1_ n2_ n3_; (try clear hb); (try clear hb2); (try clear hk); (try clear hi)))
  go_ret
  exact ⟨by first | rfl | (simp [errW_none, errW_some] <;> rfl) | (simp [*, errW_none, errW_some] <;> rfl), by repeat (first | (with_reducible first | exact HB.out | apply below_alloc | apply pw_below_drewN | apply below_drew1 | refine below_set ?_ GE234.out) | exact HB.out)⟩

end Go.Proofs.Ytgdmflmglkakgaa.Q

/-
  BordersOf: what both return.
-/
namespace Go.Proofs.Ytgdmflmglkakgaa
open Go Go.RowKit Go.Proofs Go.Proofs.YtgdmflmglkakgaaW.PrintWords Go.Proofs.YtgdmflmglkakgaaW.PrintMore Go.Proofs.Ytgdmflmglkakgaa.Q
set_option linter.unusedVariables false
set_option linter.unusedSimpArgs false

def codeR (C : Int) (ts : List T4) (xs : List (List Int)) : Int := if isS C ts = true then if tabB ts.length xs = true then 0 else 2 else 1
def bordR (C : Int) (ts : List T4) (xs : List (List Int)) : List (List Int) × Int := if codeR C ts xs = 0 then if goodB (ts.map toS) xs = true then (bordL ts xs, 0) else ([], 5) else ([], codeR C ts xs)
theorem codeR_tab {C : Int} {ts : List T4} {xs : List (List Int)} (h : codeR C ts xs = 0) : Tab ts.length xs := by
  unfold codeR at h
  split at h
  · split at h
    · rename_i h2
      exact tab_of h2
    · cases h
  · cases h
theorem rowsz0_le {xs : List (List Int)} {b : Nat} (h : ∀ i, i < xs.length → rowLen xs i ≤ b) : rowsz0 xs ≤ xs.length * b := by
  have : ∀ j, j ≤ xs.length → tot (rowLen xs) j ≤ j * b := by
    intro j
    induction j with
    | zero => intro _; simp [tot]
    | succ j ih =>
      intro hj
      have h1 := ih (by omega)
      have h2 := h j (by omega)
      rw [tot, Nat.succ_mul]
      omega
  exact this _ (Nat.le_refl _)
theorem bordR_len (C : Int) (ts : List T4) (xs : List (List Int)) : (bordR C ts xs).1.length ≤ 1000000 ∧ rowsz0 (bordR C ts xs).1 ≤ 40000000 := by
  unfold bordR
  split
  · rename_i h0
    have ht := codeR_tab h0
    split
    · have h4 : (bordL ts xs).length = 4 := rfl
      show (bordL ts xs).length ≤ 1000000 ∧ rowsz0 (bordL ts xs) ≤ 40000000
      refine ⟨by omega, ?_⟩
      have h8 := ht.h8
      have w8 := ht.w8
      have : rowsz0 (bordL ts xs) ≤ (bordL ts xs).length * 16 := rowsz0_le fun i hi => by
        rw [h4] at hi
        match i, hi with
        | 0, _ => have := LL_len ts xs (width xs - 1) (xs.length - 1) xs.length (width xs) 0; show (LL ts xs (width xs - 1) (xs.length - 1) xs.length (width xs) 0).length ≤ 16; omega
        | 1, _ => have := LL_len ts xs (width xs - 1) (xs.length - 1) xs.length (width xs) 1; show (LL ts xs (width xs - 1) (xs.length - 1) xs.length (width xs) 1).length ≤ 16; omega
        | 2, _ => have := LL_len ts xs (width xs - 1) (xs.length - 1) xs.length (width xs) 2; show (LL ts xs (width xs - 1) (xs.length - 1) xs.length (width xs) 2).length ≤ 16; omega
        | 3, _ => have := LL_len ts xs (width xs - 1) (xs.length - 1) xs.length (width xs) 3; show (LL ts xs (width xs - 1) (xs.length - 1) xs.length (width xs) 3).length ≤ 16; omega
      rw [h4] at this
      omega
    · exact ⟨by simp, by simp [rowsz0, tot]⟩
  · exact ⟨by simp, by simp [rowsz0, tot]⟩
theorem ows_nil {w : World} {lo : Nat} {cs : Nat → List Value} : OWS w lo w.heap.size (.slice none 0 0) [] cs :=
  ⟨⟨none, 0, 0, fun _ => .slice none 0 0, rfl, by simp, fun h => by simp at h, ⟨fun i hi => by simp at hi, fun i hi => by simp at hi, fun i j hi => by simp at hi, fun i hi => by simp at hi⟩⟩, Nat.le_refl _⟩
theorem bordCode_ev (C : Int) (l : List STile) (xs : List (List Int)) (hl : l.length ≤ 35184372088832) (hx : xs.length ≤ 10000000) (hr : ∀ r ∈ xs, r.length ≤ 10000000) :
    Ev (fun k => impl_setCode_at_impl_BordersOf_1.f k C l C l xs) (if isS C (l.map toT) = true then if tabB l.length xs = true then 0 else 2 else 1) := by
  have hin : inLim l.length = true := by simpa [inLim] using hl
  cases hs : isS C (l.map toT)
  · refine Ev.congr (fun k => ?_) (Ev.now _)
    rw [impl_setCode_at_impl_BordersOf_1.f, impl_IsSet.f, if_pos hin, hs]; rfl
  · refine Ev.congr (f := fun k => (impl_BordersOf_1.f k C l xs).bind fun b => if b = true then some 0 else some 2) (fun k => ?_) (Ev.bind (a := tabB l.length xs) ?_ ?_)
    · rw [impl_setCode_at_impl_BordersOf_1.f, impl_IsSet.f, if_pos hin, hs]; rfl
    · exact Ev.congr (f := fun k => (impl_Set_areNumbers.f k C l xs).bind fun t => some t) (fun k => by rw [impl_BordersOf_1.f]) (Ev.bind (areNumbers_ev C l xs hl hx hr) (Ev.now _))
    · refine Ev.congr (fun k => ?_) (Ev.now _)
      cases tabB l.length xs <;> rfl
theorem specCode_any (C : Int) (A : Option Addr) (ts : List T4) (n c : Nat) (A' : Option Addr) (xs : List (List Int)) (n' c' : Nat) (w : World) (hn : n = ts.length) (hA : RT w A ts) (hnc : n ≤ c) (hl : n ≤ 35184372088832) (hn' : n' = xs.length) (hA' : RR w A' xs) (hnc' : n' ≤ c') (hl' : n' ≤ 10000000 ∧ rowsz0 xs ≤ 10000000) :
    Calls Try.prog 27 #[.agg #[.int .i64 C, .slice A n c], .slice A' n' c'] w fun e w' => e = .returned (.int .i64 (codeR C ts xs)) ∧ Below w.heap.size w w' := by
  subst hn hn'
  obtain ⟨k, hk⟩ := (specRows_ev C (ts.map toS) xs (by simpa using hl) hl'.1 (rows_lens hl'.2)).rounds
  rw [map_toTS, List.length_map] at hk
  have h := spec_l01Rows.calls k C A c (ts.map toS) A' c' xs _ w (C_of_rt hA (by omega)) (by simpa using hnc) (C_of_rr hA' (by omega)) hnc' hk
  rw [List.length_map] at h
  exact h
theorem implCode_any (C : Int) (A : Option Addr) (ts : List T4) (n c g0 g1 : Nat) (A' : Option Addr) (xs : List (List Int)) (n' c' : Nat) (w : World) (hn : n = ts.length) (hA : RT w A ts) (hnc : n ≤ c) (hl : n ≤ 35184372088832) (hn' : n' = xs.length) (hA' : RR w A' xs) (hnc' : n' ≤ c') (hl' : n' ≤ 10000000 ∧ rowsz0 xs ≤ 10000000)
    (b0 : BK w g0 #[.int .i64 C, .slice A n c] 32) (b1 : BK w g1 #[.slice A' n' c'] 25) :
    Calls Try.prog 31 #[.agg #[.int .i64 C, .slice A n c], .func (.func 38) #[] #[.pointer (some ⟨g0, 0, none⟩), .pointer (some ⟨g1, 0, none⟩)]] w fun e w' => e = .returned (.int .i64 (codeR C ts xs)) ∧ Below w.heap.size w w' := by
  subst hn hn'
  obtain ⟨k, hk⟩ := (bordCode_ev C (ts.map toS) xs (by simpa using hl) hl'.1 (rows_lens hl'.2)).rounds
  rw [map_toTS, List.length_map] at hk
  have b0' : w.heap[g0]? = some (.cells #[.int .i64 C, .slice A (ts.map toS).length c] 32 (0, 0)) := by rw [List.length_map]; exact b0
  have h := impl_setCode_at_impl_BordersOf_1.calls k C A c (ts.map toS) g0 C A c (ts.map toS) g1 A' c' xs _ w (C_of_rt hA (by omega)) (by simpa using hnc) (C_of_rt hA (by omega)) (by simpa using hnc) (C_of_rr hA' (by omega)) hnc' b0' b1 hk
  rw [List.length_map] at h
  exact h
theorem implGood_any (C : Int) (A : Option Addr) (ts : List T4) (n c : Nat) (A' : Option Addr) (xs : List (List Int)) (n' c' : Nat) (w : World) (hn : n = ts.length) (hA : RT w A ts) (hnc : n ≤ c) (hl : n ≤ 35184372088832) (hn' : n' = xs.length) (hA' : RR w A' xs) (hnc' : n' ≤ c') (hl' : n' ≤ 10000000) (ht : Tab ts.length xs) :
    Calls Try.prog 34 #[.agg #[.int .i64 C, .slice A n c], .slice A' n' c'] w fun e w' => e = .returned (.bool (goodB (ts.map toS) xs)) ∧ Below w.heap.size w w' := by
  subst hn hn'
  obtain ⟨k, hk⟩ := (isFilling_ev C (ts.map toS) xs (by rw [List.length_map]; exact ht)).rounds
  have h := impl_Set_isFilling.calls k C A c (ts.map toS) A' c' xs _ w (C_of_rt hA (by omega)) (by simpa using hnc) (C_of_rr hA' (by omega)) hnc' hk
  rw [List.length_map] at h
  exact h
theorem OW.lower {w : World} {lo lo' hi : Nat} {E : TypeId} {size n : Nat} {v : Value} {cells : List Value} (h : OW w lo hi E size v n cells) (hl : lo' ≤ lo) : OW w lo' hi E size v n cells := by
  obtain ⟨h1, h2⟩ := h.own
  refine ⟨⟨h1, ?_⟩, h.up, h.top⟩
  rcases h2 with h2 | ⟨g, cap, cur, hv, hg, r⟩
  · exact .inl h2
  · exact .inr ⟨g, cap, cur, hv, Nat.le_trans hl hg, r⟩
theorem OWS.lower {w : World} {lo lo' hi : Nat} {v : Value} {xs : List (List Int)} {cs : Nat → List Value} (h : OWS w lo hi v xs cs) (hl : lo' ≤ lo) : OWS w lo' hi v xs cs := by
  obtain ⟨A, c, g, hv, rfl, hc, hA, hr⟩ := h.ex
  exact ⟨⟨A, c, g, hv, rfl, hc, fun hp => ⟨(hA hp).1, Nat.le_trans hl (hA hp).2.1, (hA hp).2.2⟩, ⟨hr.hdr, fun i hi' => (hr.row i hi').lower hl, hr.apart, hr.out⟩⟩, h.top⟩
set_option maxHeartbeats 4000000 in
theorem specBordersOf_any (C : Int) (A : Option Addr) (ts : List T4) (n c : Nat) (A' : Option Addr) (xs : List (List Int)) (n' c' : Nat) (w : World) (hn : n = ts.length) (hA : RT w A ts) (hnc : n ≤ c) (hl : n ≤ 35184372088832) (hn' : n' = xs.length) (hA' : RR w A' xs) (hnc' : n' ≤ c') (hl' : n' ≤ 10000000 ∧ rowsz0 xs ≤ 10000000) :
    Calls Try.prog 15 #[.agg #[.int .i64 C, .slice A n c], .slice A' n' c'] w fun e w' => ∃ v ys code, bordR C ts xs = (ys, code) ∧ e = .returned (.tuple #[v, .int .i64 code]) ∧ OWS w' w.heap.size w'.heap.size v ys (fun i => icells (rowAt ys i)) ∧ Below w.heap.size w w' := by
  have HA := Lib.hid hA; have HN := Lib.hid hn; have HA' := Lib.hid hA'; have HM := Lib.hid hn'
  clear hA hn hA' hn'
  go_enter Try.func15, Try.ntmps15
  go_wp2_with fail
  have b1 : BK (w.alloc (.cells #[.int .i64 C, .slice A n c] 32)) w.heap.size #[.int .i64 C, .slice A n c] 32 := BK.new _ _ _
  have hb0 : Below w.heap.size w (w.alloc (.cells #[.int .i64 C, .slice A n c] 32)) := below_alloc (Below.refl _ _) _
  generalize (w.alloc (.cells #[.int .i64 C, .slice A n c] 32)) = W1 at b1 hb0 ⊢
  have HB0 := Lib.hid hb0; clear hb0
  have z0 : W1.cell? ⟨w.heap.size, 0, none⟩ = some (.int .i64 C) := b1.cell rfl
  have z1 : W1.cell? ⟨w.heap.size, 1, none⟩ = some (.slice A n c) := b1.cell rfl
  refine (specCode_any C A ts n c A' xs n' c' W1 HN.out (HA.out.below HB0.out) hnc hl HM.out (HA'.out.below HB0.out) hnc' hl').mono ?_
  rintro e w2 ⟨rfl, hB⟩
  replace b1 := b1.below hB b1.lt
  have HB2 := Lib.hid (below_to HB0.out hB)
  clear z0 z1 hB HB0
  by_cases h0 : codeR C ts xs = 0
  · have HT := Lib.hid (codeR_tab h0)
    have HR := Lib.hid (show bordR C ts xs = if goodB (ts.map toS) xs = true then (bordL ts xs, 0) else ([], 5) from if_pos h0)
    rw [h0]
    clear h0
    have z0 : w2.cell? ⟨w.heap.size, 0, none⟩ = some (.int .i64 C) := b1.cell rfl
    have z1 : w2.cell? ⟨w.heap.size, 1, none⟩ = some (.slice A n c) := b1.cell rfl
    go_wp2_with fail
    refine (good_any C A ts n c A' xs n' c' w2 HN.out (HA.out.below HB2.out) hl HM.out (HA'.out.below HB2.out) HT.out).mono ?_
    rintro e w3 ⟨rfl, hB⟩
    replace b1 := b1.below hB b1.lt
    have HB3 := Lib.hid (below_to HB2.out hB)
    clear z0 z1 hB HB2
    cases hg : goodB (ts.map toS) xs
    · rw [hg] at HR
      have HR2 := HR; clear HR hg
      go_wp2_with fail
      go_ret2
      exact ⟨_, [], 5, HR2.out, rfl, ows_nil, HB3.out⟩
    · rw [hg] at HR
      have HR2 := HR; clear HR hg
      have z0 : w3.cell? ⟨w.heap.size, 0, none⟩ = some (.int .i64 C) := b1.cell rfl
      have z1 : w3.cell? ⟨w.heap.size, 1, none⟩ = some (.slice A n c) := b1.cell rfl
      go_wp2_with fail
      refine (specBorders_any C A ts n c A' xs n' c' w3 HN.out (HA.out.below HB3.out) hl HM.out (HA'.out.below HB3.out) HT.out).mono ?_
      rintro e w4 ⟨v, rfl, hW, hB⟩
      have HW := Lib.hid (hW.lower HB3.out.size); have HB4 := Lib.hid (below_to HB3.out hB)
      clear hW hB
      go_wp2_with fail
      go_ret2
      exact ⟨_, _, 0, HR2.out, rfl, HW.out, HB4.out⟩
  · have HR := Lib.hid (show bordR C ts xs = ([], codeR C ts xs) from if_neg h0)
    generalize codeR C ts xs = r at h0 HR ⊢
    have h0' : (r != 0) = true := by simpa using h0
    go_wp2_with fail
    go_ret2
    exact ⟨_, [], r, HR.out, rfl, ows_nil, HB2.out⟩
set_option maxHeartbeats 4000000 in
theorem implBordersOf_any (C : Int) (A : Option Addr) (ts : List T4) (n c : Nat) (A' : Option Addr) (xs : List (List Int)) (n' c' : Nat) (w : World) (hn : n = ts.length) (hA : RT w A ts) (hnc : n ≤ c) (hl : n ≤ 35184372088832) (hn' : n' = xs.length) (hA' : RR w A' xs) (hnc' : n' ≤ c') (hl' : n' ≤ 10000000 ∧ rowsz0 xs ≤ 10000000) :
    Calls Try.prog 16 #[.agg #[.int .i64 C, .slice A n c], .slice A' n' c'] w fun e w' => ∃ v ys code, bordR C ts xs = (ys, code) ∧ e = .returned (.tuple #[v, .int .i64 code]) ∧ OWS w' w.heap.size w'.heap.size v ys (fun i => icells (rowAt ys i)) ∧ Below w.heap.size w w' := by
  have HA := Lib.hid hA; have HN := Lib.hid hn; have HA' := Lib.hid hA'; have HM := Lib.hid hn'
  clear hA hn hA' hn'
  go_enter Try.func16, Try.ntmps16
  go_wp2_with fail
  have b1 : BK ((w.alloc (.cells #[.int .i64 C, .slice A n c] 32)).alloc (.cells #[.slice A' n' c'] 25)) w.heap.size #[.int .i64 C, .slice A n c] 32 := (BK.new _ _ _).below (below_alloc (Below.refl _ _) _) (BK.new _ _ _).lt
  have b2 : BK ((w.alloc (.cells #[.int .i64 C, .slice A n c] 32)).alloc (.cells #[.slice A' n' c'] 25)) (w.heap.size + 1) #[.slice A' n' c'] 25 := (show (w.alloc (.cells #[.int .i64 C, .slice A n c] 32)).heap.size = w.heap.size + 1 by simp) ▸ BK.new _ _ _
  have hb0 : Below w.heap.size w ((w.alloc (.cells #[.int .i64 C, .slice A n c] 32)).alloc (.cells #[.slice A' n' c'] 25)) := below_alloc (below_alloc (Below.refl _ _) _) _
  generalize ((w.alloc (.cells #[.int .i64 C, .slice A n c] 32)).alloc (.cells #[.slice A' n' c'] 25)) = W1 at b1 b2 hb0 ⊢
  have HB0 := Lib.hid hb0; clear hb0
  have z2 : W1.cell? ⟨w.heap.size + 1, 0, none⟩ = some (.slice A' n' c') := b2.cell rfl
  have z0 : W1.cell? ⟨w.heap.size, 0, none⟩ = some (.int .i64 C) := b1.cell rfl
  have z1 : W1.cell? ⟨w.heap.size, 1, none⟩ = some (.slice A n c) := b1.cell rfl
  refine (implCode_any C A ts n c w.heap.size (w.heap.size + 1) A' xs n' c' W1 HN.out (HA.out.below HB0.out) hnc hl HM.out (HA'.out.below HB0.out) hnc' hl' b1 b2).mono ?_
  rintro e w2 ⟨rfl, hB⟩
  replace z2 := cell_to hB z2
  replace b2 := b2.below hB b2.lt
  replace b1 := b1.below hB b1.lt
  have HB2 := Lib.hid (below_to HB0.out hB)
  clear z0 z1 hB HB0
  by_cases h0 : codeR C ts xs = 0
  · have HT := Lib.hid (codeR_tab h0)
    have HR := Lib.hid (show bordR C ts xs = if goodB (ts.map toS) xs = true then (bordL ts xs, 0) else ([], 5) from if_pos h0)
    rw [h0]
    clear h0
    have z0 : w2.cell? ⟨w.heap.size, 0, none⟩ = some (.int .i64 C) := b1.cell rfl
    have z1 : w2.cell? ⟨w.heap.size, 1, none⟩ = some (.slice A n c) := b1.cell rfl
    go_wp2_with fail
    refine (implGood_any C A ts n c A' xs n' c' w2 HN.out (HA.out.below HB2.out) hnc hl HM.out (HA'.out.below HB2.out) hnc' hl'.1 HT.out).mono ?_
    rintro e w3 ⟨rfl, hB⟩
    replace z2 := cell_to hB z2
    replace b2 := b2.below hB b2.lt
    replace b1 := b1.below hB b1.lt
    have HB3 := Lib.hid (below_to HB2.out hB)
    clear z0 z1 hB HB2
    cases hg : goodB (ts.map toS) xs
    · rw [hg] at HR
      have HR2 := HR; clear HR hg
      go_wp2_with fail
      go_ret2
      exact ⟨_, [], 5, HR2.out, rfl, ows_nil, HB3.out⟩
    · rw [hg] at HR
      have HR2 := HR; clear HR hg
      have z0 : w3.cell? ⟨w.heap.size, 0, none⟩ = some (.int .i64 C) := b1.cell rfl
      have z1 : w3.cell? ⟨w.heap.size, 1, none⟩ = some (.slice A n c) := b1.cell rfl
      go_wp2_with fail
      refine (implBorders_any C A ts n c A' xs n' c' w3 HN.out (HA.out.below HB3.out) hl HM.out (HA'.out.below HB3.out) HT.out).mono ?_
      rintro e w4 ⟨v, rfl, hW, hB⟩
      have HW := Lib.hid (hW.lower HB3.out.size); have HB4 := Lib.hid (below_to HB3.out hB)
      clear hW hB
      go_wp2_with fail
      go_ret2
      exact ⟨_, _, 0, HR2.out, rfl, HW.out, HB4.out⟩
  · have HR := Lib.hid (show bordR C ts xs = ([], codeR C ts xs) from if_neg h0)
    generalize codeR C ts xs = r at h0 HR ⊢
    have h0' : (r != 0) = true := by simpa using h0
    go_wp2_with fail
    go_ret2
    exact ⟨_, [], r, HR.out, rfl, ows_nil, HB2.out⟩
end Go.Proofs.Ytgdmflmglkakgaa

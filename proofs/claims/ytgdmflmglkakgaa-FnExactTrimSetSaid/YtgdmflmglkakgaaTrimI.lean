/-
  Contract: TrimSet in the program.
-/
import Derived.Test.YtgdmflmglkakgaaTrimF
import Derived.Test.YtgdmflmglkakgaaExtS
namespace Go.Proofs.Ytgdmflmglkakgaa
open Go Go.RowKit Go.Proofs Go.Proofs.YtgdmflmglkakgaaW.PrintWords Go.Proofs.YtgdmflmglkakgaaW.PrintLast Go.Proofs.YtgdmflmglkakgaaW.PrintMore
set_option linter.unusedVariables false
set_option linter.unusedSimpArgs false

theorem isy32 : (Try.prog.info? 32).map (·.size) = some 2 := by kernel_rfl
theorem CloneA_any (A : Option Addr) (ts : List T4) (n c : Nat) (w : World) (hn : n = ts.length) (hA : RT w A ts) (hl : n ≤ 1000000) :
    Calls Try.prog 49 #[.slice A n c] w fun e w' => ∃ A' c', e = .returned (.slice A' n c') ∧ OT w' w.heap.size 63 (.slice A' n c') ts ∧ Below w.heap.size w w' := by
  cases A with
  | none =>
    have h0 : ts.length = 0 := by
      rcases Nat.eq_zero_or_pos ts.length with h | h
      · exact h
      · obtain ⟨b, o, e, -⟩ := hA 0 h
        cases e
    obtain rfl : n = 0 := by omega
    obtain rfl := List.eq_nil_of_length_eq_zero h0
    exact (Q.CloneNil_any c w).mono fun e w' ⟨he, hb⟩ => ⟨none, 0, he, ⟨rfl, .inl ⟨rfl, rfl⟩⟩, hb⟩
  | some ad => exact (CloneT_any ad ts n c w hn hA hl).mono fun e w' ⟨g, c', he, hO, hb⟩ => ⟨_, _, he, hO, hb⟩
theorem nameS2 {P : Program} {c : Code} {Q : Exit → Act → World → Prop} {a : Act} {w : World} {x0 x1 u0 u1 : Value} {E : TypeId}
    (h : ∀ W, BK W w.heap.size #[u0, u1] E → Below w.heap.size w W → c.wp P Q a W) : c.wp P Q a (((w.alloc (.cells #[x0, x1] E)).setCell ⟨w.heap.size, 0, none⟩ u0).setCell ⟨w.heap.size, 1, none⟩ u1) :=
  h _ (((BK.new w #[x0, x1] E).set 0 u0).set 1 u1) ((((Below.refl _ _).alloc (Nat.le_refl _) _).setCell (Nat.le_refl _) _).setCell (Nat.le_refl _) _)
def tlen (w : World) (b : Nat) : Nat := match w.cell? ⟨b, 1, none⟩ with | some (.slice _ n _) => n | _ => 0
theorem tlen_of {w : World} {b n c : Nat} {x : Value} {A : Option Addr} {E : TypeId} (h : BK w b #[x, .slice A n c] E) : tlen w b = n := by
  have := h.cell (k := 1) (v := .slice A n c) rfl
  simp [tlen, this]
theorem trimI_none {m : Nat} {T : List T4} (h : T.findIdx? (fun t => !goodT T t) = none) : trimI m T = T := by
  cases m with
  | zero => rfl
  | succ m => unfold trimI; rw [h]
theorem trimI_some {m i : Nat} {T : List T4} (h : T.findIdx? (fun t => !goodT T t) = some i) : trimI (m + 1) T = trimI m (T.eraseIdx i) := by
  conv => lhs; unfold trimI
  rw [h]
theorem idxL_of_none {T : List T4} {p : T4 → Bool} (h : T.findIdx? p = none) : idxL p T = -1 := by simp [idxL, h]
theorem idxL_of_some {T : List T4} {p : T4 → Bool} {i : Nat} (h : T.findIdx? p = some i) : idxL p T = (i : Int) := by simp [idxL, h]
def trim_T3 : Bool × List (List Nat × List Nat) := (true, [([], []), ([0], [0]), ([], []), ([2], [2]), ([3], [3]), ([1, 4], [1, 4]), ([], []), ([6, 5, 4, 0, 1, 2, 3, 4, 5, 6], [5, 6])])
def trim_B3 : List Nat := [0, 1, 0, 4, 12, 31, 0, 127]
theorem trim_tab3 : rtab .any (opsOf Try.f24 3) = trim_T3 := by kernel_rfl
theorem trim_bits3 : waitsOk trim_T3.2 trim_B3 = true := by kernel_rfl
theorem ot_far {w : World} {base g j : Nat} {E : TypeId} {v u : Value} {T : List T4} (h : OT w base E v T) (hne : ¬ v.ownBlock = some g) : OT (w.setCell ⟨g, j, none⟩ u) base E v T := by
  refine ⟨h.1, ?_⟩
  rcases h.2 with h2 | ⟨b, cap, cur, hv, hb, hh, r⟩
  · exact .inl h2
  · exact .inr ⟨b, cap, cur, hv, hb, (Below.heap_setCell w ⟨g, j, none⟩ u b (fun e => hne (by rw [hv]; exact congrArg some e))).trans hh, r⟩
/-- a fresh set and a copy of the tiles, in either order -/
structure TrB (wd w' : World) (ts : List T4) (n b : Nat) (A3 : Option Addr) (c3 : Nat) : Prop where
  be : Below wd.heap.size wd w'
  lo : wd.heap.size ≤ b
  bk : BK w' b #[.int .i64 0, .slice none 0 0] 32
  ot : OT w' wd.heap.size 63 (.slice A3 n c3) ts
  ne : ∀ k, (Value.slice A3 n c3).ownBlock = some k → k ≠ b
theorem TrB.callFirst {wd w3 : World} {ts : List T4} {n c3 : Nat} {A3 : Option Addr} (hO : OT w3 wd.heap.size 63 (.slice A3 n c3) ts) (hB : Below wd.heap.size wd w3) : TrB wd (w3.alloc (.cells #[.int .i64 0, .slice none 0 0] 32)) ts n w3.heap.size A3 c3 :=
  ⟨below_alloc hB _, hB.size, BK.new _ _ _, hO.to (new_below w3 _), fun k hk => by have := (hO.lt k hk).2; omega⟩
theorem TrB.allocFirst {wd w3 : World} {ts : List T4} {n c3 : Nat} {A3 : Option Addr} (hO : OT w3 (wd.alloc (.cells #[.int .i64 0, .slice none 0 0] 32)).heap.size 63 (.slice A3 n c3) ts) (hB : Below (wd.alloc (.cells #[.int .i64 0, .slice none 0 0] 32)).heap.size (wd.alloc (.cells #[.int .i64 0, .slice none 0 0] 32)) w3) : TrB wd w3 ts n wd.heap.size A3 c3 := by
  have h1 : (wd.alloc (.cells #[.int .i64 0, .slice none 0 0] 32)).heap.size = wd.heap.size + 1 := by simp
  have hN : Below wd.heap.size wd (wd.alloc (.cells #[.int .i64 0, .slice none 0 0] 32)) := below_alloc (Below.refl _ _) _
  exact ⟨below_to hN hB, Nat.le_refl _, (BK.new wd _ _).below hB (by omega), own_base hO (by omega), fun k hk => by have := (hO.lt k hk).1; omega⟩
set_option maxHeartbeats 4000000 in
set_option maxRecDepth 100000 in
theorem implTrimSet_any (C : Int) (A : Option Addr) (ts : List T4) (n c : Nat) (w : World) (hn : n = ts.length) (hA : RT w A ts) (hnc : n ≤ c) (hl : n ≤ 35184372088832) :
    Calls Try.prog 24 #[.agg #[.int .i64 C, .slice A n c]] w fun e w' => ∃ v xc xs code, trimR C ts = ((xc, xs), code) ∧ e = .returned (.tuple #[.agg #[.int .i64 xc, v], .int .i64 code]) ∧ OW w' w.heap.size w'.heap.size 63 4 v xs.length (tcells xs) ∧ Below w.heap.size w w' := by
  have HA := Lib.hid hA; have HN := Lib.hid hn; clear hA hn
  cases hs : isS C ts with
  | false =>
    have HS := Lib.hid hs; clear hs
    go_enter Try.func24, Try.ntmps24
    go_wp2_with fail
    refine namec2 ?_
    intro W1 b1 b2 hz hb0
    refine (IsSet_any C A ts n c W1 HN.out (HA.out.below hb0) hl).mono ?_
    rintro e w1 ⟨rfl, hB1⟩
    rw [HS.out]
    have b3' := b2.below hB1 b2.lt
    have HB := Lib.hid (below_to hb0 hB1); clear hb0 hB1 hz b1 b2
    have z0 := b3'.cell (k := 0) (v := .int .i64 0) rfl; have z1 := b3'.cell (k := 1) (v := .slice none 0 0) rfl
    have f0 := b3'.frozen 0; have f1 := b3'.frozen 1; have l0 := b3'.lt
    go_wp2_with fail
    have hbk : BK ((w1.setCell ⟨w.heap.size + 1, 0, none⟩ (.int .i64 0)).setCell ⟨w.heap.size + 1, 1, none⟩ (.slice none 0 0)) (w.heap.size + 1) #[.int .i64 0, .slice none 0 0] 32 := (b3'.set 0 _).set 1 _
    ((try simp only [Exit.inBlock, Exit.then]); refine bodyPost_ret (results_ctm rfl _ _ _ _ _ _ rfl hbk Try.underlying32 rfl isy32) rfl ?_)
    have hK : Only (w.heap.size + 1) (w.heap.size + 1 + 1) w1 ((w1.setCell ⟨w.heap.size + 1, 0, none⟩ (.int .i64 0)).setCell ⟨w.heap.size + 1, 1, none⟩ (.slice none 0 0)) :=
      ((Only.refl _ _ _).setCell (Nat.le_refl _) (by omega) _ _).setCell (Nat.le_refl _) (by omega) _ _
    exact ⟨.slice none 0 0, 0, [], 1, by unfold trimR; rw [HS.out]; rfl, rfl, OW.nil _ _ _ _ _ (Nat.le_refl _), below_only HB.out hK (by omega)⟩
  | true =>
    have HS := Lib.hid hs
    have h16 := (isS_iff.1 hs).2.1
    have g16 : n ≤ 16 := by have := HN.out; omega
    clear hs h16
    go_enter Try.func24, Try.ntmps24
    go_wp2_with fail
    refine namec2 ?_
    intro W1 b1 b2 hz hb0
    refine (IsSet_any C A ts n c W1 HN.out (HA.out.below hb0) hl).mono ?_
    rintro e w1 ⟨rfl, hB1⟩
    rw [HS.out]
    have b1' := b1.below hB1 b1.lt; have b2' := b2.below hB1 b2.lt
    have HZ := Lib.hid (show w.heap.size + 2 ≤ w1.heap.size by have := hB1.size; omega)
    have HB := Lib.hid (below_to hb0 hB1); clear hb0 hB1 hz b1 b2
    go_upto_region 3 with fail
    have hD := (Below.refl w1.heap.size w1).drew
    have q1 := b1'.below hD b1'.lt; have q2 := b2'.below hD b2'.lt
    have hzd : w.heap.size + 2 ≤ w1.drew.heap.size := HZ.out
    have hbd := below_to HB.out hD
    refine start_ (n := 8) (S := fun w' => w'.cell? ⟨w.heap.size, 0, none⟩ = some (.int .i64 C) ∧ w'.cell? ⟨w.heap.size, 1, none⟩ = some (.slice A n c)) (ds := []) #[false, false, false, false, false, false, false, false] (by kernel_rfl) rfl rfl ⟨q1.cell rfl, q1.cell rfl⟩ (fun hHeld => ?_)
    refine with_tabW trim_tab3 trim_bits3 (fun HT_ HW_ => ?_)
    clear b1' b2' hD
    generalize w1.drew = wd at q1 q2 hzd hbd hHeld ⊢
    have HBD := Lib.hid hbd; have HZD := Lib.hid hzd
    clear hbd hzd
    refine pure_ (i := 0) (N := some 10) (v := ?_) (a' := ?_) #[true, false, false, false, false, false, false, false] rfl rfl (any_of HT_.out (by kernel_rfl)) (fun _ _ _ h => h) (Or.inl ⟨by rfl, ?_⟩) ?_ ?_
    rotate_left
    · intro w'
      go_simp
      with_reducible rfl
    rotate_left
    · simp only [Act.put, List.setIfInBounds_toArray, List.set_cons_zero, List.set_cons_succ, i64_w, i32_w]
      rfl
    refine pure_ (i := 2) (N := some 12) (v := ?_) (a' := ?_) #[true, false, true, false, false, false, false, false] rfl rfl (any_of HT_.out (by kernel_rfl)) (fun _ _ _ h => h) (Or.inl ⟨by rfl, ?_⟩) ?_ ?_
    rotate_left
    · intro w'
      go_simp
      with_reducible rfl
    rotate_left
    · simp only [Act.put, List.setIfInBounds_toArray, List.set_cons_zero, List.set_cons_succ, i64_w, i32_w]
      rfl
    refine take_ (i := 1) (N := some 11) (v := ?_) (a' := ?_) #[true, true, true, false, false, false, false, false] rfl rfl (take_ofW HT_.out HW_.out (by kernel_rfl)) (fun _ _ _ h => h) (Or.inl ⟨by rfl, ?_⟩) hHeld ?_ ?_
    rotate_left
    · rintro w' ⟨s0, s1⟩
      go_simp
      with_reducible rfl
    rotate_left
    · simp only [Act.put, List.setIfInBounds_toArray, List.set_cons_zero, List.set_cons_succ, i64_w, i32_w]
      rfl
    refine take_ (i := 3) (N := some 13) (v := ?_) (a' := ?_) #[true, true, true, true, false, false, false, false] rfl rfl (take_ofW HT_.out HW_.out (by kernel_rfl)) (fun _ _ _ h => h) (Or.inl ⟨by rfl, ?_⟩) hHeld ?_ ?_
    rotate_left
    · rintro w' ⟨s0, s1⟩
      go_simp
      with_reducible rfl
    rotate_left
    · simp only [Act.put, List.setIfInBounds_toArray, List.set_cons_zero, List.set_cons_succ, i64_w, i32_w]
      rfl
    refine join_ (σ := Nat × Option Addr × Nat) 1 #[true, true, true, true, true, true, true, false] (fun s_ => [(14, .slice s_.2.1 n s_.2.2), (15, .agg #[.int .i64 C, .slice s_.2.1 n s_.2.2]), (4, .pointer (some ⟨s_.1, 0, none⟩))]) (fun s_ w' => w'.cell? ⟨w.heap.size, 0, none⟩ = some (.int .i64 C) ∧ w'.cell? ⟨w.heap.size, 1, none⟩ = some (.slice A n c) ∧ TrB wd w' ts n s_.1 s_.2.1 s_.2.2) ?_ ?_
    rotate_left
    · intro hCont
      refine two_ (i := 4) (j := 6) (Ni := some 14) (Nj := some 4) #[true, true, true, true, true, false, false, false] #[true, true, true, true, false, false, true, false] rfl rfl rfl rfl (two_of HT_.out (by kernel_rfl)) (by decide) (by decide) (fun K hK => ?_) (fun K hK => ?_)
      · skip
        refine goes_ Try.func49 (by kernel_rfl) rfl #[.slice A n c] (by rfl) rfl rfl (by (try simp only [List.map_toArray, List.map_cons, List.map_nil]); first | done | rfl) ?_
        refine (CloneA_any A ts n c wd HN.out (HA.out.below (HBD.out)) (by omega)).mono ?_
        rintro e w3 ⟨A3, c3, rfl, hO3, hB3⟩
        refine ⟨_, rfl, ?_⟩
        have X := q1.below hB3 q1.lt
        have htb := TrB.callFirst hO3 hB3
        refine hK.out _ _ ⟨X.cell rfl, X.cell rfl⟩ (fun hHeld => ?_)
        clear hK K
        refine norm_ (a' := ?_) ?_ ?_
        rotate_left
        · show Act.put _ (some 14) _ = _
          simp only [Act.put, List.setIfInBounds_toArray, List.set_cons_zero, List.set_cons_succ, i64_w, i32_w]
          rfl
        refine pure_ (i := 5) (N := some 15) (v := ?_) (a' := ?_) #[true, true, true, true, true, true, false, false] rfl rfl (any_of HT_.out (by kernel_rfl)) (fun _ _ _ h => h) (Or.inl ⟨by rfl, ?_⟩) ?_ ?_
        rotate_left
        · intro w'
          go_simp
          with_reducible rfl
        rotate_left
        · simp only [Act.put, List.setIfInBounds_toArray, List.set_cons_zero, List.set_cons_succ, i64_w, i32_w]
          rfl
        refine one_ (i := 6) (N := some 4) #[true, true, true, true, true, true, true, false] rfl rfl (one_of HT_.out (by kernel_rfl)) (by decide) (fun K hK => ?_)
        refine value_ (w1 := ?_) (v := ?_) (by rfl) rfl ?_ ?_
        rotate_left 2
        · go_simp
          constructor
          · rfl
          · rfl
        refine hK.out _ _ ⟨(X.alloc _).cell rfl, (X.alloc _).cell rfl⟩ (fun hHeld => ?_)
        clear hK K
        refine norm_ (a' := ?_) ?_ ?_
        rotate_left
        · show Act.put _ (some 4) _ = _
          simp only [Act.put, List.setIfInBounds_toArray, List.set_cons_zero, List.set_cons_succ, i64_w, i32_w]
          rfl
        exact norm_ (by first | (simp only [putAll, Act.put, List.setIfInBounds_toArray, List.set_cons_zero, List.set_cons_succ]; done) | (simp only [putAll, Act.put, List.setIfInBounds_toArray, List.set_cons_zero, List.set_cons_succ]; rfl)) (hCont (w3.heap.size, A3, c3) _ ⟨hHeld.1, hHeld.2, htb⟩)
      · skip
        refine value_ (w1 := ?_) (v := ?_) (by rfl) rfl ?_ ?_
        rotate_left 2
        · go_simp
          constructor
          · rfl
          · rfl
        have hNB : Below wd.heap.size wd (wd.alloc (.cells #[.int .i64 0, .slice none 0 0] 32)) := below_alloc (Below.refl _ _) _
        refine hK.out _ _ ⟨(q1.alloc _).cell rfl, (q1.alloc _).cell rfl⟩ (fun hHeld => ?_)
        clear hK K
        refine norm_ (a' := ?_) ?_ ?_
        rotate_left
        · show Act.put _ (some 4) _ = _
          simp only [Act.put, List.setIfInBounds_toArray, List.set_cons_zero, List.set_cons_succ, i64_w, i32_w]
          rfl
        refine one_ (i := 4) (N := some 14) #[true, true, true, true, true, false, true, false] rfl rfl (one_of HT_.out (by kernel_rfl)) (by decide) (fun K hK => ?_)
        refine goes_ Try.func49 (by kernel_rfl) rfl #[.slice A n c] (by rfl) rfl rfl (by (try simp only [List.map_toArray, List.map_cons, List.map_nil]); first | done | rfl) ?_
        refine (CloneA_any A ts n c (wd.alloc (.cells #[.int .i64 0, .slice none 0 0] 32)) HN.out (HA.out.below (below_to HBD.out hNB)) (by omega)).mono ?_
        rintro e w3 ⟨A3, c3, rfl, hO3, hB3⟩
        refine ⟨_, rfl, ?_⟩
        have X := (q1.alloc (.cells #[.int .i64 0, .slice none 0 0] 32)).below hB3 (q1.alloc _).lt
        have htb := TrB.allocFirst hO3 hB3
        refine hK.out _ _ ⟨X.cell rfl, X.cell rfl⟩ (fun hHeld => ?_)
        clear hK K
        refine norm_ (a' := ?_) ?_ ?_
        rotate_left
        · show Act.put _ (some 14) _ = _
          simp only [Act.put, List.setIfInBounds_toArray, List.set_cons_zero, List.set_cons_succ, i64_w, i32_w]
          rfl
        refine pure_ (i := 5) (N := some 15) (v := ?_) (a' := ?_) #[true, true, true, true, true, true, true, false] rfl rfl (any_of HT_.out (by kernel_rfl)) (fun _ _ _ h => h) (Or.inl ⟨by rfl, ?_⟩) ?_ ?_
        rotate_left
        · intro w'
          go_simp
          with_reducible rfl
        rotate_left
        · simp only [Act.put, List.setIfInBounds_toArray, List.set_cons_zero, List.set_cons_succ, i64_w, i32_w]
          rfl
        exact norm_ (by first | (simp only [putAll, Act.put, List.setIfInBounds_toArray, List.set_cons_zero, List.set_cons_succ]; done) | (simp only [putAll, Act.put, List.setIfInBounds_toArray, List.set_cons_zero, List.set_cons_succ]; rfl)) (hCont (wd.heap.size, A3, c3) _ ⟨hHeld.1, hHeld.2, htb⟩)
    rintro ⟨B4, A3, c3⟩ w4 ⟨h0_, h1_, hTB⟩
    have hHeld : w4.cell? ⟨w.heap.size, 0, none⟩ = some (.int .i64 C) ∧ w4.cell? ⟨w.heap.size, 1, none⟩ = some (.slice A n c) := ⟨h0_, h1_⟩
    refine norm_ (a' := ?_) ?_ ?_
    rotate_left
    · simp only [putAll, Act.put, List.setIfInBounds_toArray, List.set_cons_zero, List.set_cons_succ]
      rfl
    refine one_ (i := 7) (N := none) #[true, true, true, true, true, true, true, true] rfl rfl (one_of HT_.out (by kernel_rfl)) (by decide) (fun K hK => ?_)
    have bS := hTB.bk
    have y0 : w4.cell? ⟨B4, 0, none⟩ = some (.int .i64 0) := bS.cell rfl
    have y1 : w4.cell? ⟨B4, 1, none⟩ = some (.slice none 0 0) := bS.cell rfl
    have f0 := bS.frozen 0; have f1 := bS.frozen 1
    refine skip_ (w1 := ?_) (by rfl) rfl ?_ ?_
    rotate_left
    · go_simp
      rfl
    have hlo : wd.heap.size ≤ B4 := hTB.lo
    have p1 : BK ((w4.setCell ⟨B4, 0, none⟩ (.int .i64 C)).setCell ⟨B4, 1, none⟩ (.slice A3 n c3)) w.heap.size #[.int .i64 C, .slice A n c] 32 := ((q1.below hTB.be q1.lt).set_ne (by have := HZD.out; omega) 0 _).set_ne (by have := HZD.out; omega) 1 _
    have p2 : BK ((w4.setCell ⟨B4, 0, none⟩ (.int .i64 C)).setCell ⟨B4, 1, none⟩ (.slice A3 n c3)) (w.heap.size + 1) #[.int .i64 0, .slice none 0 0] 32 := ((q2.below hTB.be q2.lt).set_ne (by have := HZD.out; omega) 0 _).set_ne (by have := HZD.out; omega) 1 _
    have p4 : BK ((w4.setCell ⟨B4, 0, none⟩ (.int .i64 C)).setCell ⟨B4, 1, none⟩ (.slice A3 n c3)) B4 #[.int .i64 C, .slice A3 n c3] 32 := (bS.set 0 _).set 1 _
    have p5 : Below w.heap.size w ((w4.setCell ⟨B4, 0, none⟩ (.int .i64 C)).setCell ⟨B4, 1, none⟩ (.slice A3 n c3)) := below_to HBD.out ((hTB.be.setCell hlo _).setCell hlo _)
    have p6 : OT ((w4.setCell ⟨B4, 0, none⟩ (.int .i64 C)).setCell ⟨B4, 1, none⟩ (.slice A3 n c3)) (w.heap.size + 2) 63 (.slice A3 n c3) ts := ot_far (ot_far (own_base hTB.ot HZD.out) (fun e_ => hTB.ne _ e_ rfl)) (fun e_ => hTB.ne _ e_ rfl)
    refine hK.out _ _ ⟨p1.cell rfl, p1.cell rfl⟩ (fun hHeld => ?_)
    clear hK K
    refine done_ (done_of HT_.out (by kernel_rfl)) ?_

    have hne4 := hTB.ne
    generalize (w4.setCell ⟨B4, 0, none⟩ (.int .i64 C)).setCell ⟨B4, 1, none⟩ (.slice A3 n c3) = w5 at p2 p4 p5 p6 ⊢
    have HP2 := Lib.hid p2; have HP4 := Lib.hid p4; have HP5 := Lib.hid p5; have HP6 := Lib.hid p6; have HNE := Lib.hid hne4
    have HLO := Lib.hid (show w.heap.size + 2 ≤ B4 by have := HZD.out; omega)
    clear p1 p2 p4 p5 p6 hne4 hHeld hTB q1 q2 bS y0 y1 f0 f1 hlo h0_ h1_ HT_ HW_
    go_wp2_with fail
    go_loopw [5] (fun _ wr => ∃ (T : List T4) (m nv : Nat) (Av : Option Addr) (cv : Nat), nv = T.length ∧ T.length ≤ m ∧ T.length ≤ 16 ∧ trimI m T = trimI ts.length ts ∧ Below w.heap.size w wr ∧ BK wr (w.heap.size + 1) #[.int .i64 0, .slice none 0 0] 32 ∧ BK wr B4 #[.int .i64 C, .slice Av nv cv] 32 ∧ OT wr (w.heap.size + 2) 63 (.slice Av nv cv) T ∧ (∀ k, (Value.slice Av nv cv).ownBlock = some k → k ≠ B4)) (fun _ wr => tlen wr B4)
    case atStart => exact ⟨ts, ts.length, n, A3, c3, HN.out, Nat.le_refl _, by rw [← HN.out]; exact g16, rfl, HP5.out, HP2.out, HP4.out, HP6.out, HNE.out⟩
    case round =>
      obtain ⟨T, m, nv, Av, cv, hnv, hm, h16, htr, hB, hb2, hb4, hot, hne⟩ := hrel
      obtain ⟨A_, c_, e_, hrt, hcv⟩ := hot.reads
      injection e_ with e1_ e2_ e3_
      subst e1_; subst e3_; clear e2_
      have a0 : wr.cell? ⟨B4, 0, none⟩ = some (.int .i64 C) := hb4.cell rfl
      have a1 : wr.cell? ⟨B4, 1, none⟩ = some (.slice Av nv cv) := hb4.cell rfl
      have l4 := hb4.lt
      have HNV := Lib.hid hnv; have HM := Lib.hid hm; have H16 := Lib.hid h16; have HTR := Lib.hid htr; have HBR := Lib.hid hB; have HB2 := Lib.hid hb2; have HB4 := Lib.hid hb4; have HOT := Lib.hid hot; have HNEV := Lib.hid hne; have HRT := Lib.hid hrt; have HCV := Lib.hid hcv
      clear hnv hm h16 htr hB hb2 hb4 hot hne hrt hcv
      go_wp2_with fail
      refine (IndexFuncT_any Av T nv cv 51 #[.pointer (some ⟨B4, 0, none⟩)] (fun t => !goodT T t) wr HNV.out HRT.out (by have := H16.out; have := HNV.out; omega) (enters_of Try.func51 (by kernel_rfl) rfl)
        (fun W t hW => trim1_any C Av T nv cv B4 t W HNV.out (HRT.out.below hW) (by have := HNV.out; have := HCV.out; omega) (by have := H16.out; have := HNV.out; omega) (HB4.out.below hW HB4.out.lt))).mono ?_
      rintro e w6 ⟨rfl, hb6⟩
      have x2 := HB2.out.below hb6 HB2.out.lt; have x4 := HB4.out.below hb6 HB4.out.lt
      have HOT6 := Lib.hid (HOT.out.to hb6)
      have HB6 := Lib.hid (below_to HBR.out hb6)
      clear hb6 a0 a1 l4
      have a0 : w6.cell? ⟨B4, 0, none⟩ = some (.int .i64 C) := x4.cell rfl
      have a1 : w6.cell? ⟨B4, 1, none⟩ = some (.slice Av nv cv) := x4.cell rfl
      have l4 := x4.lt
      cases hf : T.findIdx? (fun t => !goodT T t) with
      | none =>
        rw [idxL_of_none hf]
        have HF := Lib.hid hf
        clear hf
        have z0 := x2.cell (k := 0) (v := .int .i64 0) rfl; have z1 := x2.cell (k := 1) (v := .slice none 0 0) rfl
        have f0 := x2.frozen 0; have f1 := x2.frozen 1; have l0 := x2.lt
        go_wp2_with fail
        have hbk : BK ((w6.setCell ⟨w.heap.size + 1, 0, none⟩ (.int .i64 C)).setCell ⟨w.heap.size + 1, 1, none⟩ (.slice Av nv cv)) (w.heap.size + 1) #[.int .i64 C, .slice Av nv cv] 32 := (x2.set 0 _).set 1 _
        ((try simp only [Exit.inBlock, Exit.then]); refine bodyPost_ret (results_ctm rfl _ _ _ _ _ _ rfl hbk Try.underlying32 rfl isy32) rfl ?_)
        have hK : Only (w.heap.size + 1) (w.heap.size + 1 + 1) w6 ((w6.setCell ⟨w.heap.size + 1, 0, none⟩ (.int .i64 C)).setCell ⟨w.heap.size + 1, 1, none⟩ (.slice Av nv cv)) :=
          ((Only.refl _ _ _).setCell (Nat.le_refl _) (by omega) _ _).setCell (Nat.le_refl _) (by omega) _ _
        have hO2 := (OW.of HOT6.out).only hK (.inr (by omega))
        refine ⟨_, _, T, 0, ?_, rfl, ⟨own_base hO2.own (by omega), fun b hb => Nat.lt_of_lt_of_le (hO2.up b hb) hK.size, Nat.le_refl _⟩, below_only HB6.out hK (by omega)⟩
        unfold trimR
        rw [HS.out, if_pos rfl, ← HTR.out, trimI_none HF.out]
      | some i =>
        rw [idxL_of_some hf]
        obtain ⟨hi, -, -⟩ := List.findIdx?_eq_some_iff_getElem.1 hf
        obtain ⟨N, hN⟩ : ∃ N, nv = N + 1 := ⟨nv - 1, by have := HNV.out; omega⟩
        subst hN
        obtain ⟨g, eg⟩ : ∃ g, Av = some ⟨g, 0, none⟩ := by
          rcases HOT6.out.2 with ⟨hv, -⟩ | ⟨g, cap, cur, hv, -⟩
          · injection hv with e1 e2 e3
            exact absurd e2 (Nat.succ_ne_zero N)
          · injection hv with e1 e2 e3
            exact ⟨g, e1⟩
        subst eg
        have HF := Lib.hid hf; have HI := Lib.hid hi
        clear hf hi
        have s1 : IntKind.i64.wrap ((i : Int) + 1) = (i : Int) + 1 := IntWalk.i64_in _ (by have := HI.out; have := H16.out; omega)
        have s2 : ¬ (i : Int) < 0 := by omega
        have hgB : g ≠ B4 := HNEV.out g rfl
        go_wp2_with fail
        refine (DeleteT_any g N cv i (w.heap.size + 2) T w6 HNV.out HOT6.out (by have := HI.out; have := HNV.out; omega) (by have := H16.out; have := HNV.out; omega)).mono ?_
        rintro e w7 ⟨rfl, hO7, hK7⟩
        have hg2 : w.heap.size + 2 ≤ g := own_lo HOT6.out g rfl
        have y2 := x2.only hK7 (by omega)
        have y4 := x4.only hK7 (by omega)
        have HB7 := Lib.hid (below_only HB6.out hK7 (by omega))
        have HO7 := Lib.hid hO7
        have u0 := y4.cell (k := 1) (v := .slice (some ⟨g, 0, none⟩) (N + 1) cv) rfl
        have u1 := y4.frozen 1; have u2 := y4.lt
        clear hO7 a0 a1 l4
        go_wp2_with fail
        have v4 : BK (w7.setCell ⟨B4, 1, none⟩ (.slice (some ⟨g, 0, none⟩) N cv)) B4 #[.int .i64 C, .slice (some ⟨g, 0, none⟩) N cv] 32 := y4.set 1 _
        have hlE : (T.eraseIdx i).length = N := by rw [List.length_eraseIdx_of_lt HI.out]; have := HNV.out; omega
        go_roundw
        case rel =>
          obtain ⟨m2, hm2⟩ : ∃ m2, m = m2 + 1 := ⟨m - 1, by have := HM.out; have := HNV.out; omega⟩
          refine ⟨T.eraseIdx i, m2, N, some ⟨g, 0, none⟩, cv, hlE.symm, by have := HM.out; have := HNV.out; omega, by have := H16.out; have := HNV.out; omega, ?_, HB7.out.setCell (by show w.heap.size ≤ B4; have := HLO.out; omega) _, y2.set_ne (by have := HLO.out; omega) 1 _, v4, ot_far HO7.out (fun e_ => hgB (Option.some.inj e_)), fun k_ hk_ => by
            have e2 : g = k_ := Option.some.inj hk_
            subst e2; exact hgB⟩
          rw [← HTR.out, hm2, trimI_some HF.out]
        case measure => rw [tlen_of v4, tlen_of HB4.out]; omega
end Go.Proofs.Ytgdmflmglkakgaa

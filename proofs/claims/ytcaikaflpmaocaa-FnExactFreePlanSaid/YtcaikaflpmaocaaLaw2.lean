/-
  The laws' functions on rows of rows of numbers: what is marked and what is held.
-/
import Derived.Test.YtcaikaflpmaocaaLaw1
import Derived.Test.YtcaikaflpmaocaaBridge
namespace Go.Proofs.Ytcaikaflpmaocaa
open Go Go.RowKit Go.Proofs Go.Proofs.YtcaikaflpmaocaaW.PrintWords Go.Proofs.Ytcaikaflpmaocaa.Q
set_option linter.unusedVariables false
set_option linter.unusedSimpArgs false
theorem OW.narrow {w : World} {lo hi : Nat} {E : TypeId} {size n : Nat} {v : Value} {cells : List Value} (h : OW w lo hi E size v n cells) :
    ∃ l u, OW w l u E size v n cells ∧ ∀ b, l ≤ b → b < u → v.ownBlock = some b := by
  obtain ⟨h1, h2⟩ := h.own
  rcases h2 with h2 | ⟨g, cap, cur, hv, hg, hh, r⟩
  · refine ⟨0, 0, ⟨⟨h1, .inl h2⟩, fun b hb => ?_, Nat.zero_le _⟩, fun b _ hb => absurd hb (Nat.not_lt_zero _)⟩
    rw [h2.1] at hb
    simp [Value.ownBlock] at hb
  · have hb : v.ownBlock = some g := by rw [hv]; rfl
    have hl := h.up g hb
    refine ⟨g, g + 1, ⟨⟨h1, .inr ⟨g, cap, cur, hv, Nat.le_refl _, hh, r⟩⟩, fun b hb2 => ?_, Nat.lt_of_lt_of_le hl h.top⟩, fun b h3 h4 => ?_⟩
    · have : g = b := Option.some.inj (hb.symm.trans hb2)
      omega
    · rw [hb, show b = g by omega]
theorem OW.apart {w w' : World} {lo hi lo' hi' : Nat} {E : TypeId} {size n : Nat} {v : Value} {cells : List Value} (h : OW w lo hi E size v n cells) (k : Only lo' hi' w w')
    (hd : ∀ b, lo' ≤ b → b < hi' → v.ownBlock ≠ some b) : OW w' lo hi E size v n cells := by
  refine ⟨?_, h.up, Nat.le_trans h.top k.size⟩
  obtain ⟨h1, h2⟩ := h.own
  refine ⟨h1, ?_⟩
  rcases h2 with h2 | ⟨g, cap, cur, hv, hg, hh, r⟩
  · exact .inl h2
  · refine .inr ⟨g, cap, cur, hv, hg, ?_, r⟩
    have hb : v.ownBlock = some g := by rw [hv]; rfl
    have hu := h.up g hb
    exact (k.block g (Nat.lt_of_lt_of_le hu h.top) (by
      by_cases h1 : lo' ≤ g
      · by_cases h2 : g < hi'
        · exact absurd hb (hd g h1 h2)
        · exact .inr (by omega)
      · exact .inl (by omega))).trans hh
def tot (m : Nat → Nat) : Nat → Nat
  | 0 => 0
  | n + 1 => tot m n + m n
theorem tot_le (m : Nat → Nat) {i n : Nat} (h : i ≤ n) : tot m i ≤ tot m n := by
  induction n with
  | zero => rw [Nat.le_zero.1 h]; exact Nat.le_refl _
  | succ n ih =>
    rcases Nat.lt_or_ge i (n + 1) with h1 | h1
    · exact Nat.le_trans (ih (by omega)) (Nat.le_add_right _ _)
    · rw [show i = n + 1 by omega]; exact Nat.le_refl _
structure RowsW (w : World) (lo hi g n : Nat) (v : Nat → Value) (m : Nat → Nat) (cs : Nat → List Value) : Prop where
  hdr : ∀ i, i < n → w.cell? ⟨g, i, none⟩ = some (v i)
  row : ∀ i, i < n → OW w lo hi 2 1 (v i) (m i) (cs i)
  apart : ∀ i j, i < n → j < n → i ≠ j → ∀ b, (v i).ownBlock = some b → (v j).ownBlock ≠ some b
  out : ∀ i, i < n → (v i).ownBlock ≠ some g
theorem RowsW.below {w w' : World} {lo hi g n : Nat} {v : Nat → Value} {m : Nat → Nat} {cs : Nat → List Value} (h : RowsW w lo hi g n v m cs) (k : Below w.heap.size w w') : RowsW w' lo hi g n v m cs :=
  ⟨fun i hi => k.cell (World.block_lt_of_cell? w _ (h.hdr i hi)) |>.trans (h.hdr i hi), fun i hi => (h.row i hi).to k, h.apart, h.out⟩
theorem RowsW.set {w w' : World} {lo hi g n : Nat} {v : Nat → Value} {m : Nat → Nat} {cs : Nat → List Value} (h : RowsW w lo hi g n v m cs) {i : Nat} (hi' : i < n) {l u : Nat} (k : Only l u w w')
    (hk : ∀ b, l ≤ b → b < u → (v i).ownBlock = some b) {c : List Value} (hr : OW w' lo hi 2 1 (v i) (m i) c) : RowsW w' lo hi g n v m (fun j => if j = i then c else cs j) := by
  refine ⟨fun j hj => ?_, fun j hj => ?_, h.apart, h.out⟩
  · refine cell_only k ?_ (h.hdr j hj)
    by_cases h1 : l ≤ g
    · by_cases h2 : g < u
      · exact absurd (hk g h1 h2) (h.out i hi')
      · exact .inr (by omega)
    · exact .inl (by omega)
  · by_cases e : j = i
    · subst e; simpa using hr
    · simp only [if_neg e]
      exact (h.row j hj).apart k fun b h1 h2 => h.apart i j hi' hj (fun e2 => e e2.symm) b (hk b h1 h2)
theorem Only.into {lo hi l u : Nat} {w w' : World} (h : Only l u w w') (k : ∀ b, l ≤ b → b < u → lo ≤ b ∧ b < hi) : Only lo hi w w' :=
  ⟨h.os, h.tape, h.output, h.size, fun i hi' hd => h.block i hi' (by
    by_cases h1 : l ≤ i
    · by_cases h2 : i < u
      · have := k i h1 h2
        omega
      · exact .inr (by omega)
    · exact .inl (by omega))⟩
theorem OW.inside {w : World} {lo hi : Nat} {E : TypeId} {size n : Nat} {v : Value} {cells : List Value} (h : OW w lo hi E size v n cells) {b : Nat} (hb : v.ownBlock = some b) : lo ≤ b ∧ b < hi :=
  ⟨(h.own.lt b hb).1, h.up b hb⟩
theorem OW.into {w : World} {lo hi l u : Nat} {E : TypeId} {size n : Nat} {v : Value} {cells : List Value} (h : OW w l u E size v n cells) (k : ∀ b, v.ownBlock = some b → lo ≤ b ∧ b < hi) (ht : hi ≤ w.heap.size) : OW w lo hi E size v n cells := by
  refine ⟨?_, fun b hb => (k b hb).2, ht⟩
  obtain ⟨h1, h2⟩ := h.own
  refine ⟨h1, ?_⟩
  rcases h2 with h2 | ⟨g, cap, cur, hv, hg, r⟩
  · exact .inl h2
  · exact .inr ⟨g, cap, cur, hv, (k g (by rw [hv]; rfl)).1, r⟩
theorem RowsW.congr {w : World} {lo hi g n : Nat} {v : Nat → Value} {m : Nat → Nat} {cs cs' : Nat → List Value} (h : RowsW w lo hi g n v m cs) (e : ∀ i, i < n → cs i = cs' i) : RowsW w lo hi g n v m cs' :=
  ⟨h.hdr, fun i hi => by rw [← e i hi]; exact h.row i hi, h.apart, h.out⟩
def mkRows (k : Int) (m : Nat → Nat) (cs : Nat → List Value) (d : Nat) : Nat → List Value := fun j => if j < d then icells (mkI (k + (tot m j : Int)) (m j * 1)) else cs j
set_option maxHeartbeats 1000000 in
theorem markInt64SS_any (lo hi g n c : Nat) (A : Option Addr) (v : Nat → Value) (m : Nat → Nat) (cs : Nat → List Value) (k : Int) (w : World) (hA : 0 < n → A = some ⟨g, 0, none⟩) (h : RowsW w lo hi g n v m cs) (hk : 0 ≤ k) (hk2 : k + (tot m n : Int) ≤ 1000000000000) (hl : n ≤ 35184372088832) :
    Calls Try.prog 13 #[.slice A n c, .int .i64 k] w fun e w' => e = .returned (.int .i64 (k + (tot m n : Int))) ∧ RowsW w' lo hi g n v m (mkRows k m cs n) ∧ Only lo hi w w' := by
  have HR := Lib.hid h; clear h
  go_enter Try.func13, Try.ntmps13
  go_wp2
  go_loopw [1, 5] (fun kk i wr => Only lo hi w wr ∧ ∃ d : Nat, d ≤ n ∧ i = .int .i64 d ∧ kk = .int .i64 (k + (tot m d : Int)) ∧ RowsW wr lo hi g n v m (mkRows k m cs d)) (fun _ i _ => n - (intOf i).toNat)
  case atStart => exact ⟨Only.refl _ _ _, 0, Nat.zero_le _, rfl, by simp [tot], HR.out.congr fun j _ => by simp [mkRows]⟩
  case round =>
    obtain ⟨hB, d, hd, rfl, rfl, hrows⟩ := hrel
    have HB := Lib.hid hB; have HW := Lib.hid hrows; clear hB hrows
    by_cases hlt : d < n
    · have hA2 := hA (by omega)
      subst hA2
      obtain ⟨l, u, hO, hn⟩ := (HW.out.row d hlt).narrow
      have HO := Lib.hid hO; have HN := Lib.hid hn; clear hO hn
      have c0 := HW.out.hdr d hlt
      have ht := tot_le m (show d + 1 ≤ n from hlt)
      have HT := Lib.hid (show 0 ≤ k + (tot m d : Int) ∧ k + (tot m d : Int) ≤ 1000000000000 ∧ m d ≤ 35184372088832 by simp only [tot] at ht; omega)
      clear ht
      go_wp2_with (first | (go_at_call 41; refine (markInt64S_any l u (v d) (m d) _ _ _ HO.out HT.out.1 HT.out.2.1 HT.out.2.2).mono ?_; rintro e w2 ⟨rfl, hO2, hK2⟩; have HO2 := Lib.hid hO2; have HK2 := Lib.hid hK2; clear hO2 hK2))
      go_roundw
      case rel => exact ⟨HB.out.trans (HK2.out.into fun b h1 h2 => (HW.out.row d hlt).inside (HN.out b h1 h2)), d + 1, by omega, by go_num, by rw [show k + (tot m d : Int) + (m d : Int) = k + (tot m (d + 1) : Int) by simp only [tot]; omega], (HW.out.set hlt HK2.out HN.out (HO2.out.into (fun b hb => (HW.out.row d hlt).inside hb) (Nat.le_trans (HW.out.row d hlt).top HK2.out.size))).congr fun j _ => by
          unfold mkRows
          by_cases e : j = d
          · subst e; simp
          · by_cases e2 : j < d
            · simp [e, e2, show j < d + 1 by omega]
            · simp [e, e2, show ¬ j < d + 1 by omega]⟩
      case measure => simp [intOf]; omega
    · have hdn : d = n := by omega
      subst hdn
      go_wp2
      go_ret
      exact ⟨rfl, HW.out, HB.out⟩
set_option maxHeartbeats 1000000 in
theorem heldInt64SS_any (lo hi g n c : Nat) (A : Option Addr) (v : Nat → Value) (m : Nat → Nat) (cs : Nat → List Value) (k : Int) (w : World) (hA : 0 < n → A = some ⟨g, 0, none⟩) (h : RowsW w lo hi g n v m (mkRows k m cs n)) (hk : 0 ≤ k) (hk2 : k + (tot m n : Int) ≤ 1000000000000) (hl : n ≤ 35184372088832) :
    Calls Try.prog 14 #[.slice A n c, .int .i64 k] w fun e w' => e = .returned (.int .i64 (k + (tot m n : Int))) ∧ Below w.heap.size w w' := by
  have HR := Lib.hid h; clear h
  go_enter Try.func14, Try.ntmps14
  go_wp2
  go_loopw [1, 5] (fun kk i wr => Below w.heap.size w wr ∧ ∃ d : Nat, d ≤ n ∧ i = .int .i64 d ∧ kk = .int .i64 (k + (tot m d : Int))) (fun _ i _ => n - (intOf i).toNat)
  case atStart => exact ⟨Below.refl _ _, 0, Nat.zero_le _, rfl, by simp [tot]⟩
  case round =>
    obtain ⟨hB, d, hd, rfl, rfl⟩ := hrel
    have HB := Lib.hid hB; clear hB
    by_cases hlt : d < n
    · have hA2 := hA (by omega)
      subst hA2
      have HW := Lib.hid (HR.out.below HB.out)
      have HO := Lib.hid (show OW wr lo hi 2 1 (v d) (m d) (icells (mkI (k + (tot m d : Int)) (m d * 1))) by have := HW.out.row d hlt; unfold mkRows at this; rw [if_pos hlt] at this; exact this)
      have c0 := HW.out.hdr d hlt
      have ht := tot_le m (show d + 1 ≤ n from hlt)
      have HT := Lib.hid (show 0 ≤ k + (tot m d : Int) ∧ k + (tot m d : Int) ≤ 1000000000000 ∧ m d ≤ 35184372088832 by simp only [tot] at ht; omega)
      have n0 : ¬ k + (tot m d : Int) + (m d : Int) < 0 := by omega
      clear ht
      go_wp2_with (first | (go_at_call 42; refine (heldInt64S_any lo hi (v d) (m d) _ _ HO.out HT.out.1 HT.out.2.1 HT.out.2.2).mono ?_; rintro e w2 ⟨rfl, hK2⟩; have HK2 := Lib.hid hK2; clear hK2))
      go_roundw
      case rel => exact ⟨HB.out.trans (HK2.out.mono HB.out.size), d + 1, by omega, by go_num, by rw [show k + (tot m d : Int) + (m d : Int) = k + (tot m (d + 1) : Int) by simp only [tot]; omega]⟩
      case measure => simp [intOf]; omega
    · have hdn : d = n := by omega
      subst hdn
      go_wp2
      go_ret
      exact ⟨rfl, HB.out⟩
def rowAt (xs : List (List Int)) (i : Nat) : List Int := xs.getD i []
def rowLen (xs : List (List Int)) (i : Nat) : Nat := (rowAt xs i).length
structure OWS (w : World) (lo hi : Nat) (v : Value) (xs : List (List Int)) (cs : Nat → List Value) : Prop where
  ex : ∃ A c g hv, v = .slice A xs.length c ∧ (xs.length ≤ c ∧ c ≤ 9223372036854775807) ∧ (0 < xs.length → A = some ⟨g, 0, none⟩ ∧ lo ≤ g ∧ g < hi) ∧ RowsW w lo hi g xs.length hv (rowLen xs) cs
  top : hi ≤ w.heap.size
theorem OWS.form0 {w : World} {lo hi : Nat} {v : Value} {xs : List (List Int)} {cs : Nat → List Value} (h : OWS w lo hi v xs cs) : ∃ A c, v = .slice A xs.length c := by
  obtain ⟨A, c, g, hv, rfl, -⟩ := h.ex
  exact ⟨A, c, rfl⟩
theorem OWS.only {w w' : World} {lo hi lo' hi' : Nat} {v : Value} {xs : List (List Int)} {cs : Nat → List Value} (h : OWS w lo hi v xs cs) (k : Only lo' hi' w w') (hd : hi ≤ lo' ∨ hi' ≤ lo) : OWS w' lo hi v xs cs := by
  obtain ⟨A, c, g, hv, rfl, hc, hA, hr⟩ := h.ex
  exact ⟨⟨A, c, g, hv, rfl, hc, hA, ⟨fun i hi' => cell_only k (by have := hA (by omega); omega) (hr.hdr i hi'), fun i hi' => (hr.row i hi').only k hd, hr.apart, hr.out⟩⟩, Nat.le_trans h.top k.size⟩
theorem OWS.to {w w' : World} {lo hi : Nat} {v : Value} {xs : List (List Int)} {cs : Nat → List Value} (h : OWS w lo hi v xs cs) (k : Below w.heap.size w w') : OWS w' lo hi v xs cs :=
  h.only (only_of k w.heap.size w.heap.size) (.inl h.top)
def RR (w : World) (A : Option Addr) (xs : List (List Int)) : Prop :=
  ∀ k, k < xs.length → ∃ b o A' c', A = some ⟨b, o, none⟩ ∧ b < w.heap.size ∧ w.cell? ⟨b, o + k, none⟩ = some (.slice A' (rowLen xs k) c') ∧ RI w A' (rowAt xs k) ∧ rowLen xs k ≤ c' ∧ rowLen xs k ≤ 9223372036854775807
theorem RR.below {w w' : World} {A : Option Addr} {xs : List (List Int)} (h : RR w A xs) (hb : Below w.heap.size w w') : RR w' A xs := by
  intro k hk
  obtain ⟨b, o, A', c', e, hlt, hc, hr, h1, h2⟩ := h k hk
  exact ⟨b, o, A', c', e, Nat.lt_of_lt_of_le hlt hb.size, (hb.cell (World.block_lt_of_cell? w _ hc)).trans hc, hr.below hb, h1, h2⟩
theorem rowAt_get {xs : List (List Int)} {j : Nat} {p : List Int} (h : xs[j]? = some p) : rowAt xs j = p := by simp [rowAt, List.getD, h]
theorem rowAt_at {xs : List (List Int)} {j : Nat} (h : j < xs.length) : rowAt xs j = xs[j] := rowAt_get (List.getElem?_eq_getElem h)
theorem rowLen_at {xs : List (List Int)} {j : Nat} {p : List Int} (h : xs[j]? = some p) : rowLen xs j = p.length := by rw [rowLen, rowAt_get h]
theorem OW.len {w : World} {lo hi : Nat} {E : TypeId} {size n : Nat} {v : Value} {cells : List Value} (h : OW w lo hi E size v n cells) : n ≤ 9223372036854775807 := by
  obtain ⟨A, c, -, h⟩ := h.form
  rcases h with ⟨-, rfl, -⟩ | ⟨g, cur, -, -, -, -, h1, h2, -⟩ <;> omega
theorem rr_of {w : World} {lo hi : Nat} {A : Option Addr} {n c : Nat} {xs : List (List Int)} (h : OWS w lo hi (.slice A n c) xs (fun i => icells (rowAt xs i))) (hn : n = xs.length) : RR w A xs := by
  obtain ⟨A', c', g, hv, e, -, hA, hr⟩ := h.ex
  injection e with e1 e2 e3
  subst e1
  intro k hk
  obtain ⟨A2, c2, e2, hri, hle⟩ := (hr.row k hk).readsI
  have hc := hr.hdr k hk
  rw [e2] at hc
  refine ⟨g, 0, A2, c2, (hA (by omega)).1, World.block_lt_of_cell? w _ hc, by rw [Nat.zero_add]; exact hc, hri, hle, (hr.row k hk).len⟩
theorem ows_of_S {w : World} {base : Nat} {v : Value} {xs : List (List Int)} {ok : Nat → Prop} (h : Kd.S (Kd.slice 2 (Kd.int .i64)) 56 w base ok v xs) : OWS w base w.heap.size v xs (fun i => icells (rowAt xs i)) := by
  obtain ⟨f, -, inner, ho, hr⟩ := h
  have hz : xs.zipIdx.length = xs.length := List.length_zipIdx
  rw [hz] at ho
  have e1 : (Kd.tag f (Kd.slice 2 (Kd.int IntKind.i64))).sz = 1 := rfl
  rw [e1] at ho hr
  have each : ∀ i, i < xs.length → ∃ v', inner[i]? = some v' ∧ Kd.R (Kd.int .i64) 2 w base (fun k => (ok k ∧ some k ≠ v.ownBlock) ∧ f k = i) v' (rowAt xs i) := by
    intro i hi
    have hj : xs[i]? = some (rowAt xs i) := by rw [rowAt_at hi]; exact List.getElem?_eq_getElem hi
    obtain ⟨v', hv', hR⟩ := hr.2 i _ (Kd.zip_at hj)
    refine ⟨v', ?_, hR⟩
    have hl : i < inner.length := by rw [hr.1, hz]; omega
    rw [Nat.mul_one, List.drop_eq_getElem_cons hl, List.take_succ_cons, List.take_zero] at hv'
    rw [List.getElem?_eq_getElem hl]
    exact congrArg some (List.cons.inj hv').1
  have hrows : ∀ g c, v = .slice (some ⟨g, 0, none⟩) xs.length c → RowsW w base w.heap.size g xs.length (fun i => inner.getD i default) (rowLen xs) (fun i => icells (rowAt xs i)) := by
    intro g c hv
    subst hv
    have hd : ∀ i v', inner[i]? = some v' → inner.getD i default = v' := fun i v' h => by rw [List.getD_eq_getElem?_getD, h]; rfl
    refine ⟨fun i hi => ?_, fun i hi => ?_, fun i j hi hj hne b hb hb2 => ?_, fun i hi hb => ?_⟩
    · obtain ⟨v', e, -⟩ := each i hi
      rw [hd i v' e]
      exact own_cell ho e
    · obtain ⟨v', e, hR⟩ := each i hi
      simp only [hd i v' e]
      exact ow_of_R hR
    · obtain ⟨v', e, hR⟩ := each i hi
      obtain ⟨v2, e2, hR2⟩ := each j hj
      rw [hd i v' e] at hb
      rw [hd j v2 e2] at hb2
      exact hne ((hR.1 b hb).2.symm.trans (hR2.1 b hb2).2)
    · obtain ⟨v', e, hR⟩ := each i hi
      rw [hd i v' e] at hb
      exact (hR.1 g hb).1.2 rfl
  rcases ho.2 with ⟨rfl, hn⟩ | ⟨g, cap, cur, rfl, hb, hg, hle, hm, hsz, -⟩
  · refine ⟨⟨none, 0, 0, fun _ => .slice none 0 0, by rw [hn], by omega, fun h => by omega, ⟨fun i hi => by omega, fun i hi => by omega, fun i j hi => by omega, fun i hi => by omega⟩⟩, Nat.le_refl _⟩
  · exact ⟨⟨_, cap, g, _, rfl, ⟨hle, by simpa [maxLen] using hm⟩, fun _ => ⟨rfl, hb, (Array.getElem?_eq_some_iff.1 hg).1⟩, hrows g cap rfl⟩, Nat.le_refl _⟩
def rowsz0 (xs : List (List Int)) : Nat := tot (rowLen xs) xs.length
theorem rowsz0_row {xs : List (List Int)} {i : Nat} (h : i < xs.length) : rowLen xs i ≤ rowsz0 xs := by
  have := tot_le (rowLen xs) (show i + 1 ≤ xs.length from h)
  rw [tot] at this
  unfold rowsz0
  omega
theorem OWS.congr {w : World} {lo hi : Nat} {v : Value} {xs : List (List Int)} {cs cs' : Nat → List Value} (h : OWS w lo hi v xs cs) (e : ∀ i, i < xs.length → cs i = cs' i) : OWS w lo hi v xs cs' := by
  obtain ⟨A, c, g, hv, e1, hc, hA, hr⟩ := h.ex
  exact ⟨⟨A, c, g, hv, e1, hc, hA, hr.congr e⟩, h.top⟩
def mkS (k : Int) (xs : List (List Int)) (i : Nat) : List Value := icells (mkI (k + (tot (rowLen xs) i : Int)) (rowLen xs i * 1))
theorem markInt64SS_m (lo hi : Nat) (xs : List (List Int)) (m : Nat) (k : Int) (w : World) (hm : m = rowsz0 xs) {v : Value} {cs : Nat → List Value} (h : OWS w lo hi v xs cs) (hk : 0 ≤ k) (hk2 : k + (m : Int) ≤ 1000000000000) (hl : xs.length ≤ 35184372088832) :
    Calls Try.prog 13 #[v, .int .i64 k] w fun e w' => e = .returned (.int .i64 (k + (m : Int))) ∧ OWS w' lo hi v xs (mkS k xs) ∧ Only lo hi w w' := by
  subst hm
  obtain ⟨A, c, g, hv, rfl, hc, hA, hr⟩ := h.ex
  refine (markInt64SS_any lo hi g xs.length c A hv (rowLen xs) cs k w (fun h => (hA h).1) hr hk hk2 hl).mono ?_
  rintro e w' ⟨rfl, h2, h3⟩
  exact ⟨rfl, ⟨⟨A, c, g, hv, rfl, hc, hA, h2.congr fun i hi => by simp only [mkRows, if_pos hi]; rfl⟩, Nat.le_trans h.top h3.size⟩, h3⟩
theorem heldInt64SS_m (lo hi : Nat) (xs : List (List Int)) (m : Nat) (k : Int) (w : World) (hm : m = rowsz0 xs) {v : Value} (h : OWS w lo hi v xs (mkS k xs)) (hk : 0 ≤ k) (hk2 : k + (m : Int) ≤ 1000000000000) (hl : xs.length ≤ 35184372088832) :
    Calls Try.prog 14 #[v, .int .i64 k] w fun e w' => e = .returned (.int .i64 (k + (m : Int))) ∧ Below w.heap.size w w' := by
  subst hm
  obtain ⟨A, c, g, hv, rfl, hc, hA, hr⟩ := h.ex
  exact heldInt64SS_any lo hi g xs.length c A hv (rowLen xs) (mkS k xs) k w (fun h => (hA h).1) (hr.congr fun i hi => by simp only [mkRows, if_pos hi]; rfl) hk hk2 hl
theorem rows_eq {ts us : List (List Int)} (hl : ts.length = us.length) (h : ∀ j, j < ts.length → rowAt ts j = rowAt us j) : ts = us := by
  apply List.ext_getElem hl
  intro j h1 h2
  have := h j h1
  rwa [rowAt_at h1, rowAt_at h2] at this
set_option maxHeartbeats 1000000 in
theorem eqInt64SS_any (A A' : Option Addr) (ts us : List (List Int)) (n m c c' : Nat) (w : World) (hn : n = ts.length) (hm : m = us.length) (hA : RR w A ts) (hA' : RR w A' us) (hl : ts.length ≤ 35184372088832 ∧ rowsz0 ts ≤ 35184372088832) (hl' : us.length ≤ 35184372088832 ∧ rowsz0 us ≤ 35184372088832) :
    Calls Try.prog 12 #[.slice A n c, .slice A' m c'] w fun e w' => e = .returned (.bool (decide (ts = us))) ∧ Below w.heap.size w w' := by
  have HA := Lib.hid hA; have HA' := Lib.hid hA'; clear hA hA'
  by_cases hlen : n = m
  · have HL := Lib.hid (show ts.length = us.length by omega); have HN := Lib.hid hn; have HM := Lib.hid hlen
    have h1 : ((n : Int) != m) = false := by simp [hlen]
    have hn0 : n ≤ 35184372088832 := by omega
    clear hlen hn hm
    go_enter Try.func12, Try.ntmps12
    go_wp2
    go_loopw [5] (fun i wr => Below w.heap.size w wr ∧ ∃ k : Nat, k ≤ n ∧ i = .int .i64 k ∧ ∀ j, j < k → rowAt ts j = rowAt us j) (fun i _ => n - (intOf i).toNat)
    case atStart => exact ⟨Below.refl _ _, 0, by omega, rfl, fun j h => absurd h (by omega)⟩
    case round =>
      obtain ⟨hB, k, hk, rfl, hall⟩ := hrel
      have hT := HA.out.below hB
      have hT' := HA'.out.below hB
      have HB := Lib.hid hB; have HALL := Lib.hid hall; clear hB hall
      by_cases hlt : k < n
      · have k1 : k < ts.length := by have := HN.out; omega
        have k2 : k < us.length := by have := HL.out; omega
        have r1 : rowLen ts k ≤ 35184372088832 := Nat.le_trans (rowsz0_row k1) hl.2
        have r2 : rowLen us k ≤ 35184372088832 := Nat.le_trans (rowsz0_row k2) hl'.2
        have HK := Lib.hid (And.intro k1 k2)
        obtain ⟨b, o, A1, c1, rfl, hb, h0, hr, -⟩ := hT k k1
        obtain ⟨b', o', A2, c2, rfl, hb', h0', hr', -⟩ := hT' k k2
        have HR := Lib.hid hr; have HR' := Lib.hid hr'
        have i1 : (k : Int) < n := by omega
        have i2 : (k : Int) < m := by have := HM.out; omega
        clear hT hT' hr hr' k1 k2
        by_cases he : rowAt ts k = rowAt us k
        · have HE := Lib.hid (show decide (rowAt ts k = rowAt us k) = true by simpa using he); clear he
          go_wp2
          refine wp_region_gro (by kernel_rfl) (by kernel_rfl) ?_
          repeat (first | go_big_quiet_step (((go_at_call 40; exact quiet_call (by have h := eqInt64S_any A1 A2 (rowAt ts k) (rowAt us k) (rowLen ts k) (rowLen us k) c1 c2 (gro wr ‹GP›) rfl rfl (HR.out.below (gro_below wr _)) (HR'.out.below (gro_below wr _)) r1 r2; rw [HE.out] at h; exact h)))) | quiet_step (((go_at_call 40; exact quiet_call (by have h := eqInt64S_any A1 A2 (rowAt ts k) (rowAt us k) (rowLen ts k) (rowLen us k) c1 c2 (gro wr ‹GP›) rfl rfl (HR.out.below (gro_below wr _)) (HR'.out.below (gro_below wr _)) r1 r2; rw [HE.out] at h; exact h)))))
          refine wpQuiet_nil ?_
          intro w1 hB1
          have HB1 := Lib.hid hB1; clear hB1
          go_wp2
          go_roundw
          case rel => exact ⟨HB.out.trans (HB1.out.mono HB.out.size), k + 1, by omega, by go_num, fun j hj => by
            by_cases e : j = k
            · subst e; exact of_decide_eq_true HE.out
            · exact HALL.out j (by omega)⟩
          case measure => simp [intOf]; omega
        · have HE := Lib.hid (show decide (rowAt ts k = rowAt us k) = false by simpa using he); clear he
          go_wp2
          refine wp_region_gro (by kernel_rfl) (by kernel_rfl) ?_
          repeat (first | go_big_quiet_step (((go_at_call 40; exact quiet_call (by have h := eqInt64S_any A1 A2 (rowAt ts k) (rowAt us k) (rowLen ts k) (rowLen us k) c1 c2 (gro wr ‹GP›) rfl rfl (HR.out.below (gro_below wr _)) (HR'.out.below (gro_below wr _)) r1 r2; rw [HE.out] at h; exact h)))) | quiet_step (((go_at_call 40; exact quiet_call (by have h := eqInt64S_any A1 A2 (rowAt ts k) (rowAt us k) (rowLen ts k) (rowLen us k) c1 c2 (gro wr ‹GP›) rfl rfl (HR.out.below (gro_below wr _)) (HR'.out.below (gro_below wr _)) r1 r2; rw [HE.out] at h; exact h)))))
          refine wpQuiet_nil ?_
          intro w1 hB1
          have HB1 := Lib.hid hB1; clear hB1
          go_wp2
          go_ret
          exact ⟨ret_bool (by have : ts ≠ us := fun e => of_decide_eq_false HE.out (by rw [e])
                              simp [this]), HB.out.trans (HB1.out.mono HB.out.size)⟩
      · go_wp2
        go_ret
        exact ⟨ret_bool (by have : ts = us := rows_eq HL.out fun j hj => HALL.out j (by have := HN.out; omega)
                            simp [this]), HB.out⟩
  · have h1 : ((n : Int) != m) = true := by simp; omega
    have HL := Lib.hid (show ts.length ≠ us.length by omega); clear hlen hn hm
    go_enter Try.func12, Try.ntmps12
    go_wp2
    go_ret
    exact ⟨ret_bool (by have : ts ≠ us := fun e => HL.out (by rw [e])
                        simp [this]), Below.refl _ _⟩
end Go.Proofs.Ytcaikaflpmaocaa

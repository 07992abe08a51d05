/-
  Contracts on texts: impl.tileText by hand; strconv.FormatInt at one digit and strings.Join, out of the library's shelf, in printed form.
-/
import Derived.Test.YtbcnddeelefomaaDoorTextLay
import Derived.Test.YtbcnddeelefomaaDoorExt
import Derived.Shelf.Strconv.Itoa4
import Derived.Shelf.Strings.OnBuilder
namespace Go.Proofs.YtbcnddeelefomaaDoor
open Go Go.RowKit Go.Proofs Go.Proofs.YtbcnddeelefomaaDoorW.PrintWords
set_option linter.unusedVariables false
set_option linter.unusedSimpArgs false

/-- a number's digit -/
def dig (n : Int) : UInt8 := UInt8.ofNat (48 + n.toNat)
def tileD (t : T4) : List UInt8 := [dig (t.get 0), dig (t.get 1), dig (t.get 2), dig (t.get 3)]
def lowT (t : T4) : Bool := decide ((0 ≤ t.get 0 ∧ t.get 0 < 10) ∧ (0 ≤ t.get 1 ∧ t.get 1 < 10) ∧ (0 ≤ t.get 2 ∧ t.get 2 < 10) ∧ 0 ≤ t.get 3 ∧ t.get 3 < 10)
theorem dec_call (n : Int) (h0 : 0 ≤ n) (h1 : n < 10) (w : World) : Calls Tryd.prog 39 #[.int .i64 n, .int .i64 10] w fun e w' => e = .returned (.string ⟨#[dig n]⟩) ∧ w' = w := by
  obtain ⟨m, rfl⟩ := Int.eq_ofNat_of_zero_le h0
  have h := Any.strconv_FormatInt_10_small decLaid m (by omega) w
  rw [Lib.decDigits_one (by omega)] at h
  exact h
theorem joinX : Builder.Extra Tryd.prog joinLaid_ren := {
  sizeBuilder := by kernel_rfl,
  liesBuilder := by kernel_rfl,
  t5 := Tryd.underlying5,
  a5 := Tryd.isAgg5,
  z5 := Tryd.sizeOf5,
  v5 := Tryd.zeroValue5,
  infoByte := by kernel_rfl,
  cellsByte := by kernel_rfl,
  sizeByte := by kernel_rfl,
  neB5 := by decide }
set_option maxRecDepth 100000 in
theorem ixT0 (a b c d : Int) (w : World) : (Instr.index 50 (Value.agg #[.int .i64 a, .int .i64 b, .int .i64 c, .int .i64 d]) (.int .i64 0)).run Tryd.prog w = .ok (.int .i64 a) w := by
  simp [Instr.index]; rfl
set_option maxRecDepth 100000 in
theorem ixT1 (a b c d : Int) (w : World) : (Instr.index 50 (Value.agg #[.int .i64 a, .int .i64 b, .int .i64 c, .int .i64 d]) (.int .i64 1)).run Tryd.prog w = .ok (.int .i64 b) w := by
  simp [Instr.index]; rfl
set_option maxRecDepth 100000 in
theorem ixT2 (a b c d : Int) (w : World) : (Instr.index 50 (Value.agg #[.int .i64 a, .int .i64 b, .int .i64 c, .int .i64 d]) (.int .i64 2)).run Tryd.prog w = .ok (.int .i64 c) w := by
  simp [Instr.index]; rfl
set_option maxRecDepth 100000 in
theorem ixT3 (a b c d : Int) (w : World) : (Instr.index 50 (Value.agg #[.int .i64 a, .int .i64 b, .int .i64 c, .int .i64 d]) (.int .i64 3)).run Tryd.prog w = .ok (.int .i64 d) w := by
  simp [Instr.index]; rfl
set_option maxHeartbeats 2000000 in
set_option maxRecDepth 100000 in
theorem tileText_any (a b c d : Int) (w : World) (h : lowT ⟨a, b, c, d⟩ = true) :
    Calls Tryd.prog 38 #[.agg #[.int .i64 a, .int .i64 b, .int .i64 c, .int .i64 d]] w fun e w' => e = .returned (.string ⟨(tileD ⟨a, b, c, d⟩).toArray⟩) ∧ Below w.heap.size w w' := by
  have hl : (0 ≤ a ∧ a < 10) ∧ (0 ≤ b ∧ b < 10) ∧ (0 ≤ c ∧ c < 10) ∧ 0 ≤ d ∧ d < 10 := by simpa [lowT, T4.get] using h
  obtain ⟨⟨ha0, ha1⟩, ⟨hb0, hb1⟩, ⟨hc0, hc1⟩, hd0, hd1⟩ := hl
  have HL := Lib.hid h
  clear h
  go_enter Tryd.func38, Tryd.ntmps38
  go_upto_region 1 with fail
  refine name1 ?_
  intro W1 b1 hz hb0
  have z0 : W1.cell? ⟨w.heap.size, 0, none⟩ = some (.int .i64 a) := b1.cell rfl
  have z1 : W1.cell? ⟨w.heap.size, 1, none⟩ = some (.int .i64 b) := b1.cell rfl
  have z2 : W1.cell? ⟨w.heap.size, 2, none⟩ = some (.int .i64 c) := b1.cell rfl
  have z3 : W1.cell? ⟨w.heap.size, 3, none⟩ = some (.int .i64 d) := b1.cell rfl
  have l1 := b1.lt
  have HB0 := Lib.hid hb0
  clear b1 hz hb0
  go_wp2_with fail
  clear z0 z1 z2 z3
  go_loop [7, 3] (fun i s => ∃ k : Nat, k ≤ 4 ∧ i = .int .i64 k ∧ s = .string ⟨((tileD ⟨a, b, c, d⟩).take k).toArray⟩) (fun i _ => 4 - (intOf i).toNat)
  case atStart => exact ⟨0, by omega, rfl, rfl⟩
  case round =>
    obtain ⟨k, hk, rfl, rfl⟩ := hrel
    match k, hk with
    | 0, _ =>
      have IX := fun w_ => ixT0 a b c d w_
      go_wp2_with fail
      refine (dec_call a ha0 ha1 _).mono ?_
      rintro e w2 ⟨rfl, rfl⟩
      go_wp2_with fail
      go_round
      case rel => exact ⟨0 + 1, by omega, by go_num, rfl⟩
      case measure => simp [intOf]
    | 1, _ =>
      have IX := fun w_ => ixT1 a b c d w_
      go_wp2_with fail
      refine (dec_call b hb0 hb1 _).mono ?_
      rintro e w2 ⟨rfl, rfl⟩
      go_wp2_with fail
      go_round
      case rel => exact ⟨1 + 1, by omega, by go_num, rfl⟩
      case measure => simp [intOf]
    | 2, _ =>
      have IX := fun w_ => ixT2 a b c d w_
      go_wp2_with fail
      refine (dec_call c hc0 hc1 _).mono ?_
      rintro e w2 ⟨rfl, rfl⟩
      go_wp2_with fail
      go_round
      case rel => exact ⟨2 + 1, by omega, by go_num, rfl⟩
      case measure => simp [intOf]
    | 3, _ =>
      have IX := fun w_ => ixT3 a b c d w_
      go_wp2_with fail
      refine (dec_call d hd0 hd1 _).mono ?_
      rintro e w2 ⟨rfl, rfl⟩
      go_wp2_with fail
      go_round
      case rel => exact ⟨3 + 1, by omega, by go_num, rfl⟩
      case measure => simp [intOf]
    | 4, _ =>
      go_wp2_with fail
      go_ret
      exact ⟨rfl, HB0.out⟩
end Go.Proofs.YtbcnddeelefomaaDoor
namespace Go.Proofs.YtbcnddeelefomaaDoor.Q
open Go Go.RowKit Go.Proofs Go.Proofs.YtbcnddeelefomaaDoorW.PrintWords Go.Proofs.YtbcnddeelefomaaDoor
set_option linter.unusedVariables false
set_option linter.unusedSimpArgs false
def impl_tileText.f (a0_0 a0_1 a0_2 a0_3 : Int) : Option ByteArray := if lowT ⟨a0_0, a0_1, a0_2, a0_3⟩ = true then some ⟨(tileD ⟨a0_0, a0_1, a0_2, a0_3⟩).toArray⟩ else none
theorem impl_tileText.calls (a0_0 a0_1 a0_2 a0_3 : Int) (r : ByteArray) (w : World) (h : impl_tileText.f a0_0 a0_1 a0_2 a0_3 = some r) :
    Calls Tryd.prog 38 #[.agg #[.int .i64 a0_0, .int .i64 a0_1, .int .i64 a0_2, .int .i64 a0_3]] w fun e w' => e = .returned (.string r) ∧ Below w.heap.size w w' := by
  unfold impl_tileText.f at h
  split at h
  · rename_i hl
    obtain rfl := Option.some.inj h
    exact tileText_any _ _ _ _ w hl
  · cases h
def strconv_FormatInt.f (a0 a1 : Int) : Option ByteArray := if 0 ≤ a0 ∧ a0 < 10 ∧ a1 = 10 then some ⟨#[dig a0]⟩ else none
theorem strconv_FormatInt.calls (a0 a1 : Int) (r : ByteArray) (w : World) (h : strconv_FormatInt.f a0 a1 = some r) :
    Calls Tryd.prog 39 #[.int .i64 a0, .int .i64 a1] w fun e w' => e = .returned (.string r) ∧ Below w.heap.size w w' := by
  unfold strconv_FormatInt.f at h
  split at h
  · rename_i hl
    obtain rfl := Option.some.inj h
    obtain ⟨h0, h1, rfl⟩ := hl
    refine (dec_call a0 h0 h1 w).mono ?_
    rintro e w2 ⟨rfl, rfl⟩
    exact ⟨rfl, Below.refl _ _⟩
  · cases h
def strings_Join.f (l0 : List ByteArray) (a1 : ByteArray) : Option ByteArray := if l0.length ≤ 100 ∧ (Lib.join (l0.map (·.data.toList)) a1.data.toList).length ≤ 10000 then some ⟨(Lib.join (l0.map (·.data.toList)) a1.data.toList).toArray⟩ else none
theorem strings_Join.calls (A0 : Option Addr) (c0 : Nat) (l0 : List ByteArray) (a1 : ByteArray) (r : ByteArray) (w : World) (hr0 : Kd.C Kd.string w A0 l0.length l0) (hc0 : l0.length ≤ c0) (h : strings_Join.f l0 a1 = some r) :
    Calls Tryd.prog 40 #[.slice A0 l0.length c0, .string a1] w fun e w' => e = .returned (.string r) ∧ Below w.heap.size w w' := by
  unfold strings_Join.f at h
  split at h
  · rename_i hl
    obtain rfl := Option.some.inj h
    by_cases hz : l0.length = 0
    · have e : l0 = [] := List.eq_nil_of_length_eq_zero hz
      subst e
      refine (Any.strings_Join_none joinLaid joinX A0 c0 a1 w).mono ?_
      rintro e w2 ⟨rfl, rfl⟩
      exact ⟨rfl, Below.refl _ _⟩
    · obtain ⟨ad, rfl, hc⟩ := hr0.2.2 (by omega)
      have g : ∀ j (hj : j < l0.length), w.cell? (ad.add j) = some (.string l0[j]) := by
        intro j hj
        obtain ⟨c, hcl, hK, hcell⟩ := hc j l0[j] (List.getElem?_eq_getElem hj)
        have hK' : c = [.string l0[j]] := hK
        subst hK'
        have := hcell 0 _ rfl
        have e1 : Kd.string.sz = 1 := rfl
        rwa [e1, Nat.mul_one, Nat.add_zero] at this
      have h0 := g 0 (by omega)
      have hs : ad.spot = none := by
        have := spot_none h0
        simpa [Addr.add] using this
      obtain ⟨b, o, s⟩ := ad
      simp only at hs
      subst hs
      have hb : b < w.heap.size := by
        have := World.block_lt_of_cell? w _ h0
        simpa [Addr.add] using this
      refine Any.strings_Join joinLaid joinX b o c0 l0 a1 w (fun j x hj => ?_) hb (by omega) hc0 (by omega)
      have hjl := (List.getElem?_eq_some_iff.1 hj).1
      have := g j hjl
      rw [List.getElem?_eq_getElem hjl] at hj
      rw [add_off] at this
      rw [this, Option.some.inj hj]
  · cases h
end Go.Proofs.YtbcnddeelefomaaDoor.Q

/-
 Parts of the proof, in their order: FirstV, EachIF, FirstI, LawFirstFilling.
-/
import Derived.Test.YtcaikaflpmaocaaPk17
import Derived.Laws.EntriesVeiled
import Derived.Test.YtcaikaflpmaocaaPk13
import Derived.Test.YtcaikaflpmaocaaPk14
import Derived.Test.YtcaikaflpmaocaaPk15
import Derived.Test.YtcaikaflpmaocaaPk8
import Derived.Deep.RegionHeld3
namespace Go.Proofs.Ytcaikaflpmaocaa
open Go Go.RowKit Go.Proofs Go.Proofs.YtcaikaflpmaocaaW.PrintWords Go.Proofs.YtcaikaflpmaocaaW.PrintLast Go.Proofs.YtcaikaflpmaocaaW.PrintMore Go.Proofs.Ytcaikaflpmaocaa.Q
set_option linter.unusedVariables false
set_option linter.unusedSimpArgs false
def JF (base bo : Nat) (vs : List (List (List Int))) (W : World) (ok : Nat → Prop) : Prop :=
 ok bo ∧ ∃ v, BK W bo #[v] 22 ∧ ((vs = [] ∧ v = .slice none 0 0) ∨ ∃ rows vs', vs = vs' ++ [rows] ∧ 0 < rows.length ∧ Kd.S (Kd.slice 2 (Kd.int .i64)) 56 W base (fun k => ok k ∧ k ≠ bo) v rows)
theorem JF.vis (X : Nat → Prop) (wE : World) (base bo : Nat) : VIS X wE (JF base bo) := by
 refine ⟨?_, ?_, ?_⟩
 ·rintro vs W ok ok' ⟨h0, v, hb, h⟩ hok
  refine ⟨hok _ h0, v, hb, h.imp id ?_⟩
  rintro ⟨rows, vs', e, hl, hS⟩
  exact ⟨rows, vs', e, hl, Kd.S_mono hS (fun k hk => ⟨hok k hk.1, hk.2⟩)⟩
 ·rintro vs W ok ⟨h0, v, hb, h⟩
  refine ⟨⟨h0, hb.lt⟩, v, hb, h.imp id ?_⟩
  rintro ⟨rows, vs', e, hl, hS⟩
  exact ⟨rows, vs', e, hl, Kd.S_mono (Kd.S_bound hS) (fun k hk => ⟨⟨hk.1.1, hk.2.2.1⟩, hk.1.2⟩)⟩
 ·rintro vs W W1 ok ⟨h0, v, hb, h⟩ hs hm
  refine ⟨h0, v, (hm bo h0 hb.lt).trans hb, h.imp id ?_⟩
  rintro ⟨rows, vs', e, hl, hS⟩
  exact ⟨rows, vs', e, hl, Kd.S_step hS (fun k hk hlt => hm k hk.1 hlt)⟩
theorem KE.set {X : Nat → Prop} {w W : World} (h : KE X w W) {b : Nat} (hb : X b) (j : Nat) (u : Value) : KE X w (W.setCell ⟨b, j, none⟩ u) :=
 ⟨h.os, h.tape, h.output, by simpa using h.size, fun k hk hx => (Below.heap_setCell W ⟨b, j, none⟩ u k (by intro e; exact hx (by rw [e]; exact hb))).trans (h.block k hk hx)⟩
theorem FR.set {W : World} {b : Nat} {C : Array Value} {E : TypeId} (h : BK W b C E) (hE : E = 22 ∨ E = 48) (j : Nat) (u : Value) : FR W (W.setCell ⟨b, j, none⟩ u) none := by
 refine ⟨by simp, fun k hk _ ht => Below.heap_setCell W ⟨b, j, none⟩ u k (fun e => ?_)⟩
 have e1 : k = b := e
 subst e1
 have h9 := ht _ _ h
 rcases hE with e2 | e2
 ·exact h9.1 e2
 ·exact h9.2 e2
set_option maxHeartbeats 4000000 in
set_option maxRecDepth 100000 in
theorem visitF (X : Nat → Prop) (wE : World) (bo : Nat) (hX : X bo) : VisitK X wE (JF wE.heap.size bo) 64 bo false := by
 intro vs W N ok v rows hK hEN hN hvs hJ hS hr
 obtain ⟨⟨hb0, hbN⟩, v0, hb, -⟩ := hJ
 obtain ⟨g, cap, hv, -, -, -⟩ := Kd.S_form hS hr
 subst hv
 have hK2 := hK.set hX 0 (.slice (some ⟨g, 0, none⟩) rows.length cap)
 have hF2 := FR.set hb (.inl rfl) 0 (.slice (some ⟨g, 0, none⟩) rows.length cap)
 have hb2 : BK (W.setCell ⟨bo, 0, none⟩ (.slice (some ⟨g, 0, none⟩) rows.length cap)) bo #[.slice (some ⟨g, 0, none⟩) rows.length cap] 22 := hb.set 0 _
 have hS2 : Kd.S (Kd.slice 2 (Kd.int .i64)) 56 (W.setCell ⟨bo, 0, none⟩ (.slice (some ⟨g, 0, none⟩) rows.length cap)) wE.heap.size (fun k => (ok k ∨ N ≤ k) ∧ k ≠ bo) (.slice (some ⟨g, 0, none⟩) rows.length cap) rows := by
  have h1 : Kd.S (Kd.slice 2 (Kd.int .i64)) 56 W N (fun k => (ok k ∨ N ≤ k) ∧ k ≠ bo) (.slice (some ⟨g, 0, none⟩) rows.length cap) rows := Kd.S_mono (Kd.S_bound hS) (fun k hk => ⟨.inr hk.2.1, by have := hk.2.1; omega⟩)
  exact Kd.S_lower (Kd.S_far h1 (p := ⟨bo, 0, none⟩) (fun k hk => hk.2) _) hEN
 have z0 : W.cell? ⟨bo, 0, none⟩ = some v0 := hb.cell rfl
 have fz : W.frozen? ⟨bo, 0, none⟩ = false := hb.frozen 0
 have HK2 := Lib.hid hK2; have HF2 := Lib.hid hF2; have HB2 := Lib.hid hb2; have HS2 := Lib.hid hS2; have HR := Lib.hid hr; have HB0 := Lib.hid hb0
 obtain ⟨m, hm⟩ : ∃ m, m = rows.length := ⟨_, rfl⟩
 rw [← hm] at HK2 HF2 HB2 HS2 ⊢
 clear hK2 hF2 hb2 hS2 hK hS hb hX hr hb0 hm
 go_enter Try.func64, Try.ntmps64
 go_wp2_with fail
 go_ret
 exact ⟨rfl, HK2.out, HF2.out, .inl HB0.out, _, HB2.out, .inr ⟨rows, vs, rfl, HR.out, HS2.out⟩⟩
end Go.Proofs.Ytcaikaflpmaocaa
namespace Go.Proofs.Ytcaikaflpmaocaa
open Go Go.RowKit Go.Proofs Go.Proofs.YtcaikaflpmaocaaW.PrintWords Go.Proofs.YtcaikaflpmaocaaW.PrintLast Go.Proofs.YtcaikaflpmaocaaW.PrintMore Go.Proofs.Ytcaikaflpmaocaa.Q
set_option linter.unusedVariables false
set_option linter.unusedSimpArgs false
set_option maxHeartbeats 8000000 in
set_option maxRecDepth 100000 in
theorem eachF_any {X : Nat → Prop} {J : List (List (List Int)) → World → (Nat → Prop) → Prop} (C : Int) (cn : Nat) (A : Option Addr) (ts : List T4) (n c : Nat) (A1 : Option Addr) (plan : List (List Int)) (m1 c1 : Nat) (A2 : Option Addr) (bs : List (List Int)) (m2 c2 : Nat) (w0 wE : World) (F bo : Nat)
 (hC : C = (cn : Int)) (hcn : 0 < cn) (c6 : cn ≤ 6) (hn : n = ts.length) (hA : RT w0 A ts) (hl : n ≤ 1000) (hm1 : m1 = plan.length) (hA1 : RR w0 A1 plan) (hm2 : m2 = bs.length) (hA2 : RR w0 A2 bs) (hsh : Shape plan bs) (hcol : ∀ t ∈ ts.map toS, Col cn t)
 (h0E : Below w0.heap.size w0 wE) (hXl : ∀ k, X k → w0.heap.size ≤ k) (hXE : ∀ k, X k → k < wE.heap.size) (hX : XOK X wE) (hfi : FIA wE F C cn A ts n c A1 plan m1 c1 A2 bs m2 c2) (hV : VIS X wE J) (hvis : VisitK X wE J 64 bo false) (hJ : J [] wE (fun _ => True))
 (htot : (visL false (waysF (stepI cn plan bs (ts.map toS)) (ts.map toS).length (places plan) 0 0)).length ≤ 1000000) :
 Calls Try.prog 63 #[.pointer (some ⟨F, 0, none⟩), .func (.func 64) #[] #[.pointer (some ⟨bo, 0, none⟩)]] wE fun e w' => (∃ v, e = .returned v) ∧ KE X wE w' ∧ J (tellF (rowLen plan 0) plan.length [] (visL false (waysF (stepI cn plan bs (ts.map toS)) (ts.map toS).length (places plan) 0 0))) w' (fun _ => True) := by
 obtain ⟨Ap, cp, ga, ca, ⟨f0, f1, f2, f3⟩, f4, z6, hRP, hRB⟩ := id hfi
 have nz6 : ¬ X F := hX.cell F 0 _ f0 (by simp)
 obtain ⟨pb, po, PA, pc, hPA, hpb, p0, -, -, -⟩ := hA1 0 (by have := hsh.h1; omega)
 subst hPA
 rw [Nat.add_zero] at p0
 have hsz : 0 < size cn plan := Nat.pow_pos hcn
 obtain ⟨gq, cq, lga, lgq, zq, zb⟩ := hRB 0 0 (by rw [alvL_len]; omega) (by rw [alvL_get _ _ _ _ _ _ (Nat.zero_le _) (Nat.zero_le _), alvRow_len]; exact hsz)
 rw [alvL_get _ _ _ _ _ _ (Nat.zero_le _) (Nat.zero_le _), alvRow_len] at zq
 rw [alvL_get _ _ _ _ _ _ (Nat.zero_le _) (Nat.zero_le _), alvRow_get _ _ _ _ _ _ hsz] at zb
 have hf0 : 0 < (fwd (stepI cn plan bs (ts.map toS)) (ts.map toS).length (size cn plan) 0).getD 0 0 := by
  show 0 < (unit (size cn plan) 0).getD 0 0
  rw [unit, getD_set _ _ _ _ (by simpa using hsz), if_pos rfl]; decide
 have hal : alvAt (stepI cn plan bs (ts.map toS)) (ts.map toS).length (size cn plan) (places plan) 0 0 = decide (0 < onw (stepI cn plan bs (ts.map toS)) (ts.map toS).length (places plan) 0 0) := by
  unfold alvAt onB
  have h0 : ¬ ik (fwd (stepI cn plan bs (ts.map toS)) (ts.map toS).length (size cn plan) 0) 0 = 0 := by unfold ik; omega
  rw [decide_eq_false h0, Nat.sub_zero]; rfl
 rw [hal] at zb
 have nzq : ¬ X ga := hX.cell _ _ _ zq (by intro A_ c_ e_; injection e_ with _ e_; omega)
 have nzb : ¬ X gq := hX.cell _ _ _ zb (by simp)
 have p0' := cell_to h0E p0
 have j1 : (0 : Int) < m1 := by have := hsh.h1; omega
 have j2 : 0 < m1 := by have := hsh.h1; omega
 have HC := Lib.hid hC; have HCN := Lib.hid hcn; have HN := Lib.hid hn; have HA := Lib.hid hA; have HM1 := Lib.hid hm1; have HA1 := Lib.hid hA1; have HM2 := Lib.hid hm2; have HA2 := Lib.hid hA2; have HSH := Lib.hid hsh; have HCOL := Lib.hid hcol
 have H0E := Lib.hid h0E; have HXL := Lib.hid hXl; have HXE := Lib.hid hXE; have HX := Lib.hid hX; have HFI := Lib.hid hfi; have HV := Lib.hid hV; have HVIS := Lib.hid hvis; have HJ := Lib.hid hJ; have HTOT := Lib.hid htot; have HF0 := Lib.hid hf0
 clear hC hcn hn hA hm1 hA1 hm2 hA2 hsh hcol h0E hXl hXE hX hfi hV hvis hJ htot hf0 hal f0 f1 f3 f4 hRP hRB p0
 generalize htt : tellF (rowLen plan 0) plan.length [] (visL false (waysF (stepI cn plan bs (ts.map toS)) (ts.map toS).length (places plan) 0 0)) = tot
 have HTT := Lib.hid htt; clear htt
 go_enter Try.func63, Try.ntmps63
 go_upto_region 1 with fail
 refine name2 ?_
 intro W2 q2 q3 hz2 hb2
 have g2 := cell_to hb2 f2; have g0 := cell_to hb2 p0'
 have y2 : W2.cell? ⟨wE.heap.size, 0, none⟩ = some (.pointer (some ⟨F, 0, none⟩)) := q2.cell rfl
 have l2 := World.block_lt_of_cell? _ _ y2; have lg2 := World.block_lt_of_cell? _ _ g2; have lg0 := World.block_lt_of_cell? _ _ g0
 simp only at l2 lg2 lg0
 have HB2 := Lib.hid hb2; have HZ2 := Lib.hid hz2; have HQ2 := Lib.hid q2; have HQ3 := Lib.hid q3
 clear hb2 hz2 q2 q3
 go_upto_region 4 with fail
 refine name2 ?_
 intro W4 q4 q5 hz4 hb4
 have hbE : Below wE.heap.size wE W4 := below_to HB2.out hb4
 have y5 : W4.cell? ⟨W2.heap.size + 1, 0, none⟩ = some _ := q5.cell rfl
 have y2 := cell_to hb4 y2
 have y6 := cell_to hbE z6; have yq := cell_to hbE zq; have yb := cell_to hbE zb
 have hEV : EV X wE W4 wE.heap.size (wE.heap.size + 1) W2.heap.size (W2.heap.size + 1) F (.func (.func 64) #[] #[.pointer (some ⟨bo, 0, none⟩)]) (rowLen plan 0) :=
  ⟨(KE.refl X wE).below hbE (Nat.le_refl _), (hb4.block _ HQ2.out.lt).trans HQ2.out, (hb4.block _ HQ3.out.lt).trans HQ3.out, q4, q5⟩
 have j6 := World.block_lt_of_cell? _ _ y6; have jq := World.block_lt_of_cell? _ _ yq; have jb := World.block_lt_of_cell? _ _ yb; have j5 := World.block_lt_of_cell? _ _ y5; have jj2 := World.block_lt_of_cell? _ _ y2
 simp only at j6 jq jb j5 jj2
 have HEV := Lib.hid hEV; have HBE := Lib.hid hbE; have HSZ := Lib.hid hsz
 have i1 : (0 : Int) < (places plan : Int) + 1 := by omega
 have i2 : 0 < places plan + 1 := by omega
 have i3 : (0 : Int) < ((size cn plan : Nat) : Int) := by omega
 clear hEV hbE q4 q5 hz4 hb4 g2 g0 l2 lg2 lg0 z6 zq zb
 have hJ4 : J [] W4 (fun _ => True) := HV.out.below HJ.out HBE.out
 by_cases hp : 0 < onw (stepI cn plan bs (ts.map toS)) (ts.map toS).length (places plan) 0 0
 ·rw [decide_eq_true hp] at yb
  have HJ4 := Lib.hid hJ4; have HP := Lib.hid hp
  clear hJ4 hp
  go_wp2_with fail
  refine (fillF_any C cn A ts n c (some ⟨pb, po, none⟩) plan m1 c1 A2 bs m2 c2 w0 wE wE.heap.size (wE.heap.size + 1) W2.heap.size (W2.heap.size + 1) F bo HC.out HCN.out c6 HN.out HA.out hl HM1.out HA1.out HM2.out HA2.out HSH.out HCOL.out H0E.out HXL.out HX.out HFI.out HV.out HVIS.out (places plan) 0 0 [] (.slice none 0 0) [] (fun _ => True) W4 (Nat.zero_add _) rfl HSZ.out HF0.out HEV.out (OI.nil _ _ _) (fun _ _ => trivial) (HV.out.mono HJ4.out (fun k _ => ⟨trivial, by simp [Value.ownBlock]⟩)) (by rw [List.length_nil, Nat.zero_add]; exact HTOT.out)).mono ?_
  rintro e W5 ⟨rfl, hk5, -, -, hj5⟩
  have HK5 := Lib.hid hk5; have HJ5 := Lib.hid (HV.out.mono hj5 (fun k _ => trivial))
  clear hk5 hj5
  go_wp2_with fail
  go_end0
  exact ⟨⟨_, rfl⟩, HK5.out, by rw [← HTT.out]; exact HJ5.out⟩
 ·rw [decide_eq_false hp] at yb
  have HJ4 := Lib.hid hJ4; have HP := Lib.hid hp
  clear hJ4 hp
  go_wp2_with fail
  go_end0
  refine ⟨⟨_, rfl⟩, HEV.out.ke, ?_⟩
  rw [← HTT.out, ways_nil (Int.not_lt.2 HP.out)]
  exact HJ4.out
end Go.Proofs.Ytcaikaflpmaocaa
namespace Go.Proofs.Ytcaikaflpmaocaa
open Go Go.RowKit Go.Proofs Go.Proofs.YtcaikaflpmaocaaW.PrintWords Go.Proofs.YtcaikaflpmaocaaW.PrintLast Go.Proofs.YtcaikaflpmaocaaW.PrintMore Go.Proofs.Ytcaikaflpmaocaa.Q
set_option linter.unusedVariables false
set_option linter.unusedSimpArgs false
theorem fills_same (c : Nat) (plan bs : List (List Int)) (l : List STile) (hc : 0 < c) (hw : 1 ≤ rowLen plan 0) (hcol : ∀ t ∈ l, Col c t) : waysF (stepI c plan bs l) l.length (places plan) 0 0 = fillsF c plan bs l :=
 (ways_like c (rowLen plan 0) l (fitP plan bs l) hc (by omega) hcol (places plan) 0 0 0 ⟨rfl, fun _ => rfl⟩).symm
theorem nameG1 {P : Program} {c : Code} {Q : Exit → Act → World → Prop} {a : Act} {w : World} {C1 : Array Value} {E1 : TypeId}
 (h : ∀ W, BK W w.heap.size C1 E1 → Below w.heap.size w W → c.wp P Q a W) : c.wp P Q a (w.alloc (.cells C1 E1)) := h _ (BK.new _ _ _) (below_alloc (Below.refl _ _) _)
theorem BK.cell_inv {w : World} {b o : Nat} {v0 v : Value} {E : TypeId} (h : BK w b #[v0] E) (hc : w.cell? ⟨b, o, none⟩ = some v) : v = v0 := by
 have h' : w.heap[b]? = some (.cells #[v0] E (0, 0)) := h
 simp only [World.cell?, h'] at hc
 cases o with
 | zero => simpa using hc.symm
 | succ o => simp at hc
theorem xok_one {w : World} {b c0 : Nat} {A0 : Option Addr} {E : TypeId} (h : BK w b #[.slice A0 0 c0] E) : XOK (fun k => k = b) w :=
 ⟨fun b' o v hc hv e => by subst e; exact hv _ _ (h.cell_inv hc)⟩
theorem ows_nil (w : World) (lo : Nat) : OWS w lo w.heap.size (.slice none 0 0) [] (fun i => icells (rowAt [] i)) := ows_of_S (base := lo) (Kd.S_nil _ _ _ _ (fun _ => True))
def FirstPost (w : World) (r : List (List Int) × Int) (e : Ending) (w' : World) : Prop := ∃ v, e = .returned (.tuple #[v, .int .i64 r.2]) ∧ OWS w' w.heap.size w'.heap.size v r.1 (fun i => icells (rowAt r.1 i)) ∧ Below w.heap.size w w'
set_option maxHeartbeats 8000000 in
set_option maxRecDepth 100000 in
theorem implFirst_any (C : Int) (A : Option Addr) (ts : List T4) (n c : Nat) (A1 : Option Addr) (plan : List (List Int)) (m1 c1 : Nat) (A2 : Option Addr) (bs : List (List Int)) (m2 c2 : Nat) (w : World)
 (hn : n = ts.length) (hA : RT w A ts) (hnc : n ≤ c) (hl : n ≤ 35184372088832) (hm1 : m1 = plan.length) (hA1 : RR w A1 plan) (hc1 : m1 ≤ c1) (hl1 : m1 ≤ 10000000 ∧ rowsz0 plan ≤ 10000000) (hm2 : m2 = bs.length) (hA2 : RR w A2 bs) (hc2 : m2 ≤ c2) (hl2 : m2 ≤ 10000000 ∧ rowsz0 bs ≤ 10000000) :
 Calls Try.prog 30 #[.agg #[.int .i64 C, .slice A n c], .slice A1 m1 c1, .slice A2 m2 c2] w (FirstPost w (firstF C ts plan bs)) := by
 have HN := Lib.hid hn; have HA := Lib.hid hA; have HM1 := Lib.hid hm1; have HA1 := Lib.hid hA1; have HM2 := Lib.hid hm2; have HA2 := Lib.hid hA2; have HL1 := Lib.hid hl1; have HL2 := Lib.hid hl2
 clear hn hA hm1 hA1 hm2 hA2 hl1 hl2
 generalize hff : firstF C ts plan bs = ff
 have HFFF := Lib.hid hff; clear hff
 go_enter Try.func30, Try.ntmps30
 go_upto_region 1 with fail
 refine nameG1 ?_
 intro W1 b1 hb0
 have z0 : W1.cell? ⟨w.heap.size, 0, none⟩ = some (.int .i64 C) := b1.cell rfl
 have z1 : W1.cell? ⟨w.heap.size, 1, none⟩ = some (.slice A n c) := b1.cell rfl
 have l1 := b1.lt
 have HB1 := Lib.hid b1; have HB0 := Lib.hid hb0
 clear b1 hb0
 go_wp2_with fail
 obtain ⟨k, hk⟩ := (implPlan_ev C (ts.map toS) plan bs (by rw [List.length_map, ← HN.out]; exact hl) (by rw [← HM1.out]; exact HL1.out.1) (rows_lens HL1.out.2) (by rw [← HM2.out]; exact HL2.out.1)).rounds
 have hcalls := impl_planCode.calls k C A c (ts.map toS) A1 c1 plan A2 c2 bs _ W1 (C_of_rt (HA.out.below HB0.out) (by rw [← HN.out]; omega)) (by rw [List.length_map, ← HN.out]; exact hnc) (C_of_rr (HA1.out.below HB0.out) (by rw [← HM1.out]; have := HL1.out.1; omega)) (by rw [← HM1.out]; exact hc1) (C_of_rr (HA2.out.below HB0.out) (by rw [← HM2.out]; have := HL2.out.1; omega)) (by rw [← HM2.out]; exact hc2) hk
 rw [List.length_map, ← HN.out, map_toTS, ← HM1.out, ← HM2.out] at hcalls
 refine hcalls.mono ?_
 clear hcalls hk
 rintro e W2 ⟨rfl, hb2⟩
 have b1 := (hb2.block _ l1).trans HB1.out
 have l1' := BK.lt b1
 have y0 : W2.cell? ⟨w.heap.size, 0, none⟩ = some (.int .i64 C) := BK.cell b1 rfl
 have y1 : W2.cell? ⟨w.heap.size, 1, none⟩ = some (.slice A n c) := BK.cell b1 rfl
 have HE2 := Lib.hid (below_to HB0.out hb2)
 clear b1 hb2 z0 z1 l1
 by_cases h0 : planR C ts plan bs = 0
 ·obtain ⟨hs, hsh⟩ := planR_zero' h0
  have hs2 : isS C ((ts.map toS).map toT) = true := by rw [map_toTS]; exact hs
  obtain ⟨hC, hl16, hcol⟩ := isS_cols hs2
  have HCOL := Lib.hid hcol; have HC := Lib.hid hC; have HSH := Lib.hid hsh; have H0 := Lib.hid h0
  have HL := Lib.hid (show n ≤ 1000 by rw [HN.out]; simpa using Nat.le_trans hl16 (by omega))
  rw [h0]
  clear hs hs2 hcol hC hl16 h0 hsh
  go_upto_region 5 with fail
  refine nameG1 ?_
  intro W3 bq hb3
  obtain ⟨bo, hbo⟩ : ∃ b_, b_ = W2.heap.size := ⟨_, rfl⟩
  rw [← hbo] at bq ⊢
  have x0 := cell_to hb3 y0; have x1 := cell_to hb3 y1
  have lx : w.heap.size < W3.heap.size := Nat.lt_of_lt_of_le l1' hb3.size
  have HB3 := Lib.hid (below_to HE2.out hb3); have HBQ := Lib.hid bq; have HBO := Lib.hid (show w.heap.size ≤ bo by rw [hbo]; exact HE2.out.size)
  clear y0 y1 hb3 bq hbo l1'
  go_wp2_with fail
  refine (newFiller_any C C.toNat A ts n c A1 plan m1 c1 A2 bs m2 c2 W3 (by have := HC.out; omega) (by have := HC.out; omega) (by have := HC.out; omega) HN.out (HA.out.below HB3.out) HL.out HM1.out (HA1.out.below HB3.out) HM2.out (HA2.out.below HB3.out) HSH.out HCOL.out).mono ?_
  rintro e W9 ⟨F, rfl, hb9, -, hfil⟩
  have bq9 : BK W9 bo #[.slice none 0 0] 22 := (hb9.block _ HBQ.out.lt).trans HBQ.out
  have HB9 := Lib.hid (below_to HB3.out hb9); have HFIL := Lib.hid hfil.fia; have HBQ9 := Lib.hid bq9
  clear hb9 hfil bq9 x0 x1 lx
  go_wp2_with fail
  refine (eachF_any (X := fun k => k = bo) (J := JF W9.heap.size bo) C C.toNat A ts n c A1 plan m1 c1 A2 bs m2 c2 w W9 F bo (by have := HC.out; omega) (by have := HC.out; omega) (by have := HC.out; omega) HN.out HA.out HL.out HM1.out HA1.out HM2.out HA2.out HSH.out HCOL.out HB9.out (fun k hk => by rw [hk]; exact HBO.out) (fun k hk => by rw [hk]; exact HBQ9.out.lt) (xok_one HBQ9.out) HFIL.out (JF.vis _ _ _ _) (visitF _ _ _ rfl) ⟨trivial, _, HBQ9.out, .inl ⟨rfl, rfl⟩⟩ (by unfold visL; simp; omega)).mono ?_
  rintro e W10 ⟨⟨v9, rfl⟩, hk10, hj10⟩
  rw [fills_same _ _ _ _ (by have := HC.out; omega) HSH.out.w1 HCOL.out] at hj10
  have hB10 : Below w.heap.size w W10 := hk10.of HB9.out HB9.out.size (fun k hk => by rw [hk]; exact HBO.out)
  obtain ⟨-, v, hbv, hj⟩ := hj10
  have y9 : W10.cell? ⟨bo, 0, none⟩ = some v := hbv.cell rfl
  have HB10 := Lib.hid hB10; have hs10 := Lib.hid HB9.out.size
  clear hk10 hB10 hbv
  cases hF : fillsF C.toNat plan bs (ts.map toS) with
  | nil =>
   rw [hF] at hj
   have hv : v = .slice none 0 0 := by
    rcases hj with ⟨-, hv⟩ | ⟨rows, vs', e, -⟩
    ·exact hv
    ·simp [visL, tellF] at e
   subst hv
   have HFN := Lib.hid hF
   have hEQ := fun w => Lib.run_eql_slice_nil (P := Try.prog) w 22 56 none 0 0 0 0 Try.underlying22
   simp only [Option.isNone_none] at hEQ
   clear hj hF
   go_wp2_with fail
   go_ret2
   exact ⟨_, congrArg Ending.returned (by rw [← HFFF.out, firstF, if_pos H0.out, HFN.out]; rfl), by rw [← HFFF.out, firstF, if_pos H0.out, HFN.out]; exact ows_nil _ _, HB10.out⟩
  | cons r rs =>
   rw [hF] at hj
   obtain ⟨hl, hS⟩ : 0 < (cutR (rowLen plan 0) plan.length r).length ∧ Kd.S (Kd.slice 2 (Kd.int .i64)) 56 W10 W9.heap.size (fun k => True ∧ k ≠ bo) v (cutR (rowLen plan 0) plan.length r) := by
    rcases hj with ⟨e, -⟩ | ⟨rows, vs', e, hl, hS⟩
    ·simp [visL, tellF] at e
    ·have e2 : [cutR (rowLen plan 0) plan.length r] = vs' ++ [rows] := by simpa [visL, tellF] using e
     have e3 : vs' = [] := by
      cases vs' with
      | nil => rfl
      | cons a b => simp at e2
     subst e3
     injection e2 with e2
     subst e2
     exact ⟨hl, hS⟩
   obtain ⟨g, cap_, hv, -, -, -⟩ := Kd.S_form hS hl
   subst hv
   have HFN := Lib.hid hF; have HS := Lib.hid hS
   have hEQ := fun w => Lib.run_eql_slice_nil (P := Try.prog) w 22 56 (some ⟨g, 0, none⟩) (cutR (rowLen plan 0) plan.length r).length cap_ 0 0 Try.underlying22
   simp only [Option.isNone_some] at hEQ
   clear hj hF hS hl
   go_wp2_with fail
   go_ret2
   exact ⟨_, congrArg Ending.returned (by rw [← HFFF.out, firstF, if_pos H0.out, HFN.out]; rfl), by rw [← HFFF.out, firstF, if_pos H0.out, HFN.out]; exact ows_of_S (Kd.S_lower HS.out hs10.out), HB10.out⟩
 ·have v0 : (planR C ts plan bs != 0) = true := by simp [h0]
  have e : firstF C ts plan bs = ([], planR C ts plan bs) := by rw [firstF, if_neg h0]
  have HE := Lib.hid e; clear e
  obtain ⟨z, hz⟩ : ∃ z : Int, z = planR C ts plan bs := ⟨_, rfl⟩
  rw [← hz] at v0 h0 ⊢
  have HZ := Lib.hid hz; clear hz v0
  have v1 : ¬ z = 0 := h0
  go_wp2_with fail
  go_ret2
  exact ⟨_, congrArg Ending.returned (by rw [← HFFF.out, HE.out, ← HZ.out]; rfl), by rw [← HFFF.out, HE.out]; exact ows_nil _ _, HE2.out⟩
end Go.Proofs.Ytcaikaflpmaocaa
namespace Go.Proofs.Ytcaikaflpmaocaa
open Go Go.RowKit Go.Proofs Go.Proofs.YtcaikaflpmaocaaW.PrintWords Go.Proofs.YtcaikaflpmaocaaW.PrintMore Go.Proofs.Ytcaikaflpmaocaa.Q
set_option linter.unusedVariables false
set_option linter.unusedSimpArgs false
theorem specFirstFilling_any (C : Int) (A : Option Addr) (ts : List T4) (n c : Nat) (A1 : Option Addr) (plan : List (List Int)) (m1 c1 : Nat) (A2 : Option Addr) (bs : List (List Int)) (m2 c2 : Nat) (w : World)
 (hn : n = ts.length) (hA : RT w A ts) (hnc : n ≤ c) (hl : n ≤ 35184372088832) (hm1 : m1 = plan.length) (hA1 : RR w A1 plan) (hc1 : m1 ≤ c1) (hl1 : m1 ≤ 10000000 ∧ rowsz0 plan ≤ 10000000) (hm2 : m2 = bs.length) (hA2 : RR w A2 bs) (hc2 : m2 ≤ c2) (hl2 : m2 ≤ 10000000 ∧ rowsz0 bs ≤ 10000000) :
 Calls Try.prog 29 #[.agg #[.int .i64 C, .slice A n c], .slice A1 m1 c1, .slice A2 m2 c2] w fun e w' => ∃ v xs code, firstF C ts plan bs = (xs, code) ∧ e = .returned (.tuple #[v, .int .i64 code]) ∧ OWS w' w.heap.size w'.heap.size v xs (fun i => icells (rowAt xs i)) ∧ Below w.heap.size w w' := by
 subst hn hm1 hm2
 have hlens : ∀ k, k < bs.length → rowLen bs k ≤ 35184372088832 := by
  intro k hk
  have := rows_lens hl2.2 bs[k] (List.getElem_mem hk)
  rw [rowLen, rowAt_at hk]; omega
 obtain ⟨k, hk⟩ := (specFirst_ev C (ts.map toS) plan bs (by simpa using hl) hl1.1 hlens).rounds
 rw [map_toTS] at hk
 have h := spec_FirstFilling.calls k C A c (ts.map toS) A1 c1 plan A2 c2 bs (firstF C ts plan bs).1 (firstF C ts plan bs).2 w (C_of_rt hA (by omega)) (by simpa using hnc) (C_of_rr hA1 (by omega)) hc1 (C_of_rr hA2 (by omega)) hc2 hk
 rw [List.length_map] at h
 exact h.mono fun e w' ⟨v, he, hR, hB⟩ => ⟨v, _, _, rfl, he, ows_of_S hR, hB⟩
theorem implFirstFilling_any (C : Int) (A : Option Addr) (ts : List T4) (n c : Nat) (A1 : Option Addr) (plan : List (List Int)) (m1 c1 : Nat) (A2 : Option Addr) (bs : List (List Int)) (m2 c2 : Nat) (w : World)
 (hn : n = ts.length) (hA : RT w A ts) (hnc : n ≤ c) (hl : n ≤ 35184372088832) (hm1 : m1 = plan.length) (hA1 : RR w A1 plan) (hc1 : m1 ≤ c1) (hl1 : m1 ≤ 10000000 ∧ rowsz0 plan ≤ 10000000) (hm2 : m2 = bs.length) (hA2 : RR w A2 bs) (hc2 : m2 ≤ c2) (hl2 : m2 ≤ 10000000 ∧ rowsz0 bs ≤ 10000000) :
 Calls Try.prog 30 #[.agg #[.int .i64 C, .slice A n c], .slice A1 m1 c1, .slice A2 m2 c2] w fun e w' => ∃ v xs code, firstF C ts plan bs = (xs, code) ∧ e = .returned (.tuple #[v, .int .i64 code]) ∧ OWS w' w.heap.size w'.heap.size v xs (fun i => icells (rowAt xs i)) ∧ Below w.heap.size w w' :=
 (implFirst_any C A ts n c A1 plan m1 c1 A2 bs m2 c2 w hn hA hnc hl hm1 hA1 hc1 hl1 hm2 hA2 hc2 hl2).mono fun e w' ⟨v, he, hO, hB⟩ => ⟨v, _, _, rfl, he, hO, hB⟩
theorem tot_le9 (xs : List (List Int)) (b : Nat) (h : ∀ j, rowLen xs j ≤ b) : ∀ j, tot (rowLen xs) j ≤ j * b := by
 intro j
 induction j with
 | zero => simp [tot]
 | succ j ih => rw [tot, Nat.succ_mul]; have := h j; omega
theorem cutR_row (w : Nat) : ∀ (h : Nat) (xs : List Int) (j : Nat), rowLen (cutR w h xs) j ≤ w := by
 intro h xs j
 unfold rowLen rowAt
 by_cases hj : j < h
 ·rw [cutR_at _ _ _ _ hj]; exact List.length_take_le _ _
 ·rw [List.getD_eq_getElem?_getD, List.getElem?_eq_none (by rw [cutR_len]; omega)]; simp
theorem firstF_len (C : Int) (ts : List T4) (plan bs : List (List Int)) : (firstF C ts plan bs).1.length ≤ 1000000 ∧ rowsz0 (firstF C ts plan bs).1 ≤ 40000000 := by
 unfold firstF
 split
 ·rename_i h
  obtain ⟨-, hsh⟩ := planR_zero' h
  split
  ·exact ⟨by simp, by simp [rowsz0, tot]⟩
  ·rename_i r rs _
   have h5 := hsh.h5; have w5 := hsh.w5
   refine ⟨by rw [cutR_len]; omega, ?_⟩
   show rowsz0 (cutR (rowLen plan 0) plan.length r) ≤ 40000000
   unfold rowsz0
   rw [cutR_len]
   have h1 := tot_le9 (cutR (rowLen plan 0) plan.length r) 5 (fun j => Nat.le_trans (cutR_row _ _ _ _) w5) plan.length
   omega
 ·exact ⟨by simp, by simp [rowsz0, tot]⟩
set_option maxHeartbeats 16000000 in
set_option maxRecDepth 100000 in
theorem lawFirstFilling_any (w : World) (C0 : Int) (A0 : Option Addr) (ts0 : List T4) (n0 c0 : Nat) (hn0 : n0 = ts0.length) (hA0 : RT w A0 ts0) (hnc0 : n0 ≤ c0) (hl0 : n0 ≤ 35184372088832) (hC0 : -9223372036854775808 ≤ C0 ∧ C0 ≤ 9223372036854775807) (A1 : Option Addr) (ts1 : List (List Int)) (n1 c1 : Nat) (hn1 : n1 = ts1.length) (hA1 : RR w A1 ts1) (hnc1 : n1 ≤ c1) (hl1 : n1 ≤ 35184372088832) (A2 : Option Addr) (ts2 : List (List Int)) (n2 c2 : Nat) (hn2 : n2 = ts2.length) (hA2 : RR w A2 ts2) (hnc2 : n2 ≤ c2) (hl2 : n2 ≤ 35184372088832) :
 Calls Try.prog 8 #[.agg #[.int .i64 C0, .slice A0 n0 c0], .slice A1 n1 c1, .slice A2 n2 c2] w fun e w' => e = .returned (.bool true) ∧ Below w.heap.size w w' := by
 subst hn0
 have HA0 := Lib.hid hA0; clear hA0
 subst hn1
 have HA1 := Lib.hid hA1; clear hA1
 subst hn2
 have HA2 := Lib.hid hA2; clear hA2
 by_cases hbig0 : (1048576 : Int) < ((ts0.length : Nat) : Int)
 ·go_enter Try.func8, Try.ntmps8
  go_wp2_with fail
  refine namec1 ?_
  intro w1 b0 hz hB
  have tw1 : w.heap.size + 1 ≤ w1.heap.size := by omega
  clear hz
  have sw1 : w.heap.size ≤ w1.heap.size := hB.size
  have hE := Lib.hid (hB)
  clear hB
  refine (szSet_any C0 A0 ts0.length c0 (1048576) w1 (by omega) (by omega) (by omega)).mono ?_
  rintro e w2 ⟨rfl, hB⟩
  rw [if_pos (show (1048576 : Int) < (ts0.length : Nat) by omega)]
  replace b0 := b0.below hB b0.lt
  have sw2 : w1.heap.size ≤ w2.heap.size := hB.size
  replace hE := Lib.hid (below_to hE.out hB)
  clear hB
  go_wp2_with fail
  go_ret
  exact ⟨rfl, hE.out⟩
 ·replace hbig0 : ((ts0.length : Nat) : Int) ≤ 1048576 := by omega
  by_cases hbig1 : ((1048576 - ((ts0.length : Nat) : Int)) : Int) < (((ts1.length + rowsz0 ts1) : Nat) : Int)
  ·go_enter Try.func8, Try.ntmps8
   go_wp2_with fail
   refine namec1 ?_
   intro w1 b0 hz hB
   have tw1 : w.heap.size + 1 ≤ w1.heap.size := by omega
   clear hz
   have sw1 : w.heap.size ≤ w1.heap.size := hB.size
   have hE := Lib.hid (hB)
   clear hB
   refine (szSet_any C0 A0 ts0.length c0 (1048576) w1 (by omega) (by omega) (by omega)).mono ?_
   rintro e w2 ⟨rfl, hB⟩
   rw [if_neg (show ¬ (1048576 : Int) < (ts0.length : Nat) by omega)]
   replace b0 := b0.below hB b0.lt
   have sw2 : w1.heap.size ≤ w2.heap.size := hB.size
   replace hE := Lib.hid (below_to hE.out hB)
   clear hB
   have l0 := b0.lt
   have c0_0 : w2.cell? ⟨w.heap.size, 0, none⟩ = some (.int .i64 C0) := b0.cell rfl
   have c0_1 : w2.cell? ⟨w.heap.size, 1, none⟩ = some (.slice A0 ts0.length c0) := b0.cell rfl
   go_wp2_with fail
   clear l0 c0_0 c0_1
   refine (szInt64SS_any A1 ts1 ts1.length c1 ((1048576 - ((ts0.length : Nat) : Int))) w2 rfl (HA1.out.below hE.out) hnc1 (by omega) (by omega) (by omega)).mono ?_
   rintro e w3 ⟨rfl, hB⟩
   rw [if_pos (show ((1048576 - ((ts0.length : Nat) : Int)) : Int) < ((ts1.length + rowsz0 ts1) : Nat) by omega)]
   replace b0 := b0.below hB b0.lt
   have sw3 : w2.heap.size ≤ w3.heap.size := hB.size
   replace hE := Lib.hid (below_to hE.out hB)
   clear hB
   go_wp2_with fail
   go_ret
   exact ⟨rfl, hE.out⟩
  ·replace hbig1 : (((ts1.length + rowsz0 ts1) : Nat) : Int) ≤ (1048576 - ((ts0.length : Nat) : Int)) := by omega
   by_cases hbig2 : (((1048576 - ((ts0.length : Nat) : Int)) - (((ts1.length + rowsz0 ts1) : Nat) : Int)) : Int) < (((ts2.length + rowsz0 ts2) : Nat) : Int)
   ·go_enter Try.func8, Try.ntmps8
    go_wp2_with fail
    refine namec1 ?_
    intro w1 b0 hz hB
    have tw1 : w.heap.size + 1 ≤ w1.heap.size := by omega
    clear hz
    have sw1 : w.heap.size ≤ w1.heap.size := hB.size
    have hE := Lib.hid (hB)
    clear hB
    refine (szSet_any C0 A0 ts0.length c0 (1048576) w1 (by omega) (by omega) (by omega)).mono ?_
    rintro e w2 ⟨rfl, hB⟩
    rw [if_neg (show ¬ (1048576 : Int) < (ts0.length : Nat) by omega)]
    replace b0 := b0.below hB b0.lt
    have sw2 : w1.heap.size ≤ w2.heap.size := hB.size
    replace hE := Lib.hid (below_to hE.out hB)
    clear hB
    have l0 := b0.lt
    have c0_0 : w2.cell? ⟨w.heap.size, 0, none⟩ = some (.int .i64 C0) := b0.cell rfl
    have c0_1 : w2.cell? ⟨w.heap.size, 1, none⟩ = some (.slice A0 ts0.length c0) := b0.cell rfl
    go_wp2_with fail
    clear l0 c0_0 c0_1
    refine (szInt64SS_any A1 ts1 ts1.length c1 ((1048576 - ((ts0.length : Nat) : Int))) w2 rfl (HA1.out.below hE.out) hnc1 (by omega) (by omega) (by omega)).mono ?_
    rintro e w3 ⟨rfl, hB⟩
    rw [if_neg (show ¬ ((1048576 - ((ts0.length : Nat) : Int)) : Int) < ((ts1.length + rowsz0 ts1) : Nat) by omega)]
    replace b0 := b0.below hB b0.lt
    have sw3 : w2.heap.size ≤ w3.heap.size := hB.size
    replace hE := Lib.hid (below_to hE.out hB)
    clear hB
    have l0 := b0.lt
    have c0_0 : w3.cell? ⟨w.heap.size, 0, none⟩ = some (.int .i64 C0) := b0.cell rfl
    have c0_1 : w3.cell? ⟨w.heap.size, 1, none⟩ = some (.slice A0 ts0.length c0) := b0.cell rfl
    go_wp2_with fail
    clear l0 c0_0 c0_1
    refine (szInt64SS_any A2 ts2 ts2.length c2 (((1048576 - ((ts0.length : Nat) : Int)) - (((ts1.length + rowsz0 ts1) : Nat) : Int))) w3 rfl (HA2.out.below hE.out) hnc2 (by omega) (by omega) (by omega)).mono ?_
    rintro e w4 ⟨rfl, hB⟩
    rw [if_pos (show (((1048576 - ((ts0.length : Nat) : Int)) - (((ts1.length + rowsz0 ts1) : Nat) : Int)) : Int) < ((ts2.length + rowsz0 ts2) : Nat) by omega)]
    replace b0 := b0.below hB b0.lt
    have sw4 : w3.heap.size ≤ w4.heap.size := hB.size
    replace hE := Lib.hid (below_to hE.out hB)
    clear hB
    go_wp2_with fail
    go_ret
    exact ⟨rfl, hE.out⟩
   ·replace hbig2 : (((ts2.length + rowsz0 ts2) : Nat) : Int) ≤ ((1048576 - ((ts0.length : Nat) : Int)) - (((ts1.length + rowsz0 ts1) : Nat) : Int)) := by omega
    obtain ⟨r_, hr_⟩ : ∃ r, firstF C0 ts0 ts1 ts2 = r := ⟨_, rfl⟩
    obtain ⟨r1, r2⟩ := r_
    have hb1 : r1.length ≤ 1000000 ∧ rowsz0 r1 ≤ 40000000 := by have h_ := firstF_len C0 ts0 ts1 ts2; rw [hr_] at h_; exact h_
    have HR := Lib.hid hr_; clear hr_
    go_enter Try.func8, Try.ntmps8
    go_wp2_with fail
    refine namec1 ?_
    intro w1 b0 hz hB
    have tw1 : w.heap.size + 1 ≤ w1.heap.size := by omega
    clear hz
    have sw1 : w.heap.size ≤ w1.heap.size := hB.size
    have hE := Lib.hid (hB)
    clear hB
    refine (szSet_any C0 A0 ts0.length c0 (1048576) w1 (by omega) (by omega) (by omega)).mono ?_
    rintro e w2 ⟨rfl, hB⟩
    rw [if_neg (show ¬ (1048576 : Int) < (ts0.length : Nat) by omega)]
    replace b0 := b0.below hB b0.lt
    have sw2 : w1.heap.size ≤ w2.heap.size := hB.size
    replace hE := Lib.hid (below_to hE.out hB)
    clear hB
    have l0 := b0.lt
    have c0_0 : w2.cell? ⟨w.heap.size, 0, none⟩ = some (.int .i64 C0) := b0.cell rfl
    have c0_1 : w2.cell? ⟨w.heap.size, 1, none⟩ = some (.slice A0 ts0.length c0) := b0.cell rfl
    go_wp2_with fail
    clear l0 c0_0 c0_1
    refine (szInt64SS_any A1 ts1 ts1.length c1 ((1048576 - ((ts0.length : Nat) : Int))) w2 rfl (HA1.out.below hE.out) hnc1 (by omega) (by omega) (by omega)).mono ?_
    rintro e w3 ⟨rfl, hB⟩
    rw [if_neg (show ¬ ((1048576 - ((ts0.length : Nat) : Int)) : Int) < ((ts1.length + rowsz0 ts1) : Nat) by omega)]
    replace b0 := b0.below hB b0.lt
    have sw3 : w2.heap.size ≤ w3.heap.size := hB.size
    replace hE := Lib.hid (below_to hE.out hB)
    clear hB
    have l0 := b0.lt
    have c0_0 : w3.cell? ⟨w.heap.size, 0, none⟩ = some (.int .i64 C0) := b0.cell rfl
    have c0_1 : w3.cell? ⟨w.heap.size, 1, none⟩ = some (.slice A0 ts0.length c0) := b0.cell rfl
    go_wp2_with fail
    clear l0 c0_0 c0_1
    refine (szInt64SS_any A2 ts2 ts2.length c2 (((1048576 - ((ts0.length : Nat) : Int)) - (((ts1.length + rowsz0 ts1) : Nat) : Int))) w3 rfl (HA2.out.below hE.out) hnc2 (by omega) (by omega) (by omega)).mono ?_
    rintro e w4 ⟨rfl, hB⟩
    rw [if_neg (show ¬ (((1048576 - ((ts0.length : Nat) : Int)) - (((ts1.length + rowsz0 ts1) : Nat) : Int)) : Int) < ((ts2.length + rowsz0 ts2) : Nat) by omega)]
    replace b0 := b0.below hB b0.lt
    have sw4 : w3.heap.size ≤ w4.heap.size := hB.size
    replace hE := Lib.hid (below_to hE.out hB)
    clear hB
    have l0 := b0.lt
    have c0_0 : w4.cell? ⟨w.heap.size, 0, none⟩ = some (.int .i64 C0) := b0.cell rfl
    have c0_1 : w4.cell? ⟨w.heap.size, 1, none⟩ = some (.slice A0 ts0.length c0) := b0.cell rfl
    go_wp2_with fail
    clear l0 c0_0 c0_1
    refine (toSet_any C0 A0 ts0 ts0.length c0 w4 rfl (HA0.out.below hE.out) (by omega)).mono ?_
    rintro e w5 ⟨v_, rfl, hO, hB⟩
    obtain ⟨A1_, c1_, rfl, -, -⟩ := hO.reads
    have O1 := Lib.hid (OW.of hO)
    clear hO
    replace b0 := b0.below hB b0.lt
    have sw5 : w4.heap.size ≤ w5.heap.size := hB.size
    replace hE := Lib.hid (below_to hE.out hB)
    clear hB
    have l0 := b0.lt
    have c0_0 : w5.cell? ⟨w.heap.size, 0, none⟩ = some (.int .i64 C0) := b0.cell rfl
    have c0_1 : w5.cell? ⟨w.heap.size, 1, none⟩ = some (.slice A0 ts0.length c0) := b0.cell rfl
    go_wp2_with fail
    clear l0 c0_0 c0_1
    refine (toInt64SS_any A1 ts1 ts1.length c1 w5 rfl (HA1.out.below hE.out) hnc1 (by omega)).mono ?_
    rintro e w6 ⟨v_, rfl, hO, hB⟩
    obtain ⟨A2_, c2_, rfl⟩ := hO.form0
    have O2 := Lib.hid hO
    clear hO
    replace b0 := b0.below hB b0.lt
    replace O1 := Lib.hid (O1.out.to hB)
    have sw6 : w5.heap.size ≤ w6.heap.size := hB.size
    replace hE := Lib.hid (below_to hE.out hB)
    clear hB
    have l0 := b0.lt
    have c0_0 : w6.cell? ⟨w.heap.size, 0, none⟩ = some (.int .i64 C0) := b0.cell rfl
    have c0_1 : w6.cell? ⟨w.heap.size, 1, none⟩ = some (.slice A0 ts0.length c0) := b0.cell rfl
    go_wp2_with fail
    clear l0 c0_0 c0_1
    refine (toInt64SS_any A2 ts2 ts2.length c2 w6 rfl (HA2.out.below hE.out) hnc2 (by omega)).mono ?_
    rintro e w7 ⟨v_, rfl, hO, hB⟩
    obtain ⟨A3_, c3_, rfl⟩ := hO.form0
    have O3 := Lib.hid hO
    clear hO
    replace b0 := b0.below hB b0.lt
    replace O1 := Lib.hid (O1.out.to hB)
    replace O2 := Lib.hid (O2.out.to hB)
    have sw7 : w6.heap.size ≤ w7.heap.size := hB.size
    replace hE := Lib.hid (below_to hE.out hB)
    clear hB
    have l0 := b0.lt
    have c0_0 : w7.cell? ⟨w.heap.size, 0, none⟩ = some (.int .i64 C0) := b0.cell rfl
    have c0_1 : w7.cell? ⟨w.heap.size, 1, none⟩ = some (.slice A0 ts0.length c0) := b0.cell rfl
    go_wp2_with fail
    clear l0 c0_0 c0_1
    refine (specFirstFilling_any C0 A1_ ts0 ts0.length c1_ A2_ ts1 ts1.length c2_ A3_ ts2 ts2.length c3_ w7 rfl (rt_of O1.out rfl) (le_of O1.out) (by omega) rfl (rr_of O2.out rfl) (le_ofS O2.out) (by omega) rfl (rr_of O3.out rfl) (le_ofS O3.out) (by omega)).mono ?_
    rintro e w8 ⟨v0_, x0_, x1_, hR_, rfl, hO0, hB⟩
    obtain ⟨rfl, rfl⟩ : r1 = x0_ ∧ r2 = x1_ := (by have h_ := HR.out.symm.trans hR_; simpa using h_)
    clear hR_
    obtain ⟨A4_, c4_, rfl⟩ := hO0.form0
    have O4 := Lib.hid hO0
    clear hO0
    replace b0 := b0.below hB b0.lt
    replace O1 := Lib.hid (O1.out.to hB)
    replace O2 := Lib.hid (O2.out.to hB)
    replace O3 := Lib.hid (O3.out.to hB)
    have sw8 : w7.heap.size ≤ w8.heap.size := hB.size
    replace hE := Lib.hid (below_to hE.out hB)
    clear hB
    have l0 := b0.lt
    have c0_0 : w8.cell? ⟨w.heap.size, 0, none⟩ = some (.int .i64 C0) := b0.cell rfl
    have c0_1 : w8.cell? ⟨w.heap.size, 1, none⟩ = some (.slice A0 ts0.length c0) := b0.cell rfl
    go_wp2_with fail
    clear l0 c0_0 c0_1
    refine (toSet_any C0 A0 ts0 ts0.length c0 w8 rfl (HA0.out.below hE.out) (by omega)).mono ?_
    rintro e w9 ⟨v_, rfl, hO, hB⟩
    obtain ⟨A5_, c5_, rfl, -, -⟩ := hO.reads
    have O5 := Lib.hid (OW.of hO)
    clear hO
    replace b0 := b0.below hB b0.lt
    replace O1 := Lib.hid (O1.out.to hB)
    replace O2 := Lib.hid (O2.out.to hB)
    replace O3 := Lib.hid (O3.out.to hB)
    replace O4 := Lib.hid (O4.out.to hB)
    have sw9 : w8.heap.size ≤ w9.heap.size := hB.size
    replace hE := Lib.hid (below_to hE.out hB)
    clear hB
    have l0 := b0.lt
    have c0_0 : w9.cell? ⟨w.heap.size, 0, none⟩ = some (.int .i64 C0) := b0.cell rfl
    have c0_1 : w9.cell? ⟨w.heap.size, 1, none⟩ = some (.slice A0 ts0.length c0) := b0.cell rfl
    go_wp2_with fail
    clear l0 c0_0 c0_1
    refine namec1 ?_
    intro w10 b1 hz hB
    have tw10 : w9.heap.size + 1 ≤ w10.heap.size := by omega
    clear hz
    replace b0 := b0.below hB b0.lt
    replace O1 := Lib.hid (O1.out.to hB)
    replace O2 := Lib.hid (O2.out.to hB)
    replace O3 := Lib.hid (O3.out.to hB)
    replace O4 := Lib.hid (O4.out.to hB)
    replace O5 := Lib.hid (O5.out.to hB)
    have sw10 : w9.heap.size ≤ w10.heap.size := hB.size
    replace hE := Lib.hid (below_to hE.out hB)
    clear hB
    refine (toInt64SS_any A1 ts1 ts1.length c1 w10 rfl (HA1.out.below hE.out) hnc1 (by omega)).mono ?_
    rintro e w11 ⟨v_, rfl, hO, hB⟩
    obtain ⟨A6_, c6_, rfl⟩ := hO.form0
    have O6 := Lib.hid hO
    clear hO
    replace b0 := b0.below hB b0.lt
    replace b1 := b1.below hB b1.lt
    replace O1 := Lib.hid (O1.out.to hB)
    replace O2 := Lib.hid (O2.out.to hB)
    replace O3 := Lib.hid (O3.out.to hB)
    replace O4 := Lib.hid (O4.out.to hB)
    replace O5 := Lib.hid (O5.out.to hB)
    have sw11 : w10.heap.size ≤ w11.heap.size := hB.size
    replace hE := Lib.hid (below_to hE.out hB)
    clear hB
    have l0 := b0.lt
    have c0_0 : w11.cell? ⟨w.heap.size, 0, none⟩ = some (.int .i64 C0) := b0.cell rfl
    have c0_1 : w11.cell? ⟨w.heap.size, 1, none⟩ = some (.slice A0 ts0.length c0) := b0.cell rfl
    have l1 := b1.lt
    have c1_0 : w11.cell? ⟨w9.heap.size, 0, none⟩ = some (.int .i64 C0) := b1.cell rfl
    have c1_1 : w11.cell? ⟨w9.heap.size, 1, none⟩ = some (.slice A5_ ts0.length c5_) := b1.cell rfl
    go_wp2_with fail
    clear l0 c0_0 c0_1 l1 c1_0 c1_1
    refine (toInt64SS_any A2 ts2 ts2.length c2 w11 rfl (HA2.out.below hE.out) hnc2 (by omega)).mono ?_
    rintro e w12 ⟨v_, rfl, hO, hB⟩
    obtain ⟨A7_, c7_, rfl⟩ := hO.form0
    have O7 := Lib.hid hO
    clear hO
    replace b0 := b0.below hB b0.lt
    replace b1 := b1.below hB b1.lt
    replace O1 := Lib.hid (O1.out.to hB)
    replace O2 := Lib.hid (O2.out.to hB)
    replace O3 := Lib.hid (O3.out.to hB)
    replace O4 := Lib.hid (O4.out.to hB)
    replace O5 := Lib.hid (O5.out.to hB)
    replace O6 := Lib.hid (O6.out.to hB)
    have sw12 : w11.heap.size ≤ w12.heap.size := hB.size
    replace hE := Lib.hid (below_to hE.out hB)
    clear hB
    have l0 := b0.lt
    have c0_0 : w12.cell? ⟨w.heap.size, 0, none⟩ = some (.int .i64 C0) := b0.cell rfl
    have c0_1 : w12.cell? ⟨w.heap.size, 1, none⟩ = some (.slice A0 ts0.length c0) := b0.cell rfl
    have l1 := b1.lt
    have c1_0 : w12.cell? ⟨w9.heap.size, 0, none⟩ = some (.int .i64 C0) := b1.cell rfl
    have c1_1 : w12.cell? ⟨w9.heap.size, 1, none⟩ = some (.slice A5_ ts0.length c5_) := b1.cell rfl
    go_wp2_with fail
    clear l0 c0_0 c0_1 l1 c1_0 c1_1
    refine (implFirstFilling_any C0 A5_ ts0 ts0.length c5_ A6_ ts1 ts1.length c6_ A7_ ts2 ts2.length c7_ w12 rfl (rt_of O5.out rfl) (le_of O5.out) (by omega) rfl (rr_of O6.out rfl) (le_ofS O6.out) (by omega) rfl (rr_of O7.out rfl) (le_ofS O7.out) (by omega)).mono ?_
    rintro e w13 ⟨v0_, x0_, x1_, hR_, rfl, hO0, hB⟩
    obtain ⟨rfl, rfl⟩ : r1 = x0_ ∧ r2 = x1_ := (by have h_ := HR.out.symm.trans hR_; simpa using h_)
    clear hR_
    obtain ⟨A8_, c8_, rfl⟩ := hO0.form0
    have O8 := Lib.hid hO0
    clear hO0
    replace b0 := b0.below hB b0.lt
    replace b1 := b1.below hB b1.lt
    replace O1 := Lib.hid (O1.out.to hB)
    replace O2 := Lib.hid (O2.out.to hB)
    replace O3 := Lib.hid (O3.out.to hB)
    replace O4 := Lib.hid (O4.out.to hB)
    replace O5 := Lib.hid (O5.out.to hB)
    replace O6 := Lib.hid (O6.out.to hB)
    replace O7 := Lib.hid (O7.out.to hB)
    have sw13 : w12.heap.size ≤ w13.heap.size := hB.size
    replace hE := Lib.hid (below_to hE.out hB)
    clear hB
    have l0 := b0.lt
    have c0_0 : w13.cell? ⟨w.heap.size, 0, none⟩ = some (.int .i64 C0) := b0.cell rfl
    have c0_1 : w13.cell? ⟨w.heap.size, 1, none⟩ = some (.slice A0 ts0.length c0) := b0.cell rfl
    have l1 := b1.lt
    have c1_0 : w13.cell? ⟨w9.heap.size, 0, none⟩ = some (.int .i64 C0) := b1.cell rfl
    have c1_1 : w13.cell? ⟨w9.heap.size, 1, none⟩ = some (.slice A5_ ts0.length c5_) := b1.cell rfl
    go_wp2_with fail
    clear l0 c0_0 c0_1 l1 c1_0 c1_1
    refine (eqInt64SS_any A8_ A4_ r1 r1 r1.length r1.length c8_ c4_ w13 rfl rfl (rr_of O8.out rfl) (rr_of O4.out rfl) (by omega) (by omega)).mono ?_
    rintro e w14 ⟨rfl, hB⟩
    simp only [decide_true, Bool.and_self]
    replace b0 := b0.below hB b0.lt
    replace b1 := b1.below hB b1.lt
    replace O1 := Lib.hid (O1.out.to hB)
    replace O2 := Lib.hid (O2.out.to hB)
    replace O3 := Lib.hid (O3.out.to hB)
    replace O4 := Lib.hid (O4.out.to hB)
    replace O5 := Lib.hid (O5.out.to hB)
    replace O6 := Lib.hid (O6.out.to hB)
    replace O7 := Lib.hid (O7.out.to hB)
    replace O8 := Lib.hid (O8.out.to hB)
    have sw14 : w13.heap.size ≤ w14.heap.size := hB.size
    replace hE := Lib.hid (below_to hE.out hB)
    clear hB
    have l0 := b0.lt
    have c0_0 : w14.cell? ⟨w.heap.size, 0, none⟩ = some (.int .i64 C0) := b0.cell rfl
    have c0_1 : w14.cell? ⟨w.heap.size, 1, none⟩ = some (.slice A0 ts0.length c0) := b0.cell rfl
    have l1 := b1.lt
    have c1_0 : w14.cell? ⟨w9.heap.size, 0, none⟩ = some (.int .i64 C0) := b1.cell rfl
    have c1_1 : w14.cell? ⟨w9.heap.size, 1, none⟩ = some (.slice A5_ ts0.length c5_) := b1.cell rfl
    go_wp2_with fail
    clear l0 c0_0 c0_1 l1 c1_0 c1_1
    have hD : Below w14.heap.size w14 w14.drew := (Below.refl _ _).drew
    replace b0 := b0.below hD b0.lt
    replace b1 := b1.below hD b1.lt
    replace O1 := Lib.hid (O1.out.to hD)
    replace O2 := Lib.hid (O2.out.to hD)
    replace O3 := Lib.hid (O3.out.to hD)
    replace O4 := Lib.hid (O4.out.to hD)
    replace O5 := Lib.hid (O5.out.to hD)
    replace O6 := Lib.hid (O6.out.to hD)
    replace O7 := Lib.hid (O7.out.to hD)
    replace O8 := Lib.hid (O8.out.to hD)
    replace hE := Lib.hid (below_to hE.out hD)
    clear hD
    have d1_w14 : w14.heap.size ≤ w14.drew.heap.size := Nat.le_refl _
    have d2_w14 : w14.drew.heap.size ≤ w14.heap.size := Nat.le_refl _
    go_region_held3 (fun w_ => w_.cell? ⟨w.heap.size, 0, none⟩ = some (.int .i64 C0) ∧ w_.cell? ⟨w.heap.size, 1, none⟩ = some (.slice A0 ts0.length c0) ∧ w_.cell? ⟨w9.heap.size, 0, none⟩ = some (.int .i64 C0) ∧ w_.cell? ⟨w9.heap.size, 1, none⟩ = some (.slice A5_ ts0.length c5_)) (first | exact ⟨b0.cell rfl, b0.cell rfl, b1.cell rfl, b1.cell rfl⟩)
     (first
      | (go_at_call 17; refine (toSet_any C0 A0 ts0 ts0.length c0 w14.drew rfl (HA0.out.below hE.out) (by omega)).mono ?_; rintro e w15 ⟨v_, rfl, hO, hB⟩; obtain ⟨A9_, c9_, rfl, -, -⟩ := hO.reads; have O9 := Lib.hid (OW.of hO); clear hO; replace b0 := b0.below hB b0.lt; replace b1 := b1.below hB b1.lt; replace O1 := Lib.hid (O1.out.to hB); replace O2 := Lib.hid (O2.out.to hB); replace O3 := Lib.hid (O3.out.to hB); replace O4 := Lib.hid (O4.out.to hB); replace O5 := Lib.hid (O5.out.to hB); replace O6 := Lib.hid (O6.out.to hB); replace O7 := Lib.hid (O7.out.to hB); replace O8 := Lib.hid (O8.out.to hB); have sw15 : w14.drew.heap.size ≤ w15.heap.size := hB.size; replace hE := Lib.hid (below_to hE.out hB); clear hB)
      | (go_at_call 19; refine (eqSet_any C0 C0 A5_ A9_ ts0 ts0 ts0.length ts0.length c5_ c9_ w15 rfl rfl (rt_of O5.out rfl) (rt_of O9.out rfl) (by omega) (by omega)).mono ?_; rintro e w16 ⟨rfl, hB⟩; simp only [decide_true, Bool.and_self]; replace b0 := b0.below hB b0.lt; replace b1 := b1.below hB b1.lt; replace O1 := Lib.hid (O1.out.to hB); replace O2 := Lib.hid (O2.out.to hB); replace O3 := Lib.hid (O3.out.to hB); replace O4 := Lib.hid (O4.out.to hB); replace O5 := Lib.hid (O5.out.to hB); replace O6 := Lib.hid (O6.out.to hB); replace O7 := Lib.hid (O7.out.to hB); replace O8 := Lib.hid (O8.out.to hB); replace O9 := Lib.hid (O9.out.to hB); have sw16 : w15.heap.size ≤ w16.heap.size := hB.size; replace hE := Lib.hid (below_to hE.out hB); clear hB))
    have l0 := b0.lt
    have c0_0 : w16.cell? ⟨w.heap.size, 0, none⟩ = some (.int .i64 C0) := b0.cell rfl
    have c0_1 : w16.cell? ⟨w.heap.size, 1, none⟩ = some (.slice A0 ts0.length c0) := b0.cell rfl
    have l1 := b1.lt
    have c1_0 : w16.cell? ⟨w9.heap.size, 0, none⟩ = some (.int .i64 C0) := b1.cell rfl
    have c1_1 : w16.cell? ⟨w9.heap.size, 1, none⟩ = some (.slice A5_ ts0.length c5_) := b1.cell rfl
    go_wp2_with fail
    clear l0 c0_0 c0_1 l1 c1_0 c1_1
    refine (toInt64SS_any A1 ts1 ts1.length c1 w16 rfl (HA1.out.below hE.out) hnc1 (by omega)).mono ?_
    rintro e w17 ⟨v_, rfl, hO, hB⟩
    obtain ⟨A10_, c10_, rfl⟩ := hO.form0
    have O10 := Lib.hid hO
    clear hO
    replace b0 := b0.below hB b0.lt
    replace b1 := b1.below hB b1.lt
    replace O1 := Lib.hid (O1.out.to hB)
    replace O2 := Lib.hid (O2.out.to hB)
    replace O3 := Lib.hid (O3.out.to hB)
    replace O4 := Lib.hid (O4.out.to hB)
    replace O5 := Lib.hid (O5.out.to hB)
    replace O6 := Lib.hid (O6.out.to hB)
    replace O7 := Lib.hid (O7.out.to hB)
    replace O8 := Lib.hid (O8.out.to hB)
    replace O9 := Lib.hid (O9.out.to hB)
    have sw17 : w16.heap.size ≤ w17.heap.size := hB.size
    replace hE := Lib.hid (below_to hE.out hB)
    clear hB
    have l0 := b0.lt
    have c0_0 : w17.cell? ⟨w.heap.size, 0, none⟩ = some (.int .i64 C0) := b0.cell rfl
    have c0_1 : w17.cell? ⟨w.heap.size, 1, none⟩ = some (.slice A0 ts0.length c0) := b0.cell rfl
    have l1 := b1.lt
    have c1_0 : w17.cell? ⟨w9.heap.size, 0, none⟩ = some (.int .i64 C0) := b1.cell rfl
    have c1_1 : w17.cell? ⟨w9.heap.size, 1, none⟩ = some (.slice A5_ ts0.length c5_) := b1.cell rfl
    go_wp2_with fail
    clear l0 c0_0 c0_1 l1 c1_0 c1_1
    refine (eqInt64SS_any A6_ A10_ ts1 ts1 ts1.length ts1.length c6_ c10_ w17 rfl rfl (rr_of O6.out rfl) (rr_of O10.out rfl) (by omega) (by omega)).mono ?_
    rintro e w18 ⟨rfl, hB⟩
    simp only [decide_true, Bool.and_self]
    replace b0 := b0.below hB b0.lt
    replace b1 := b1.below hB b1.lt
    replace O1 := Lib.hid (O1.out.to hB)
    replace O2 := Lib.hid (O2.out.to hB)
    replace O3 := Lib.hid (O3.out.to hB)
    replace O4 := Lib.hid (O4.out.to hB)
    replace O5 := Lib.hid (O5.out.to hB)
    replace O6 := Lib.hid (O6.out.to hB)
    replace O7 := Lib.hid (O7.out.to hB)
    replace O8 := Lib.hid (O8.out.to hB)
    replace O9 := Lib.hid (O9.out.to hB)
    replace O10 := Lib.hid (O10.out.to hB)
    have sw18 : w17.heap.size ≤ w18.heap.size := hB.size
    replace hE := Lib.hid (below_to hE.out hB)
    clear hB
    have l0 := b0.lt
    have c0_0 : w18.cell? ⟨w.heap.size, 0, none⟩ = some (.int .i64 C0) := b0.cell rfl
    have c0_1 : w18.cell? ⟨w.heap.size, 1, none⟩ = some (.slice A0 ts0.length c0) := b0.cell rfl
    have l1 := b1.lt
    have c1_0 : w18.cell? ⟨w9.heap.size, 0, none⟩ = some (.int .i64 C0) := b1.cell rfl
    have c1_1 : w18.cell? ⟨w9.heap.size, 1, none⟩ = some (.slice A5_ ts0.length c5_) := b1.cell rfl
    go_wp2_with fail
    clear l0 c0_0 c0_1 l1 c1_0 c1_1
    refine (toInt64SS_any A2 ts2 ts2.length c2 w18 rfl (HA2.out.below hE.out) hnc2 (by omega)).mono ?_
    rintro e w19 ⟨v_, rfl, hO, hB⟩
    obtain ⟨A11_, c11_, rfl⟩ := hO.form0
    have O11 := Lib.hid hO
    clear hO
    replace b0 := b0.below hB b0.lt
    replace b1 := b1.below hB b1.lt
    replace O1 := Lib.hid (O1.out.to hB)
    replace O2 := Lib.hid (O2.out.to hB)
    replace O3 := Lib.hid (O3.out.to hB)
    replace O4 := Lib.hid (O4.out.to hB)
    replace O5 := Lib.hid (O5.out.to hB)
    replace O6 := Lib.hid (O6.out.to hB)
    replace O7 := Lib.hid (O7.out.to hB)
    replace O8 := Lib.hid (O8.out.to hB)
    replace O9 := Lib.hid (O9.out.to hB)
    replace O10 := Lib.hid (O10.out.to hB)
    have sw19 : w18.heap.size ≤ w19.heap.size := hB.size
    replace hE := Lib.hid (below_to hE.out hB)
    clear hB
    have l0 := b0.lt
    have c0_0 : w19.cell? ⟨w.heap.size, 0, none⟩ = some (.int .i64 C0) := b0.cell rfl
    have c0_1 : w19.cell? ⟨w.heap.size, 1, none⟩ = some (.slice A0 ts0.length c0) := b0.cell rfl
    have l1 := b1.lt
    have c1_0 : w19.cell? ⟨w9.heap.size, 0, none⟩ = some (.int .i64 C0) := b1.cell rfl
    have c1_1 : w19.cell? ⟨w9.heap.size, 1, none⟩ = some (.slice A5_ ts0.length c5_) := b1.cell rfl
    go_wp2_with fail
    clear l0 c0_0 c0_1 l1 c1_0 c1_1
    refine (eqInt64SS_any A7_ A11_ ts2 ts2 ts2.length ts2.length c7_ c11_ w19 rfl rfl (rr_of O7.out rfl) (rr_of O11.out rfl) (by omega) (by omega)).mono ?_
    rintro e w20 ⟨rfl, hB⟩
    simp only [decide_true, Bool.and_self]
    replace b0 := b0.below hB b0.lt
    replace b1 := b1.below hB b1.lt
    replace O1 := Lib.hid (O1.out.to hB)
    replace O2 := Lib.hid (O2.out.to hB)
    replace O3 := Lib.hid (O3.out.to hB)
    replace O4 := Lib.hid (O4.out.to hB)
    replace O5 := Lib.hid (O5.out.to hB)
    replace O6 := Lib.hid (O6.out.to hB)
    replace O7 := Lib.hid (O7.out.to hB)
    replace O8 := Lib.hid (O8.out.to hB)
    replace O9 := Lib.hid (O9.out.to hB)
    replace O10 := Lib.hid (O10.out.to hB)
    replace O11 := Lib.hid (O11.out.to hB)
    have sw20 : w19.heap.size ≤ w20.heap.size := hB.size
    replace hE := Lib.hid (below_to hE.out hB)
    clear hB
    have l0 := b0.lt
    have c0_0 : w20.cell? ⟨w.heap.size, 0, none⟩ = some (.int .i64 C0) := b0.cell rfl
    have c0_1 : w20.cell? ⟨w.heap.size, 1, none⟩ = some (.slice A0 ts0.length c0) := b0.cell rfl
    have l1 := b1.lt
    have c1_0 : w20.cell? ⟨w9.heap.size, 0, none⟩ = some (.int .i64 C0) := b1.cell rfl
    have c1_1 : w20.cell? ⟨w9.heap.size, 1, none⟩ = some (.slice A5_ ts0.length c5_) := b1.cell rfl
    go_wp2_with fail
    clear l0 c0_0 c0_1 l1 c1_0 c1_1
    obtain ⟨m_O5, hm_O5⟩ : ∃ m, m = ts0.length * 4 := ⟨_, rfl⟩
    have bm_O5 : m_O5 ≤ 40000000 := by omega
    have Hm_O5 := Lib.hid hm_O5; clear hm_O5
    refine (markSet_m w8.heap.size w9.heap.size C0 (.slice A5_ ts0.length c5_) ts0.length m_O5 (tcells ts0) (1) w20 Hm_O5.out O5.out (by omega) (by omega) (by omega)).mono ?_
    rintro e w21 ⟨rfl, hO, hK⟩
    clear O5
    have O5 := Lib.hid hO
    clear hO
    replace b0 := b0.only hK (by omega)
    replace b1 := b1.only hK (by omega)
    replace O1 := Lib.hid (O1.out.only hK (by omega))
    replace O2 := Lib.hid (O2.out.only hK (by omega))
    replace O3 := Lib.hid (O3.out.only hK (by omega))
    replace O4 := Lib.hid (O4.out.only hK (by omega))
    replace O6 := Lib.hid (O6.out.only hK (by omega))
    replace O7 := Lib.hid (O7.out.only hK (by omega))
    replace O8 := Lib.hid (O8.out.only hK (by omega))
    replace O9 := Lib.hid (O9.out.only hK (by omega))
    replace O10 := Lib.hid (O10.out.only hK (by omega))
    replace O11 := Lib.hid (O11.out.only hK (by omega))
    have sw21 : w20.heap.size ≤ w21.heap.size := hK.size
    replace hE := Lib.hid (below_only hE.out hK (by omega))
    clear hK
    have l0 := b0.lt
    have c0_0 : w21.cell? ⟨w.heap.size, 0, none⟩ = some (.int .i64 C0) := b0.cell rfl
    have c0_1 : w21.cell? ⟨w.heap.size, 1, none⟩ = some (.slice A0 ts0.length c0) := b0.cell rfl
    have l1 := b1.lt
    have c1_0 : w21.cell? ⟨w9.heap.size, 0, none⟩ = some (.int .i64 C0) := b1.cell rfl
    have c1_1 : w21.cell? ⟨w9.heap.size, 1, none⟩ = some (.slice A5_ ts0.length c5_) := b1.cell rfl
    go_wp2_with fail
    clear l0 c0_0 c0_1 l1 c1_0 c1_1
    obtain ⟨m_O6, hm_O6⟩ : ∃ m, m = rowsz0 ts1 := ⟨_, rfl⟩
    have bm_O6 : m_O6 ≤ 40000000 := by have := (show rowsz0 ts1 ≤ 40000000 by omega); omega
    have Hm_O6 := Lib.hid hm_O6; clear hm_O6
    refine (markInt64SS_m w10.heap.size w11.heap.size ts1 m_O6 ((1 + (m_O5 : Int))) w21 Hm_O6.out O6.out (by omega) (by omega) (by omega)).mono ?_
    rintro e w22 ⟨rfl, hO, hK⟩
    clear O6
    have O6 := Lib.hid hO
    clear hO
    replace b0 := b0.only hK (by omega)
    replace b1 := b1.only hK (by omega)
    replace O1 := Lib.hid (O1.out.only hK (by omega))
    replace O2 := Lib.hid (O2.out.only hK (by omega))
    replace O3 := Lib.hid (O3.out.only hK (by omega))
    replace O4 := Lib.hid (O4.out.only hK (by omega))
    replace O5 := Lib.hid (O5.out.only hK (by omega))
    replace O7 := Lib.hid (O7.out.only hK (by omega))
    replace O8 := Lib.hid (O8.out.only hK (by omega))
    replace O9 := Lib.hid (O9.out.only hK (by omega))
    replace O10 := Lib.hid (O10.out.only hK (by omega))
    replace O11 := Lib.hid (O11.out.only hK (by omega))
    have sw22 : w21.heap.size ≤ w22.heap.size := hK.size
    replace hE := Lib.hid (below_only hE.out hK (by omega))
    clear hK
    have l0 := b0.lt
    have c0_0 : w22.cell? ⟨w.heap.size, 0, none⟩ = some (.int .i64 C0) := b0.cell rfl
    have c0_1 : w22.cell? ⟨w.heap.size, 1, none⟩ = some (.slice A0 ts0.length c0) := b0.cell rfl
    have l1 := b1.lt
    have c1_0 : w22.cell? ⟨w9.heap.size, 0, none⟩ = some (.int .i64 C0) := b1.cell rfl
    have c1_1 : w22.cell? ⟨w9.heap.size, 1, none⟩ = some (.slice A5_ ts0.length c5_) := b1.cell rfl
    go_wp2_with fail
    clear l0 c0_0 c0_1 l1 c1_0 c1_1
    obtain ⟨m_O7, hm_O7⟩ : ∃ m, m = rowsz0 ts2 := ⟨_, rfl⟩
    have bm_O7 : m_O7 ≤ 40000000 := by have := (show rowsz0 ts2 ≤ 40000000 by omega); omega
    have Hm_O7 := Lib.hid hm_O7; clear hm_O7
    refine (markInt64SS_m w11.heap.size w12.heap.size ts2 m_O7 (((1 + (m_O5 : Int)) + (m_O6 : Int))) w22 Hm_O7.out O7.out (by omega) (by omega) (by omega)).mono ?_
    rintro e w23 ⟨rfl, hO, hK⟩
    clear O7
    have O7 := Lib.hid hO
    clear hO
    replace b0 := b0.only hK (by omega)
    replace b1 := b1.only hK (by omega)
    replace O1 := Lib.hid (O1.out.only hK (by omega))
    replace O2 := Lib.hid (O2.out.only hK (by omega))
    replace O3 := Lib.hid (O3.out.only hK (by omega))
    replace O4 := Lib.hid (O4.out.only hK (by omega))
    replace O5 := Lib.hid (O5.out.only hK (by omega))
    replace O6 := Lib.hid (O6.out.only hK (by omega))
    replace O8 := Lib.hid (O8.out.only hK (by omega))
    replace O9 := Lib.hid (O9.out.only hK (by omega))
    replace O10 := Lib.hid (O10.out.only hK (by omega))
    replace O11 := Lib.hid (O11.out.only hK (by omega))
    have sw23 : w22.heap.size ≤ w23.heap.size := hK.size
    replace hE := Lib.hid (below_only hE.out hK (by omega))
    clear hK
    have l0 := b0.lt
    have c0_0 : w23.cell? ⟨w.heap.size, 0, none⟩ = some (.int .i64 C0) := b0.cell rfl
    have c0_1 : w23.cell? ⟨w.heap.size, 1, none⟩ = some (.slice A0 ts0.length c0) := b0.cell rfl
    have l1 := b1.lt
    have c1_0 : w23.cell? ⟨w9.heap.size, 0, none⟩ = some (.int .i64 C0) := b1.cell rfl
    have c1_1 : w23.cell? ⟨w9.heap.size, 1, none⟩ = some (.slice A5_ ts0.length c5_) := b1.cell rfl
    go_wp2_with fail
    clear l0 c0_0 c0_1 l1 c1_0 c1_1
    refine (eqInt64SS_any A8_ A4_ r1 r1 r1.length r1.length c8_ c4_ w23 rfl rfl (rr_of O8.out rfl) (rr_of O4.out rfl) (by omega) (by omega)).mono ?_
    rintro e w24 ⟨rfl, hB⟩
    simp only [decide_true, Bool.and_self]
    replace b0 := b0.below hB b0.lt
    replace b1 := b1.below hB b1.lt
    replace O1 := Lib.hid (O1.out.to hB)
    replace O2 := Lib.hid (O2.out.to hB)
    replace O3 := Lib.hid (O3.out.to hB)
    replace O4 := Lib.hid (O4.out.to hB)
    replace O5 := Lib.hid (O5.out.to hB)
    replace O6 := Lib.hid (O6.out.to hB)
    replace O7 := Lib.hid (O7.out.to hB)
    replace O8 := Lib.hid (O8.out.to hB)
    replace O9 := Lib.hid (O9.out.to hB)
    replace O10 := Lib.hid (O10.out.to hB)
    replace O11 := Lib.hid (O11.out.to hB)
    have sw24 : w23.heap.size ≤ w24.heap.size := hB.size
    replace hE := Lib.hid (below_to hE.out hB)
    clear hB
    have l0 := b0.lt
    have c0_0 : w24.cell? ⟨w.heap.size, 0, none⟩ = some (.int .i64 C0) := b0.cell rfl
    have c0_1 : w24.cell? ⟨w.heap.size, 1, none⟩ = some (.slice A0 ts0.length c0) := b0.cell rfl
    have l1 := b1.lt
    have c1_0 : w24.cell? ⟨w9.heap.size, 0, none⟩ = some (.int .i64 C0) := b1.cell rfl
    have c1_1 : w24.cell? ⟨w9.heap.size, 1, none⟩ = some (.slice A5_ ts0.length c5_) := b1.cell rfl
    go_wp2_with fail
    clear l0 c0_0 c0_1 l1 c1_0 c1_1
    obtain ⟨m_O8, hm_O8⟩ : ∃ m, m = rowsz0 r1 := ⟨_, rfl⟩
    have bm_O8 : m_O8 ≤ 40000000 := by have := hb1; omega
    have Hm_O8 := Lib.hid hm_O8; clear hm_O8
    refine (markInt64SS_m w12.heap.size w13.heap.size r1 m_O8 (1) w24 Hm_O8.out O8.out (by omega) (by omega) (by omega)).mono ?_
    rintro e w25 ⟨rfl, hO, hK⟩
    clear O8
    have O8 := Lib.hid hO
    clear hO
    replace b0 := b0.only hK (by omega)
    replace b1 := b1.only hK (by omega)
    replace O1 := Lib.hid (O1.out.only hK (by omega))
    replace O2 := Lib.hid (O2.out.only hK (by omega))
    replace O3 := Lib.hid (O3.out.only hK (by omega))
    replace O4 := Lib.hid (O4.out.only hK (by omega))
    replace O5 := Lib.hid (O5.out.only hK (by omega))
    replace O6 := Lib.hid (O6.out.only hK (by omega))
    replace O7 := Lib.hid (O7.out.only hK (by omega))
    replace O9 := Lib.hid (O9.out.only hK (by omega))
    replace O10 := Lib.hid (O10.out.only hK (by omega))
    replace O11 := Lib.hid (O11.out.only hK (by omega))
    have sw25 : w24.heap.size ≤ w25.heap.size := hK.size
    replace hE := Lib.hid (below_only hE.out hK (by omega))
    clear hK
    have l0 := b0.lt
    have c0_0 : w25.cell? ⟨w.heap.size, 0, none⟩ = some (.int .i64 C0) := b0.cell rfl
    have c0_1 : w25.cell? ⟨w.heap.size, 1, none⟩ = some (.slice A0 ts0.length c0) := b0.cell rfl
    have l1 := b1.lt
    have c1_0 : w25.cell? ⟨w9.heap.size, 0, none⟩ = some (.int .i64 C0) := b1.cell rfl
    have c1_1 : w25.cell? ⟨w9.heap.size, 1, none⟩ = some (.slice A5_ ts0.length c5_) := b1.cell rfl
    go_wp2_with fail
    clear l0 c0_0 c0_1 l1 c1_0 c1_1
    refine (heldInt64SS_m w12.heap.size w13.heap.size r1 m_O8 (1) w25 Hm_O8.out O8.out (by omega) (by omega) (by omega)).mono ?_
    rintro e w26 ⟨rfl, hB⟩
    replace b0 := b0.below hB b0.lt
    replace b1 := b1.below hB b1.lt
    replace O1 := Lib.hid (O1.out.to hB)
    replace O2 := Lib.hid (O2.out.to hB)
    replace O3 := Lib.hid (O3.out.to hB)
    replace O4 := Lib.hid (O4.out.to hB)
    replace O5 := Lib.hid (O5.out.to hB)
    replace O6 := Lib.hid (O6.out.to hB)
    replace O7 := Lib.hid (O7.out.to hB)
    replace O8 := Lib.hid (O8.out.to hB)
    replace O9 := Lib.hid (O9.out.to hB)
    replace O10 := Lib.hid (O10.out.to hB)
    replace O11 := Lib.hid (O11.out.to hB)
    have sw26 : w25.heap.size ≤ w26.heap.size := hB.size
    replace hE := Lib.hid (below_to hE.out hB)
    clear hB
    have l0 := b0.lt
    have c0_0 : w26.cell? ⟨w.heap.size, 0, none⟩ = some (.int .i64 C0) := b0.cell rfl
    have c0_1 : w26.cell? ⟨w.heap.size, 1, none⟩ = some (.slice A0 ts0.length c0) := b0.cell rfl
    have l1 := b1.lt
    have c1_0 : w26.cell? ⟨w9.heap.size, 0, none⟩ = some (.int .i64 C0) := b1.cell rfl
    have c1_1 : w26.cell? ⟨w9.heap.size, 1, none⟩ = some (.slice A5_ ts0.length c5_) := b1.cell rfl
    go_wp2_with fail
    clear l0 c0_0 c0_1 l1 c1_0 c1_1
    refine (toSet_any C0 A0 ts0 ts0.length c0 w26 rfl (HA0.out.below hE.out) (by omega)).mono ?_
    rintro e w27 ⟨v_, rfl, hO, hB⟩
    obtain ⟨A12_, c12_, rfl, -, -⟩ := hO.reads
    have O12 := Lib.hid (OW.of hO)
    clear hO
    replace b0 := b0.below hB b0.lt
    replace b1 := b1.below hB b1.lt
    replace O1 := Lib.hid (O1.out.to hB)
    replace O2 := Lib.hid (O2.out.to hB)
    replace O3 := Lib.hid (O3.out.to hB)
    replace O4 := Lib.hid (O4.out.to hB)
    replace O5 := Lib.hid (O5.out.to hB)
    replace O6 := Lib.hid (O6.out.to hB)
    replace O7 := Lib.hid (O7.out.to hB)
    replace O8 := Lib.hid (O8.out.to hB)
    replace O9 := Lib.hid (O9.out.to hB)
    replace O10 := Lib.hid (O10.out.to hB)
    replace O11 := Lib.hid (O11.out.to hB)
    have sw27 : w26.heap.size ≤ w27.heap.size := hB.size
    replace hE := Lib.hid (below_to hE.out hB)
    clear hB
    have l0 := b0.lt
    have c0_0 : w27.cell? ⟨w.heap.size, 0, none⟩ = some (.int .i64 C0) := b0.cell rfl
    have c0_1 : w27.cell? ⟨w.heap.size, 1, none⟩ = some (.slice A0 ts0.length c0) := b0.cell rfl
    have l1 := b1.lt
    have c1_0 : w27.cell? ⟨w9.heap.size, 0, none⟩ = some (.int .i64 C0) := b1.cell rfl
    have c1_1 : w27.cell? ⟨w9.heap.size, 1, none⟩ = some (.slice A5_ ts0.length c5_) := b1.cell rfl
    go_wp2_with fail
    clear l0 c0_0 c0_1 l1 c1_0 c1_1
    refine (toInt64SS_any A1 ts1 ts1.length c1 w27 rfl (HA1.out.below hE.out) hnc1 (by omega)).mono ?_
    rintro e w28 ⟨v_, rfl, hO, hB⟩
    obtain ⟨A13_, c13_, rfl⟩ := hO.form0
    have O13 := Lib.hid hO
    clear hO
    replace b0 := b0.below hB b0.lt
    replace b1 := b1.below hB b1.lt
    replace O1 := Lib.hid (O1.out.to hB)
    replace O2 := Lib.hid (O2.out.to hB)
    replace O3 := Lib.hid (O3.out.to hB)
    replace O4 := Lib.hid (O4.out.to hB)
    replace O5 := Lib.hid (O5.out.to hB)
    replace O6 := Lib.hid (O6.out.to hB)
    replace O7 := Lib.hid (O7.out.to hB)
    replace O8 := Lib.hid (O8.out.to hB)
    replace O9 := Lib.hid (O9.out.to hB)
    replace O10 := Lib.hid (O10.out.to hB)
    replace O11 := Lib.hid (O11.out.to hB)
    replace O12 := Lib.hid (O12.out.to hB)
    have sw28 : w27.heap.size ≤ w28.heap.size := hB.size
    replace hE := Lib.hid (below_to hE.out hB)
    clear hB
    have l0 := b0.lt
    have c0_0 : w28.cell? ⟨w.heap.size, 0, none⟩ = some (.int .i64 C0) := b0.cell rfl
    have c0_1 : w28.cell? ⟨w.heap.size, 1, none⟩ = some (.slice A0 ts0.length c0) := b0.cell rfl
    have l1 := b1.lt
    have c1_0 : w28.cell? ⟨w9.heap.size, 0, none⟩ = some (.int .i64 C0) := b1.cell rfl
    have c1_1 : w28.cell? ⟨w9.heap.size, 1, none⟩ = some (.slice A5_ ts0.length c5_) := b1.cell rfl
    go_wp2_with fail
    clear l0 c0_0 c0_1 l1 c1_0 c1_1
    refine (toInt64SS_any A2 ts2 ts2.length c2 w28 rfl (HA2.out.below hE.out) hnc2 (by omega)).mono ?_
    rintro e w29 ⟨v_, rfl, hO, hB⟩
    obtain ⟨A14_, c14_, rfl⟩ := hO.form0
    have O14 := Lib.hid hO
    clear hO
    replace b0 := b0.below hB b0.lt
    replace b1 := b1.below hB b1.lt
    replace O1 := Lib.hid (O1.out.to hB)
    replace O2 := Lib.hid (O2.out.to hB)
    replace O3 := Lib.hid (O3.out.to hB)
    replace O4 := Lib.hid (O4.out.to hB)
    replace O5 := Lib.hid (O5.out.to hB)
    replace O6 := Lib.hid (O6.out.to hB)
    replace O7 := Lib.hid (O7.out.to hB)
    replace O8 := Lib.hid (O8.out.to hB)
    replace O9 := Lib.hid (O9.out.to hB)
    replace O10 := Lib.hid (O10.out.to hB)
    replace O11 := Lib.hid (O11.out.to hB)
    replace O12 := Lib.hid (O12.out.to hB)
    replace O13 := Lib.hid (O13.out.to hB)
    have sw29 : w28.heap.size ≤ w29.heap.size := hB.size
    replace hE := Lib.hid (below_to hE.out hB)
    clear hB
    have l0 := b0.lt
    have c0_0 : w29.cell? ⟨w.heap.size, 0, none⟩ = some (.int .i64 C0) := b0.cell rfl
    have c0_1 : w29.cell? ⟨w.heap.size, 1, none⟩ = some (.slice A0 ts0.length c0) := b0.cell rfl
    have l1 := b1.lt
    have c1_0 : w29.cell? ⟨w9.heap.size, 0, none⟩ = some (.int .i64 C0) := b1.cell rfl
    have c1_1 : w29.cell? ⟨w9.heap.size, 1, none⟩ = some (.slice A5_ ts0.length c5_) := b1.cell rfl
    go_wp2_with fail
    clear l0 c0_0 c0_1 l1 c1_0 c1_1
    refine (implFirstFilling_any C0 A12_ ts0 ts0.length c12_ A13_ ts1 ts1.length c13_ A14_ ts2 ts2.length c14_ w29 rfl (rt_of O12.out rfl) (le_of O12.out) (by omega) rfl (rr_of O13.out rfl) (le_ofS O13.out) (by omega) rfl (rr_of O14.out rfl) (le_ofS O14.out) (by omega)).mono ?_
    rintro e w30 ⟨v0_, x0_, x1_, hR_, rfl, hO0, hB⟩
    obtain ⟨rfl, rfl⟩ : r1 = x0_ ∧ r2 = x1_ := (by have h_ := HR.out.symm.trans hR_; simpa using h_)
    clear hR_
    obtain ⟨A15_, c15_, rfl⟩ := hO0.form0
    have O15 := Lib.hid hO0
    clear hO0
    replace b0 := b0.below hB b0.lt
    replace b1 := b1.below hB b1.lt
    replace O1 := Lib.hid (O1.out.to hB)
    replace O2 := Lib.hid (O2.out.to hB)
    replace O3 := Lib.hid (O3.out.to hB)
    replace O4 := Lib.hid (O4.out.to hB)
    replace O5 := Lib.hid (O5.out.to hB)
    replace O6 := Lib.hid (O6.out.to hB)
    replace O7 := Lib.hid (O7.out.to hB)
    replace O8 := Lib.hid (O8.out.to hB)
    replace O9 := Lib.hid (O9.out.to hB)
    replace O10 := Lib.hid (O10.out.to hB)
    replace O11 := Lib.hid (O11.out.to hB)
    replace O12 := Lib.hid (O12.out.to hB)
    replace O13 := Lib.hid (O13.out.to hB)
    replace O14 := Lib.hid (O14.out.to hB)
    have sw30 : w29.heap.size ≤ w30.heap.size := hB.size
    replace hE := Lib.hid (below_to hE.out hB)
    clear hB
    have l0 := b0.lt
    have c0_0 : w30.cell? ⟨w.heap.size, 0, none⟩ = some (.int .i64 C0) := b0.cell rfl
    have c0_1 : w30.cell? ⟨w.heap.size, 1, none⟩ = some (.slice A0 ts0.length c0) := b0.cell rfl
    have l1 := b1.lt
    have c1_0 : w30.cell? ⟨w9.heap.size, 0, none⟩ = some (.int .i64 C0) := b1.cell rfl
    have c1_1 : w30.cell? ⟨w9.heap.size, 1, none⟩ = some (.slice A5_ ts0.length c5_) := b1.cell rfl
    go_wp2_with fail
    clear l0 c0_0 c0_1 l1 c1_0 c1_1
    refine (eqInt64SS_any A15_ A4_ r1 r1 r1.length r1.length c15_ c4_ w30 rfl rfl (rr_of O15.out rfl) (rr_of O4.out rfl) (by omega) (by omega)).mono ?_
    rintro e w31 ⟨rfl, hB⟩
    simp only [decide_true, Bool.and_self]
    replace b0 := b0.below hB b0.lt
    replace b1 := b1.below hB b1.lt
    replace O1 := Lib.hid (O1.out.to hB)
    replace O2 := Lib.hid (O2.out.to hB)
    replace O3 := Lib.hid (O3.out.to hB)
    replace O4 := Lib.hid (O4.out.to hB)
    replace O5 := Lib.hid (O5.out.to hB)
    replace O6 := Lib.hid (O6.out.to hB)
    replace O7 := Lib.hid (O7.out.to hB)
    replace O8 := Lib.hid (O8.out.to hB)
    replace O9 := Lib.hid (O9.out.to hB)
    replace O10 := Lib.hid (O10.out.to hB)
    replace O11 := Lib.hid (O11.out.to hB)
    replace O12 := Lib.hid (O12.out.to hB)
    replace O13 := Lib.hid (O13.out.to hB)
    replace O14 := Lib.hid (O14.out.to hB)
    replace O15 := Lib.hid (O15.out.to hB)
    have sw31 : w30.heap.size ≤ w31.heap.size := hB.size
    replace hE := Lib.hid (below_to hE.out hB)
    clear hB
    have l0 := b0.lt
    have c0_0 : w31.cell? ⟨w.heap.size, 0, none⟩ = some (.int .i64 C0) := b0.cell rfl
    have c0_1 : w31.cell? ⟨w.heap.size, 1, none⟩ = some (.slice A0 ts0.length c0) := b0.cell rfl
    have l1 := b1.lt
    have c1_0 : w31.cell? ⟨w9.heap.size, 0, none⟩ = some (.int .i64 C0) := b1.cell rfl
    have c1_1 : w31.cell? ⟨w9.heap.size, 1, none⟩ = some (.slice A5_ ts0.length c5_) := b1.cell rfl
    go_wp2_with fail
    clear l0 c0_0 c0_1 l1 c1_0 c1_1
    refine (heldInt64SS_m w12.heap.size w13.heap.size r1 m_O8 (1) w31 Hm_O8.out O8.out (by omega) (by omega) (by omega)).mono ?_
    rintro e w32 ⟨rfl, hB⟩
    replace b0 := b0.below hB b0.lt
    replace b1 := b1.below hB b1.lt
    replace O1 := Lib.hid (O1.out.to hB)
    replace O2 := Lib.hid (O2.out.to hB)
    replace O3 := Lib.hid (O3.out.to hB)
    replace O4 := Lib.hid (O4.out.to hB)
    replace O5 := Lib.hid (O5.out.to hB)
    replace O6 := Lib.hid (O6.out.to hB)
    replace O7 := Lib.hid (O7.out.to hB)
    replace O8 := Lib.hid (O8.out.to hB)
    replace O9 := Lib.hid (O9.out.to hB)
    replace O10 := Lib.hid (O10.out.to hB)
    replace O11 := Lib.hid (O11.out.to hB)
    replace O12 := Lib.hid (O12.out.to hB)
    replace O13 := Lib.hid (O13.out.to hB)
    replace O14 := Lib.hid (O14.out.to hB)
    replace O15 := Lib.hid (O15.out.to hB)
    have sw32 : w31.heap.size ≤ w32.heap.size := hB.size
    replace hE := Lib.hid (below_to hE.out hB)
    clear hB
    go_wp2_with fail
    go_ret
    exact ⟨rfl, hE.out⟩
end Go.Proofs.Ytcaikaflpmaocaa

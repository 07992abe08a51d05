/-
 Parts of the proof, in their order: EachW.
-/
import Derived.Test.YtcaikaflpmaocaaSq
import Derived.Test.YtcaikaflpmaocaaPk4
import Derived.Test.YtcaikaflpmaocaaPk8
import Derived.Test.YtcaikaflpmaocaaPk5
import Derived.Lib.SliceRun
import Derived.IntWalk
namespace Go.Proofs.Ytcaikaflpmaocaa
open Go Go.RowKit Go.Proofs Go.Proofs.YtcaikaflpmaocaaW.PrintWords Go.Proofs.YtcaikaflpmaocaaW.PrintLast Go.Proofs.YtcaikaflpmaocaaW.PrintMore
set_option linter.unusedVariables false
set_option linter.unusedSimpArgs false
theorem run_append_cap {P : Program} (w : World) (base : Nat) (t ty e : TypeId) (i : TypeInfo) (z : Value) (size bytes : Nat) (ht : P.underlying t = some (.slice e)) (hi : P.info? e = some i) (hz : i.zero = some z)
 (hsize : i.size = size) (hby : i.bytes = bytes) (hzs : z.cells.size = size) (hsz : 0 < size)
 (v : Value) (n : Nat) (xs : List Value) (hown : w.ownsRow base e size v n xs)
 (a : Addr) (m c : Nat) (news : List Value) (hm : 0 < m) (hl : news.length = m * size) (hnews : ∀ j u, news[j]? = some u → w.cell? (a.add j) = some u) (h1 : ∀ u ∈ news, u.oneCell' = true)
 (h63 : n + m ≤ maxLen) (hbytes : (n + m) * bytes ≤ 140737488355328) (hbase : base ≤ w.heap.size) :
 ∃ v' w', (Builtin.append_ #[t, t] ty #[v, .slice (some a) m c]).run P w = .ok v' w' ∧ w'.ownsRow base e size v' (n + m) (xs ++ news) ∧
  ((∃ g cap, v = .slice (some ⟨g, 0, none⟩) n cap ∧ v' = .slice (some ⟨g, 0, none⟩) (n + m) cap ∧ w.grownBy w' (some g)) ∨ (v'.ownBlock = some w.heap.size ∧ w.grownBy w' none)) := by
 obtain ⟨v', w', hr, h2, h3, -, h5⟩ := run_append_own_at (P := P) w base t ty e i z size bytes ht hi hz hsize hby hzs hsz v n xs hown a m c news hl hnews h1 h63 hbytes hbase
 refine ⟨v', w', hr, h2, ?_⟩
 subst hsize
 subst hby
 have hsmall : n + m ≤ 9223372036854775807 := by simp only [maxLen] at h63; omega
 rcases hown.2 with ⟨rfl, rfl⟩ | ⟨g, cap, cur, rfl, hbg, hg, hnc, hcm, hcs, htake⟩
 ·right
  have hx : xs = [] := List.eq_nil_of_length_eq_zero (by simpa using hown.1)
  subst hx
  have hr2 := run_append_nil (P := P) w t ty e i z ht hi hz a m c news hl hnews (by omega) (by omega) (by have hb := hbytes; simp only [Nat.zero_add] at hb; omega)
  rw [hr] at hr2
  injection hr2 with e1 e2
  subst e1; subst e2
  exact ⟨rfl, ⟨rfl, rfl, rfl, by simp, fun k hk _ => heap_alloc_old w.drew _ hk⟩⟩
 ·by_cases hroom : n + m ≤ cap
  ·left
   have hfit : n * i.size + news.length ≤ cur.size := by rw [hl, hcs, ← Nat.add_mul]; exact Nat.mul_le_mul_right _ hroom
   have hr2 := run_append_room (P := P) w t ty e i ht hi g n cap cur hg a m c news hl hnews h1 hroom hfit
   rw [hr] at hr2
   injection hr2 with e1 e2
   subst e1; subst e2
   exact ⟨g, cap, rfl, rfl, by simpa [Value.ownBlock] using h3⟩
  ·right
   have holds : ∀ j u, xs[j]? = some u → w.cell? ((⟨g, 0, none⟩ : Addr).add j) = some u := hown.cells (g := g) rfl
   have hr2 := run_append_grow (P := P) w t ty e i z ht hi hz ⟨g, 0, none⟩ n cap xs hown.1 holds a m c news hl hnews (by omega) (by omega) (growslice_fits (by omega) hbytes)
   rw [hr] at hr2
   injection hr2 with e1 e2
   subst e1; subst e2
   exact ⟨rfl, ⟨rfl, rfl, rfl, by simp, fun k hk _ => heap_alloc_old w.drew _ hk⟩⟩
section
variable {P : Program} {ops : Array Oper} {o : Oper} {a : Act} {Q : Exit → Act → World → Prop} {Kc : Act → World → Prop}
theorem app_cap_step {w0 W : World} (base : Nat) (hw : Region.wanted o (yielded ops a.tmps) = true) (s x : Operand) (t e : TypeId)
 (ho : o.op = .call { callee := .builtin .append, args := #[s, x], argTypes := #[t, t] }) (ht : P.underlying t = some (.slice e))
 (hinfo : (P.info? e).map (fun i => (i.zero, i.size, i.bytes)) = some (some (.int .i64 0), 1, 8))
 (v : Value) (xs : List Int) (y : Int) (hs : a.eval s = v) (hx : a.eval x = .slice (some ⟨W.heap.size, 0, none⟩) 1 1)
 (HO : OI W base e v xs) (HB : Below base w0 W) (hbase : base ≤ W.heap.size) (hl : xs.length + 1 ≤ 1000000000000)
 (h : ∀ v1 w1, OI w1 base e v1 (xs ++ [y]) → Below base w0 w1 → ((∃ g c, v = .slice (some ⟨g, 0, none⟩) xs.length c ∧ v1 = .slice (some ⟨g, 0, none⟩) (xs.length + 1) c ∧ W.grownBy w1 (some g)) ∨ ((∃ b, v1.ownBlock = some b ∧ W.heap.size ≤ b) ∧ W.grownBy w1 none)) → Kc (a.put o.dst v1) w1) :
 if Region.wanted o (yielded ops a.tmps) = true then Oper.wp P o a (W.alloc (.cells #[.int .i64 y] e)) Kc Q else Kc (a.put o.dst undef) (W.alloc (.cells #[.int .i64 y] e)) := by
 rw [if_pos hw]
 obtain ⟨i0, hi, hzz⟩ := Option.map_eq_some_iff.1 hinfo
 simp only [Prod.mk.injEq] at hzz
 obtain ⟨hz0, hz1, hz2⟩ := hzz
 have HO' : OI (W.alloc (.cells #[.int .i64 y] e)) base e v xs := HO.to (new_below W _)
 obtain ⟨v', w', hr, h2, h5⟩ := run_append_cap (P := P) (W.alloc (.cells #[.int .i64 y] e)) base t o.type e i0 (.int .i64 0) 1 8 ht hi hz0 hz1 hz2 rfl (by decide) v xs.length (icells xs) HO' ⟨W.heap.size, 0, none⟩ 1 1 [.int .i64 y] (by decide) rfl
  (fun j u hj => by rw [add_none]; exact (BK.new W _ e).cell (by simpa using hj)) (by simp [Value.oneCell']) (by simp only [maxLen]; omega) (by omega) (by simp; omega)
 have h6 : OI w' base e v' (xs ++ [y]) := by simpa [OI, icells] using h2
 have gr : ∀ {row}, (W.alloc (.cells #[.int .i64 y] e)).grownBy w' row → W.grownBy w' row := fun hg => World.grownBy.trans (World.grownBy_alloc W _ _) hg
 have hB : Below base w0 w' := by
  have h0 : Below base w0 (W.alloc (.cells #[.int .i64 y] e)) := HB.alloc hbase _
  rcases h5 with ⟨g, c, e1, e2, hg⟩ | ⟨e1, hg⟩
  ·refine h0.grown hg (by simp; omega) (fun b hb => ?_)
   have : some b = v.ownBlock := by rw [e1, ← hb]; rfl
   exact own_lo HO b this.symm
  ·exact h0.grown hg (by simp; omega) (fun b hb => by cases hb)
 unfold Oper.wp execOp
 simp only [ho, resolve, invoke, builtin, Sem.run_bind, Sem.run_pure, Result.andThen_ok, q4_, q5_, q6_, hs, hx, hr]
 refine h v' w' h6 hB ?_
 rcases h5 with ⟨g, c, e1, e2, hg⟩ | ⟨e1, hg⟩
 ·exact .inl ⟨g, c, e1, e2, gr hg⟩
 ·exact .inr ⟨⟨_, e1, by simp⟩, gr hg⟩
theorem goesV_ {N : Option Tmp} {w : World} {f : FuncId} {fn : Func} {as_ : Array Operand} {ts : Array TypeId} {x : Operand} (hf : P.funcs[f]? = some fn) (hname : (fn.name == "runtime.NumGoroutine") = false) (hb : fn.body.isSome = true) (args caps all_ : Array Value)
 (hw : Region.wanted o (yielded ops a.tmps) = true) (hN : o.dst = N) (hop : o.op = .call { callee := .value x, args := as_, argTypes := ts }) (hx : a.eval x = .func (.func f) #[] caps) (hargs : as_.map a.eval = args) (hall : args ++ caps = all_)
 (h : Calls P f all_ w fun e w' => ∃ v, e = .returned v ∧ Kc (a.put N v) w') : if Region.wanted o (yielded ops a.tmps) = true then Oper.wp P o a w Kc Q else Kc (a.put N undef) w := by
 subst hall
 refine call_ f (args ++ caps) hw hN ?_ h
 have he := enters_ hf hname hb (args ++ caps) w
 unfold execOp
 simp [hop, resolve, Deferred.ofValue, invoke, hx, hargs, he]
end
set_option maxHeartbeats 1000000 in
set_option maxRecDepth 100000 in
theorem CloneI_any (ad : Addr) (xs : List Int) (n c : Nat) (w : World) (hn : n = xs.length) (hn0 : 0 < n) (hA : RI w (some ad) xs) (hl : n ≤ 1000000) :
 Calls Try.prog 86 #[.slice (some ad) n c] w fun e w' => ∃ g c', e = .returned (.slice (some ⟨g, 0, none⟩) n c') ∧ OI w' w.heap.size 2 (.slice (some ⟨g, 0, none⟩) n c') xs ∧ Below w.heap.size w w' := by
 have HA := Lib.hid hA; have HN := Lib.hid hn; clear hA hn
 have hEQ := fun w => Lib.run_eql_slice_nil (P := Try.prog) w 56 2 (some ad) n c 0 0 Try.underlying56
 simp only [Option.isNone_some] at hEQ
 go_enter Try.func86, Try.ntmps86
 go_wp2_with (at_builtin; go_loud (refine (wpList_plain (by rfl) fun K hK => wp_many w.heap.size (.tmp 5) (.tmp 6) 56 2 (.int .i64 0) 1 8 rfl Try.underlying56 info2 rfl (by decide) (by decide) (.slice (some ⟨w.heap.size, 0, none⟩) 0 0) 0 [] (icells xs) rfl ad n c rfl (by rw [icells_length, HN.out, Nat.mul_one]) (RI.news (HA.out.below (new_below w _))) icells_one (OI.lit0 w _ _ (Nat.le_refl _)) (new_below w _).size (by have := HN.out; omega) ?_); intro v1 w1 hO hG hne hat; refine hK _ _ ?_; clear hK K; rw [Nat.zero_add, List.nil_append] at hO; have HB := Lib.hid (grown_below (new_below w _) hG (fun b hb => (by have := own_lo (OI.lit0 w _ 2 (Nat.le_refl _)) b hb; omega))); obtain ⟨g, c1, e1, -, -⟩ := own_some hO (fun e0 => by cases (hne.1 e0).1); subst e1; have HO := Lib.hid hO; clear hO hG hne hat))
 go_ret
 exact ⟨g, c1, rfl, by have h := HO.out; unfold OI; rw [← HN.out]; exact h, HB.out⟩
structure FR (W W' : World) (row : Option Nat) : Prop where
 size : W.heap.size ≤ W'.heap.size
 block : ∀ k, k < W.heap.size → some k ≠ row → (∀ cells t, W.heap[k]? = some (.cells cells t (0, 0)) → t ≠ 22 ∧ t ≠ 48) → W'.heap[k]? = W.heap[k]?
theorem FR.trans {W W1 W2 : World} {r r1 : Option Nat} (h : FR W W1 r) (h1 : FR W1 W2 r1) (hr : r1 = r ∨ ∃ b, r1 = some b ∧ W.heap.size ≤ b) : FR W W2 r := by
 refine ⟨Nat.le_trans h.size h1.size, fun k hk hne ht => ?_⟩
 have e := h.block k hk hne ht
 refine (h1.block k (Nat.lt_of_lt_of_le hk h.size) ?_ (fun cells t hc => ht cells t (by rw [← e]; exact hc))).trans e
 rcases hr with rfl | ⟨b, rfl, hb⟩
 ·exact hne
 ·intro e2; injection e2 with e2; omega
theorem FR.of_below {W W1 : World} {B : Nat} (h : Below B W W1) (hB : W.heap.size ≤ B) (r : Option Nat) : FR W W1 r := ⟨h.size, fun k hk _ _ => h.block k (by omega)⟩
theorem FR.of_grown {W W1 : World} {r : Option Nat} (h : W.grownBy W1 r) : FR W W1 r := ⟨h.size, fun k hk hne _ => h.block k hk hne⟩
theorem FR.wide {W W1 : World} (h : FR W W1 none) (r : Option Nat) : FR W W1 r := ⟨h.size, fun k hk _ ht => h.block k hk (by simp) ht⟩
theorem FR.bk {W W1 : World} {r : Option Nat} (h : FR W W1 r) {b : Nat} {C : Array Value} {E : TypeId} (hb : BK W b C E) (hne : some b ≠ r) (h1 : E ≠ 22) (h2 : E ≠ 48) : BK W1 b C E :=
 (h.block b hb.lt hne (fun cells t hc => by
  have e : (some (Obj.cells C E (0, 0)) : Option Obj) = some (.cells cells t (0, 0)) := hb.symm.trans hc
  injection e with e; injection e with e1 e2 _
  subst e2; exact ⟨h1, h2⟩)).trans hb
theorem FR.oi {W W1 : World} {r : Option Nat} (h : FR W W1 r) {base : Nat} {v : Value} {xs : List Int} (ho : OI W base 2 v xs) (hne : ∀ k, v.ownBlock = some k → some k ≠ r) : OI W1 base 2 v xs := by
 obtain ⟨h1, h2⟩ := ho
 refine ⟨h1, ?_⟩
 rcases h2 with h2 | ⟨g, cap, cur, hv, hg, hb, r1⟩
 ·exact .inl h2
 ·exact .inr ⟨g, cap, cur, hv, hg, h.bk hb (hne g (by rw [hv]; rfl)) (by decide) (by decide), r1⟩
theorem OI.take {W : World} {base g n m c : Nat} {e : TypeId} {xs : List Int} (h : OI W base e (.slice (some ⟨g, 0, none⟩) n c) xs) (hm : m ≤ xs.length) : OI W base e (.slice (some ⟨g, 0, none⟩) m c) (xs.take m) := by
 obtain ⟨h1, h2⟩ := h
 have hl : (xs.take m).length = m := by rw [List.length_take]; omega
 unfold OI
 rw [hl]
 refine ⟨by rw [icells_length, hl, Nat.mul_one], ?_⟩
 rcases h2 with ⟨hv, -⟩ | ⟨g', cap, cur, hv, hg, hb, hnc, hcm, hcs, ht⟩
 ·cases hv
 ·injection hv with hv1 hv2 hv3
  injection hv1 with hv1; injection hv1 with hv1
  subst hv1; subst hv3
  refine .inr ⟨g, c, cur, rfl, hg, hb, by omega, hcm, hcs, ?_⟩
  rw [Nat.mul_one] at ht ⊢
  have e : icells (xs.take m) = (icells xs).take m := by unfold icells; rw [List.map_take]
  rw [e, ← ht, List.take_take, Nat.min_eq_left hm]
end Go.Proofs.Ytcaikaflpmaocaa

/-
  Parts of the proof, in their order: SouthV, SouthX, SouthL, SouthY, SouthI, SouthJ, SouthK, LawSouthRounds.
-/
import Derived.Test.YtenlcakpcbmmdaaPk10
import Derived.Test.YtenlcakpcbmmdaaPk9
import Derived.Lib.SliceRun
import Derived.IntWalk
import Derived.Laws.EntriesVeiled
import Derived.Test.YtenlcakpcbmmdaaPk2
import Derived.Test.YtenlcakpcbmmdaaPk11
import Derived.Test.YtenlcakpcbmmdaaPk5
import Derived.Deep.RegionHeld3
namespace Go.Proofs.Ytenlcakpcbmmdaa
open Go Go.RowKit Go.Proofs Go.Proofs.YtenlcakpcbmmdaaW.PrintWords Go.Proofs.YtenlcakpcbmmdaaW.PrintLast Go.Proofs.YtenlcakpcbmmdaaW.PrintMore
set_option linter.unusedVariables false
set_option linter.unusedSimpArgs false
theorem run_append_cap {P : Program} (w : World) (base : Nat) (t ty e : TypeId) (i : TypeInfo) (z : Value) (size bytes : Nat) (ht : P.underlying t = some (.slice e)) (hi : P.info? e = some i) (hz : i.zero = some z)
    (hsize : i.size = size) (hby : i.bytes = bytes) (hzs : z.cells.size = size) (hsz : 0 < size)
    (v : Value) (n : Nat) (xs : List Value) (hown : w.ownsRow base e size v n xs)
    (a : Addr) (m c : Nat) (news : List Value) (hm : 0 < m) (hl : news.length = m * size) (hnews : ∀ j u, news[j]? = some u → w.cell? (a.add j) = some u) (h1 : ∀ u ∈ news, u.oneCell' = true)
    (h63 : n + m ≤ maxLen) (hbytes : (n + m) * bytes ≤ 140737488355328) (hbase : base ≤ w.heap.size) :
    ∃ v' w', (Builtin.append_ #[t, t] ty #[v, .slice (some a) m c]).run P w = .ok v' w' ∧ w'.ownsRow base e size v' (n + m) (xs ++ news) ∧
      ((∃ g cap, v = .slice (some ⟨g, 0, none⟩) n cap ∧ v' = .slice (some ⟨g, 0, none⟩) (n + m) cap ∧ w.grownBy w' (some g)) ∨ (v'.ownBlock = some w.heap.size ∧ w.grownBy w' none)) := by
  obtain ⟨v', w', hr, h2, h3, -, h5⟩ := run_append_own_at (P := P) w base t ty e i z size bytes ht hi hz hsize hby hzs hsz v n xs hown a m c news hl hnews h1 h63 hbytes hbase
  refine ⟨v', w', hr, h2, ?_⟩
  subst hsize
  subst hby
  have hsmall : n + m ≤ 9223372036854775807 := by simp only [maxLen] at h63; omega
  rcases hown.2 with ⟨rfl, rfl⟩ | ⟨g, cap, cur, rfl, hbg, hg, hnc, hcm, hcs, htake⟩
  · right
    have hx : xs = [] := List.eq_nil_of_length_eq_zero (by simpa using hown.1)
    subst hx
    have hr2 := run_append_nil (P := P) w t ty e i z ht hi hz a m c news hl hnews (by omega) (by omega) (by have hb := hbytes; simp only [Nat.zero_add] at hb; omega)
    rw [hr] at hr2
    injection hr2 with e1 e2
    subst e1; subst e2
    exact ⟨rfl, ⟨rfl, rfl, rfl, by simp, fun k hk _ => heap_alloc_old w.drew _ hk⟩⟩
  · by_cases hroom : n + m ≤ cap
    · left
      have hfit : n * i.size + news.length ≤ cur.size := by rw [hl, hcs, ← Nat.add_mul]; exact Nat.mul_le_mul_right _ hroom
      have hr2 := run_append_room (P := P) w t ty e i ht hi g n cap cur hg a m c news hl hnews h1 hroom hfit
      rw [hr] at hr2
      injection hr2 with e1 e2
      subst e1; subst e2
      exact ⟨g, cap, rfl, rfl, by simpa [Value.ownBlock] using h3⟩
    · right
      have holds : ∀ j u, xs[j]? = some u → w.cell? ((⟨g, 0, none⟩ : Addr).add j) = some u := hown.cells (g := g) rfl
      have hr2 := run_append_grow (P := P) w t ty e i z ht hi hz ⟨g, 0, none⟩ n cap xs hown.1 holds a m c news hl hnews (by omega) (by omega) (growslice_fits (by omega) hbytes)
      rw [hr] at hr2
      injection hr2 with e1 e2
      subst e1; subst e2
      exact ⟨rfl, ⟨rfl, rfl, rfl, by simp, fun k hk _ => heap_alloc_old w.drew _ hk⟩⟩
section
variable {P : Program} {ops : Array Oper} {o : Oper} {a : Act} {Q : Exit → Act → World → Prop} {Kc : Act → World → Prop}
theorem app_cap_step {w0 W : World} (base : Nat) (hw : Region.wanted o (yielded ops a.tmps) = true) (s x : Operand) (t e : TypeId)
    (ho : o.op = .call { callee := .builtin .append, args := #[s, x], argTypes := #[t, t] }) (ht : P.underlying t = some (.slice e))
    (hinfo : (P.info? e).map (fun i => (i.zero, i.size, i.bytes)) = some (some (.int .i64 0), 1, 8))
    (v : Value) (xs : List Int) (y : Int) (hs : a.eval s = v) (hx : a.eval x = .slice (some ⟨W.heap.size, 0, none⟩) 1 1)
    (HO : OI W base e v xs) (HB : Below base w0 W) (hbase : base ≤ W.heap.size) (hl : xs.length + 1 ≤ 1000000000000)
    (h : ∀ v1 w1, OI w1 base e v1 (xs ++ [y]) → Below base w0 w1 → ((∃ g c, v = .slice (some ⟨g, 0, none⟩) xs.length c ∧ v1 = .slice (some ⟨g, 0, none⟩) (xs.length + 1) c ∧ W.grownBy w1 (some g)) ∨ ((∃ b, v1.ownBlock = some b ∧ W.heap.size ≤ b) ∧ W.grownBy w1 none)) → Kc (a.put o.dst v1) w1) :
    if Region.wanted o (yielded ops a.tmps) = true then Oper.wp P o a (W.alloc (.cells #[.int .i64 y] e)) Kc Q else Kc (a.put o.dst undef) (W.alloc (.cells #[.int .i64 y] e)) := by
  rw [if_pos hw]
  obtain ⟨i0, hi, hzz⟩ := Option.map_eq_some_iff.1 hinfo
  simp only [Prod.mk.injEq] at hzz
  obtain ⟨hz0, hz1, hz2⟩ := hzz
  have HO' : OI (W.alloc (.cells #[.int .i64 y] e)) base e v xs := HO.to (new_below W _)
  obtain ⟨v', w', hr, h2, h5⟩ := run_append_cap (P := P) (W.alloc (.cells #[.int .i64 y] e)) base t o.type e i0 (.int .i64 0) 1 8 ht hi hz0 hz1 hz2 rfl (by decide) v xs.length (icells xs) HO' ⟨W.heap.size, 0, none⟩ 1 1 [.int .i64 y] (by decide) rfl
    (fun j u hj => by rw [add_none]; exact (BK.new W _ e).cell (by simpa using hj)) (by simp [Value.oneCell']) (by simp only [maxLen]; omega) (by omega) (by simp; omega)
  have h6 : OI w' base e v' (xs ++ [y]) := by simpa [OI, icells] using h2
  have gr : ∀ {row}, (W.alloc (.cells #[.int .i64 y] e)).grownBy w' row → W.grownBy w' row := fun hg => World.grownBy.trans (World.grownBy_alloc W _ _) hg
  have hB : Below base w0 w' := by
    have h0 : Below base w0 (W.alloc (.cells #[.int .i64 y] e)) := HB.alloc hbase _
    rcases h5 with ⟨g, c, e1, e2, hg⟩ | ⟨e1, hg⟩
    · refine h0.grown hg (by simp; omega) (fun b hb => ?_)
      have : some b = v.ownBlock := by rw [e1, ← hb]; rfl
      exact own_lo HO b this.symm
    · exact h0.grown hg (by simp; omega) (fun b hb => by cases hb)
  unfold Oper.wp execOp
  simp only [ho, resolve, invoke, builtin, Sem.run_bind, Sem.run_pure, Result.andThen_ok, List.map_toArray, List.map_cons, List.map_nil, hs, hx, hr]
  refine h v' w' h6 hB ?_
  rcases h5 with ⟨g, c, e1, e2, hg⟩ | ⟨e1, hg⟩
  · exact .inl ⟨g, c, e1, e2, gr hg⟩
  · exact .inr ⟨⟨_, e1, by simp⟩, gr hg⟩
theorem goesV_ {N : Option Tmp} {w : World} {f : FuncId} {fn : Func} {as_ : Array Operand} {ts : Array TypeId} {x : Operand} (hf : P.funcs[f]? = some fn) (hname : (fn.name == "runtime.NumGoroutine") = false) (hb : fn.body.isSome = true) (args caps all_ : Array Value)
    (hw : Region.wanted o (yielded ops a.tmps) = true) (hN : o.dst = N) (hop : o.op = .call { callee := .value x, args := as_, argTypes := ts }) (hx : a.eval x = .func (.func f) #[] caps) (hargs : as_.map a.eval = args) (hall : args ++ caps = all_)
    (h : Calls P f all_ w fun e w' => ∃ v, e = .returned v ∧ Kc (a.put N v) w') : if Region.wanted o (yielded ops a.tmps) = true then Oper.wp P o a w Kc Q else Kc (a.put N undef) w := by
  subst hall
  refine call_ f (args ++ caps) hw hN ?_ h
  have he := enters_ hf hname hb (args ++ caps) w
  unfold execOp
  simp [hop, resolve, Deferred.ofValue, invoke, hx, hargs, he]
end
set_option maxHeartbeats 1000000 in
set_option maxRecDepth 100000 in
theorem CloneI_any (ad : Addr) (xs : List Int) (n c : Nat) (w : World) (hn : n = xs.length) (hn0 : 0 < n) (hA : RI w (some ad) xs) (hl : n ≤ 1000000) :
    Calls Try.prog 116 #[.slice (some ad) n c] w fun e w' => ∃ g c', e = .returned (.slice (some ⟨g, 0, none⟩) n c') ∧ OI w' w.heap.size 2 (.slice (some ⟨g, 0, none⟩) n c') xs ∧ Below w.heap.size w w' := by
  have HA := Lib.hid hA; have HN := Lib.hid hn; clear hA hn
  have hEQ := fun w => Lib.run_eql_slice_nil (P := Try.prog) w 34 2 (some ad) n c 0 0 Try.underlying34
  simp only [Option.isNone_some] at hEQ
  go_enter Try.func116, Try.ntmps116
  go_wp2_with (at_builtin; go_loud (refine (wpList_plain (by rfl) fun K hK => wp_many w.heap.size (.tmp 5) (.tmp 6) 34 2 (.int .i64 0) 1 8 rfl Try.underlying34 info2 rfl (by decide) (by decide) (.slice (some ⟨w.heap.size, 0, none⟩) 0 0) 0 [] (icells xs) rfl ad n c rfl (by rw [icells_length, HN.out, Nat.mul_one]) (RI.news (HA.out.below (new_below w _))) icells_one (OI.lit0 w _ _ (Nat.le_refl _)) (new_below w _).size (by have := HN.out; omega) ?_); intro v1 w1 hO hG hne hat; refine hK _ _ ?_; clear hK K; rw [Nat.zero_add, List.nil_append] at hO; have HB := Lib.hid (grown_below (new_below w _) hG (fun b hb => (by have := own_lo (OI.lit0 w _ 2 (Nat.le_refl _)) b hb; omega))); obtain ⟨g, c1, e1, -, -⟩ := own_some hO (fun e0 => by cases (hne.1 e0).1); subst e1; have HO := Lib.hid hO; clear hO hG hne hat))
  go_ret
  exact ⟨g, c1, rfl, by have h := HO.out; unfold OI; rw [← HN.out]; exact h, HB.out⟩
structure FS (W W' : World) (row : Option Nat) : Prop where
  size : W.heap.size ≤ W'.heap.size
  block : ∀ k, k < W.heap.size → some k ≠ row → (∀ cells t, W.heap[k]? = some (.cells cells t (0, 0)) → t ≠ 43 ∧ t ≠ 34) → W'.heap[k]? = W.heap[k]?
theorem FS.trans {W W1 W2 : World} {r r1 : Option Nat} (h : FS W W1 r) (h1 : FS W1 W2 r1) (hr : r1 = r ∨ ∃ b, r1 = some b ∧ W.heap.size ≤ b) : FS W W2 r := by
  refine ⟨Nat.le_trans h.size h1.size, fun k hk hne ht => ?_⟩
  have e := h.block k hk hne ht
  refine (h1.block k (Nat.lt_of_lt_of_le hk h.size) ?_ (fun cells t hc => ht cells t (by rw [← e]; exact hc))).trans e
  rcases hr with rfl | ⟨b, rfl, hb⟩
  · exact hne
  · intro e2; injection e2 with e2; omega
theorem FS.of_below {W W1 : World} {B : Nat} (h : Below B W W1) (hB : W.heap.size ≤ B) (r : Option Nat) : FS W W1 r := ⟨h.size, fun k hk _ _ => h.block k (by omega)⟩
theorem FS.of_grown {W W1 : World} {r : Option Nat} (h : W.grownBy W1 r) : FS W W1 r := ⟨h.size, fun k hk hne _ => h.block k hk hne⟩
theorem FS.bk {W W1 : World} {r : Option Nat} (h : FS W W1 r) {b : Nat} {C : Array Value} {E : TypeId} (hb : BK W b C E) (hne : some b ≠ r) (h1 : E ≠ 43) (h2 : E ≠ 34) : BK W1 b C E :=
  (h.block b hb.lt hne (fun cells t hc => by
    have e : (some (Obj.cells C E (0, 0)) : Option Obj) = some (.cells cells t (0, 0)) := hb.symm.trans hc
    injection e with e; injection e with e1 e2 _
    subst e2; exact ⟨h1, h2⟩)).trans hb
theorem FS.oi {W W1 : World} {r : Option Nat} (h : FS W W1 r) {base : Nat} {v : Value} {xs : List Int} (ho : OI W base 2 v xs) (hne : ∀ k, v.ownBlock = some k → some k ≠ r) : OI W1 base 2 v xs := by
  obtain ⟨h1, h2⟩ := ho
  refine ⟨h1, ?_⟩
  rcases h2 with h2 | ⟨g, cap, cur, hv, hg, hb, r1⟩
  · exact .inl h2
  · exact .inr ⟨g, cap, cur, hv, hg, h.bk hb (hne g (by rw [hv]; rfl)) (by decide) (by decide), r1⟩
theorem OI.take {W : World} {base g n m c : Nat} {e : TypeId} {xs : List Int} (h : OI W base e (.slice (some ⟨g, 0, none⟩) n c) xs) (hm : m ≤ xs.length) : OI W base e (.slice (some ⟨g, 0, none⟩) m c) (xs.take m) := by
  obtain ⟨h1, h2⟩ := h
  have hl : (xs.take m).length = m := by rw [List.length_take]; omega
  unfold OI
  rw [hl]
  refine ⟨by rw [icells_length, hl, Nat.mul_one], ?_⟩
  rcases h2 with ⟨hv, -⟩ | ⟨g', cap, cur, hv, hg, hb, hnc, hcm, hcs, ht⟩
  · cases hv
  · injection hv with hv1 hv2 hv3
    injection hv1 with hv1; injection hv1 with hv1
    subst hv1; subst hv3
    refine .inr ⟨g, c, cur, rfl, hg, hb, by omega, hcm, hcs, ?_⟩
    rw [Nat.mul_one] at ht ⊢
    have e : icells (xs.take m) = (icells xs).take m := by unfold icells; rw [List.map_take]
    rw [e, ← ht, List.take_take, Nat.min_eq_left hm]
theorem OI.typed {W : World} {base : Nat} {e : TypeId} {v : Value} {xs : List Int} (h : OI W base e v xs) : ∀ b C E, v.ownBlock = some b → BK W b C E → E = e := by
  intro b C E hv hb
  rcases h.2 with ⟨rfl, _⟩ | ⟨g, cap, cur, rfl, _, hg, _⟩
  · cases hv
  · have e1 : g = b := by simpa [Value.ownBlock] using hv
    subst e1
    have e2 : (some (Obj.cells C E (0, 0)) : Option Obj) = some (.cells cur e (0, 0)) := hb.symm.trans hg
    injection e2 with e2; injection e2 with _ e2 _
theorem oi_fn {W : World} {base : Nat} {v : Value} {xs : List Int} (h : OI W base 2 v xs) {b : Nat} {C : Array Value} {E : TypeId} (hb : BK W b C E) (hE : E ≠ 2) : some b ≠ v.ownBlock := fun e => hE (h.typed b C E e.symm hb)
theorem grown_of {wd w1 : World} {v v1 : Value} {n : Nat}
    (h : (∃ g c, v = .slice (some ⟨g, 0, none⟩) n c ∧ v1 = .slice (some ⟨g, 0, none⟩) (n + 1) c ∧ wd.grownBy w1 (some g)) ∨ ((∃ b, v1.ownBlock = some b ∧ wd.heap.size ≤ b) ∧ wd.grownBy w1 none)) :
    FS wd w1 v.ownBlock ∧ wd.grownBy w1 v.ownBlock ∧ (v1.ownBlock = v.ownBlock ∨ ∃ b, v1.ownBlock = some b ∧ wd.heap.size ≤ b) := by
  have hg : wd.grownBy w1 v.ownBlock := by
    rcases h with ⟨g, c, rfl, rfl, hg⟩ | ⟨-, hg⟩
    · exact hg
    · exact ⟨hg.os, hg.tape, hg.output, hg.size, fun k hk _ => hg.block k hk (by simp)⟩
  refine ⟨FS.of_grown hg, hg, ?_⟩
  rcases h with ⟨g, c, rfl, rfl, -⟩ | ⟨hb, -⟩
  · exact .inl rfl
  · exact .inr hb
theorem back_own {wd w1 w2 : World} {base : Nat} {v v1 : Value} {xs : List Int} {y : Int} (hO : OI wd base 2 v xs)
    (h : (∃ g c, v = .slice (some ⟨g, 0, none⟩) xs.length c ∧ v1 = .slice (some ⟨g, 0, none⟩) (xs.length + 1) c ∧ wd.grownBy w1 (some g)) ∨ ((∃ b, v1.ownBlock = some b ∧ wd.heap.size ≤ b) ∧ wd.grownBy w1 none))
    (hF : FS w1 w2 v1.ownBlock) (hO2 : OI w2 base 2 v1 (xs ++ [y])) : OI w2 base 2 v xs ∧ FS wd w2 v.ownBlock := by
  have hg := grown_of h
  refine ⟨?_, ?_⟩
  · rcases h with ⟨g, c, rfl, rfl, -⟩ | ⟨⟨b, hb, hbl⟩, hgr⟩
    · have h2 := OI.take hO2 (m := xs.length) (by simp)
      rw [List.take_left] at h2
      exact h2
    · have h1 : OI w1 base 2 v xs := (FS.of_grown hgr).oi hO (fun k _ => by simp)
      refine hF.oi h1 (fun k hk e => ?_)
      rw [hb] at e; injection e with e
      have := (hO.lt k hk).2
      omega
  · exact hg.1.trans hF hg.2.2
def JO (N bo : Nat) (vs : List (List Int)) (W : World) (ok : Nat → Prop) : Prop := ∃ v, BK W bo #[v] 43 ∧ Kd.S (Kd.slice 2 (Kd.int .i64)) 34 W N ok v vs ∧ N ≤ bo
theorem JO.mono {N bo : Nat} {vs : List (List Int)} {W : World} {ok ok' : Nat → Prop} (h : JO N bo vs W ok) (e : ∀ k, ok k → ok' k) : JO N bo vs W ok' := by
  obtain ⟨v, h1, h2, h3⟩ := h
  exact ⟨v, h1, Kd.S_mono h2 e, h3⟩
theorem JO.bound {N bo : Nat} {vs : List (List Int)} {W : World} {ok : Nat → Prop} (h : JO N bo vs W ok) : JO N bo vs W (fun k => ok k ∧ k < W.heap.size) := by
  obtain ⟨v, h1, h2, h3⟩ := h
  exact ⟨v, h1, Kd.S_mono (Kd.S_bound h2) (fun k hk => ⟨hk.1, hk.2.2.1⟩), h3⟩
theorem JO.step {N bo : Nat} {vs : List (List Int)} {W W1 : World} {ok : Nat → Prop} (h : JO N bo vs W ok) (hb : W1.heap[bo]? = W.heap[bo]?) (hk : ∀ k, ok k → k < W.heap.size → W1.heap[k]? = W.heap[k]?) : JO N bo vs W1 ok := by
  obtain ⟨v, h1, h2, h3⟩ := h
  exact ⟨v, hb.trans h1, Kd.S_step h2 hk, h3⟩
theorem JO.lt {N bo : Nat} {vs : List (List Int)} {W : World} {ok : Nat → Prop} (h : JO N bo vs W ok) : bo < W.heap.size := by
  obtain ⟨v, h1, -⟩ := h; exact h1.lt
theorem JO.below {N bo : Nat} {vs : List (List Int)} {W W1 : World} {ok : Nat → Prop} (h : JO N bo vs W ok) (hb : Below W.heap.size W W1) : JO N bo vs W1 ok := h.step (hb.block _ h.lt) (fun k _ hk => hb.block k hk)
theorem JO.grown {N bo : Nat} {vs : List (List Int)} {W W1 : World} {ok : Nat → Prop} {v : Value} {base : Nat} {xs : List Int} (h : JO N bo vs W (fun k => ok k ∧ some k ≠ v.ownBlock)) (hO : OI W base 2 v xs) (hg : W.grownBy W1 v.ownBlock) : JO N bo vs W1 (fun k => ok k ∧ some k ≠ v.ownBlock) := by
  refine h.step ?_ (fun k hk hlt => hg.block k hlt hk.2)
  obtain ⟨u, h1, h2, h3⟩ := h
  exact hg.block _ h1.lt (oi_fn hO h1 (by decide))
abbrev SPr := R.S113
def memP (ps : List SPr) (f e : Nat) : Bool := ps.any fun x => decide (x.f0 = (f : Int)) && decide (x.f1 = (e : Int))
def LowP (c : Nat) (ps : List SPr) : Prop := ∀ x ∈ ps, (0 ≤ x.f0 ∧ x.f0 < (c : Int)) ∧ 0 ≤ x.f1 ∧ x.f1 < (c : Int)
def StP (ps : List SPr) (c : Nat) (S : Nat → Nat → Bool) : Prop := LowP c ps ∧ ∀ f e, f < c → e < c → memP ps f e = S f e
def hitB (x col : Int) (lv : Nat → Nat → Bool) (p : SPr) (t : STile) (f e : Nat) : Bool := decide (p.f0 = (f : Int)) && decide (t.f2 = (e : Int)) && decide (t.f0 = p.f1) && decide (t.f1 = x) && decide (t.f3 = col) && lv f e
def reachP (x col : Int) (lv : Nat → Nat → Bool) (ps : List SPr) (l : List STile) (a k : Nat) (f e : Nat) : Bool :=
  (ps.take a).any (fun p => l.any fun t => hitB x col lv p t f e) || (match ps[a]? with | some p => (l.take k).any (fun t => hitB x col lv p t f e) | none => false)
theorem reachP_zero (x col : Int) (lv : Nat → Nat → Bool) (ps : List SPr) (l : List STile) (f e : Nat) : reachP x col lv ps l 0 0 f e = false := by
  unfold reachP
  cases ps[0]? <;> simp
theorem reachP_tile {x col : Int} {lv : Nat → Nat → Bool} {ps : List SPr} {l : List STile} {a k : Nat} (ha : a < ps.length) (hk : k < l.length) (f e : Nat) : reachP x col lv ps l a (k + 1) f e = (reachP x col lv ps l a k f e || hitB x col lv ps[a] l[k] f e) := by
  unfold reachP
  rw [List.getElem?_eq_getElem ha]
  simp only
  rw [List.take_succ_eq_append_getElem hk, List.any_append, Bool.or_assoc]
  simp
theorem reachP_next {x col : Int} {lv : Nat → Nat → Bool} {ps : List SPr} {l : List STile} {a : Nat} (ha : a < ps.length) (f e : Nat) : reachP x col lv ps l a l.length f e = reachP x col lv ps l (a + 1) 0 f e := by
  unfold reachP
  rw [List.getElem?_eq_getElem ha, List.take_length, List.take_succ_eq_append_getElem ha, List.any_append]
  cases ps[a + 1]? <;> simp
theorem reachP_all {x col : Int} {lv : Nat → Nat → Bool} {ps : List SPr} {l : List STile} {c : Nat} {S : Nat → Nat → Bool} (hS : StP ps c S) (hf : Fine c l) : SameS c (reachP x col lv ps l ps.length 0) (nextS l x col S lv) := by
  intro f e hfc hec
  rw [Bool.eq_iff_iff]
  unfold reachP nextS
  rw [List.take_length, List.getElem?_eq_none (Nat.le_refl _), Bool.or_false]
  simp only [List.any_eq_true, hitB, adds, Bool.and_eq_true, decide_eq_true_eq]
  constructor
  · rintro ⟨p, hp, t, ht, ⟨⟨⟨⟨⟨h1, h2⟩, h3⟩, h4⟩, h5⟩, h6⟩⟩
    refine ⟨t, ht, ⟨⟨⟨h4, h5⟩, by rw [h2]; rfl⟩, ?_⟩, h6⟩
    obtain ⟨a0, a1, a2, a3⟩ := hf t ht
    rw [← hS.2 f t.f0.toNat hfc (by omega)]
    unfold memP
    rw [List.any_eq_true]
    exact ⟨p, hp, by simp only [Bool.and_eq_true, decide_eq_true_eq]; exact ⟨h1, by rw [← h3]; omega⟩⟩
  · rintro ⟨t, ht, ⟨⟨⟨h4, h5⟩, h2⟩, h7⟩, h6⟩
    obtain ⟨a0, a1, a2, a3⟩ := hf t ht
    rw [← hS.2 f t.f0.toNat hfc (by omega)] at h7
    unfold memP at h7
    rw [List.any_eq_true] at h7
    obtain ⟨p, hp, h8⟩ := h7
    simp only [Bool.and_eq_true, decide_eq_true_eq] at h8
    exact ⟨p, hp, t, ht, ⟨⟨⟨⟨⟨h8.1, by omega⟩, by omega⟩, h4⟩, h5⟩, h6⟩⟩
theorem memP_snoc (ps : List SPr) (x : SPr) (f e : Nat) : memP (ps ++ [x]) f e = (memP ps f e || (decide (x.f0 = (f : Int)) && decide (x.f1 = (e : Int)))) := by simp [memP]
theorem memP_some {ps : List SPr} {c : Nat} (h : LowP c ps) : decide (0 < ps.length) = someS c (memP ps) := by
  rw [Bool.eq_iff_iff, decide_eq_true_eq]
  constructor
  · intro hl
    have hm : ps[0] ∈ ps := List.getElem_mem _
    obtain ⟨⟨h1, h2⟩, h3, h4⟩ := h _ hm
    refine someS_true (f := ps[0].f0.toNat) (e := ps[0].f1.toNat) (by omega) (by omega) ?_
    unfold memP
    rw [List.any_eq_true]
    exact ⟨_, hm, by simp only [Bool.and_eq_true, decide_eq_true_eq]; omega⟩
  · intro hs
    cases ps with
    | nil => unfold someS memP at hs; simp at hs
    | cons x xs => simp
theorem contains_ev (ps : List SPr) (hl : ps.length ≤ 100000) (f e : Nat) : Ev (fun k => R.impl_pair_117.f k ps (f : Int) (e : Int)) (memP ps f e) := by
  have go : ∀ d i, i + d = ps.length → ∃ j : Int, Ev (fun k => R.impl_pair_122.l0 k ps (ps.length : Int) (i : Int) (f : Int) (e : Int)) j ∧ decide (j ≥ 0) = memP (ps.drop i) f e := by
    intro d
    induction d with
    | zero =>
      intro i hi
      have b1 : ¬ (i : Int) < (ps.length : Int) := by omega
      refine ⟨-1, Ev.step (f := fun _ => some (-1)) (fun k => by rw [R.impl_pair_122.l0, if_neg b1]) (Ev.now _), ?_⟩
      rw [List.drop_of_length_le (by omega)]; rfl
    | succ d ih =>
      intro i hi
      have hlt : i < ps.length := by omega
      have b1 : (i : Int) < (ps.length : Int) := by omega
      have b2 : (0 : Int) ≤ (i : Int) := Int.natCast_nonneg i
      have hrd : R.rd_T113 ps (i : Int) = ps[i] := by simp [R.rd_T113, List.getD_eq_getElem?_getD, List.getElem?_eq_getElem hlt]
      have hd : ps.drop i = ps[i] :: ps.drop (i + 1) := List.drop_eq_getElem_cons hlt
      have hm : memP (ps.drop i) f e = ((decide (ps[i].f0 = (f : Int)) && decide (ps[i].f1 = (e : Int))) || memP (ps.drop (i + 1)) f e) := by
        rw [hd]; unfold memP; rw [List.any_cons]
      by_cases hq : ((f : Int) == ps[i].f0 && ((e : Int) == ps[i].f1)) = true
      · refine ⟨(i : Int), Ev.step (f := fun _ => some (i : Int)) (fun k => by rw [R.impl_pair_122.l0, if_pos b1, if_pos b2, if_pos b1, hrd, if_pos hq]) (Ev.now _), ?_⟩
        rw [hm]
        simp only [Bool.and_eq_true, beq_iff_eq] at hq
        rw [decide_eq_true hq.1.symm, decide_eq_true hq.2.symm]
        simp
      · obtain ⟨j, h1, h2⟩ := ih (i + 1) (by omega)
        refine ⟨j, Ev.step (fun k => by rw [R.impl_pair_122.l0, if_pos b1, if_pos b2, if_pos b1, hrd, if_neg hq, succ_wrap i (by omega)]) h1, ?_⟩
        rw [h2, hm]
        have : (decide (ps[i].f0 = (f : Int)) && decide (ps[i].f1 = (e : Int))) = false := by
          rw [← Bool.not_eq_true]
          intro h3
          simp only [Bool.and_eq_true, decide_eq_true_eq] at h3
          exact hq (by simp [h3.1, h3.2])
        rw [this, Bool.false_or]
  obtain ⟨j, h1, h2⟩ := go ps.length 0 (by omega)
  rw [List.drop_zero] at h2
  refine Ev.congr (f := fun k => (R.impl_pair_122.l0 k ps (ps.length : Int) (0 : Int) (f : Int) (e : Int)).bind fun t => some (decide (t ≥ 0))) (fun k => by rw [R.impl_pair_117.f, R.impl_pair_122.f]) (Ev.bind h1 ?_)
  rw [h2]; exact Ev.now _
theorem contains_any (A : Option Addr) (ps : List SPr) (n c : Nat) (f e : Nat) (w : World) (hn : n = ps.length) (hC : Kd.C R.k113 w A ps.length ps) (hc : n ≤ c) (hl : n ≤ 100000) :
    Calls Try.prog 117 #[.slice A n c, .agg #[.int .i64 (f : Int), .int .i64 (e : Int)]] w fun e' w' => e' = .returned (.bool (memP ps f e)) ∧ Below w.heap.size w w' := by
  subst hn
  obtain ⟨k, hk⟩ := (contains_ev ps hl f e).rounds
  exact R.impl_pair_117.calls k A c ps (f : Int) (e : Int) _ w hC hc hk
def TabR (w : World) (AL : Option Addr) (c nw : Nat) (tab : Nat → List (List Int)) : Prop := ∀ f, f < c → ∃ b o A' c', AL = some ⟨b, o, none⟩ ∧ b < w.heap.size ∧ w.cell? ⟨b, o + f, none⟩ = some (.slice A' (nw + 1) c') ∧ RR w A' (tab f) ∧ nw + 1 ≤ c' ∧ (tab f).length = nw + 1
theorem TabR.below {w w' : World} {AL : Option Addr} {c nw : Nat} {tab : Nat → List (List Int)} (h : TabR w AL c nw tab) (hb : Below w.heap.size w w') : TabR w' AL c nw tab := by
  intro f hf
  obtain ⟨b, o, A', c', e, h1, h2, h3, h4, h5⟩ := h f hf
  exact ⟨b, o, A', c', e, Nat.lt_of_lt_of_le h1 hb.size, cell_to hb h2, h3.below hb, h4, h5⟩
end Go.Proofs.Ytenlcakpcbmmdaa
namespace Go.Proofs.Ytenlcakpcbmmdaa
open Go Go.RowKit Go.Proofs Go.Proofs.YtenlcakpcbmmdaaW.PrintWords Go.Proofs.YtenlcakpcbmmdaaW.PrintLast Go.Proofs.YtenlcakpcbmmdaaW.PrintMore
set_option linter.unusedVariables false
set_option linter.unusedSimpArgs false
theorem FS.wide {W W1 : World} (h : FS W W1 none) (r : Option Nat) : FS W W1 r := ⟨h.size, fun k hk _ ht => h.block k hk (by simp) ht⟩
theorem FS.refl (W : World) (r : Option Nat) : FS W W r := ⟨Nat.le_refl _, fun _ _ _ _ => rfl⟩
theorem FS.of_list {W W1 : World} {r : Option Nat} (hg : W.grownBy W1 r) (ht : ∀ k, r = some k → ∃ cells, W.heap[k]? = some (.cells cells 34 (0, 0))) : FS W W1 none :=
  ⟨hg.size, fun k hk _ hty => hg.block k hk (fun e => by
    obtain ⟨cells, hc⟩ := ht k e.symm
    exact (hty cells _ hc).2 rfl)⟩
theorem FS.of_set {W : World} {b : Nat} {C : Array Value} (h : BK W b C 43) (j : Nat) (u : Value) : FS W (W.setCell ⟨b, j, none⟩ u) none :=
  ⟨((Below.refl 0 W).setCell (p := ⟨b, j, none⟩) (Nat.zero_le _) u).size, fun k hk _ hty => Below.heap_setCell W ⟨b, j, none⟩ u k (fun e => by
    have e : k = b := e
    subst e
    exact (hty C _ h).1 rfl)⟩
theorem infoR9 : (Try.prog.info? 34).map (fun i => (i.zero, i.size, i.bytes)) = some (some (.slice none 0 0), 1, 24) := by kernel_rfl
theorem infoP9 : (Try.prog.info? 113).map (fun i => (i.zero, i.size, i.bytes)) = some (some (.agg #[.int .i64 0, .int .i64 0]), 2, 16) := by kernel_rfl
abbrev PS (W : World) (v : Value) (ps : List SPr) : Prop := Kd.R R.k113 113 W 0 (fun _ => True) v ps
theorem PS.tight {W : World} {v : Value} {ps : List SPr} (h : PS W v ps) : Kd.R R.k113 113 W 0 (fun k => some k = v.ownBlock) v ps := Kd.R_tight rfl h
theorem FS.ps {W W1 : World} {r : Option Nat} (h : FS W W1 r) {v : Value} {ps : List SPr} (hp : PS W v ps) (hne : ∀ k, v.ownBlock = some k → some k ≠ r) : PS W1 v ps := by
  refine Kd.R_mono (Kd.R_move (Kd.R_bound hp.tight) (fun k hk => ?_)) (fun _ _ => trivial)
  obtain ⟨h1, -, h2, q, hq, cells, hc⟩ := hk
  refine h.block k h2 (hne k h1.symm) (fun cells' t hc' => ?_)
  have e : q = 113 := by
    have : q ∈ [113] := hq
    simpa using this
  subst e
  rw [hc] at hc'
  injection hc' with hc'
  injection hc' with _ e2 _
  subst e2
  exact ⟨by decide, by decide⟩
theorem PS.ne {W : World} {v lv : Value} {ps : List SPr} {base : Nat} {xs : List Int} (h : PS W v ps) (hO : OI W base 2 lv xs) : ∀ k, v.ownBlock = some k → some k ≠ lv.ownBlock := by
  intro k hk e
  obtain ⟨cells, hc⟩ := Kd.R_typed h k hk
  have := hO.typed k cells _ e.symm hc
  exact absurd this (by decide)
theorem PS.cells {W : World} {A : Option Addr} {n c : Nat} {ps : List SPr} (h : PS W (.slice A n c) ps) {a : Nat} (ha : a < ps.length) : ∃ g, A = some ⟨g, 0, none⟩ ∧ g < W.heap.size ∧ W.cell? ⟨g, a * 2, none⟩ = some (.int .i64 ps[a].f0) ∧ W.cell? ⟨g, a * 2 + 1, none⟩ = some (.int .i64 ps[a].f1) := by
  obtain ⟨A', c', e, -, hC⟩ := Kd.R_reads h
  injection e with e1 e2 e3
  subst e1
  obtain ⟨ad, he, h0, h1⟩ := R.at_T113 hC (a : Int) (by omega) (by omega)
  subst he
  obtain ⟨g, rfl⟩ := Kd.R_head h
  have hr : R.rd_T113 ps (a : Int) = ps[a] := by simp [R.rd_T113, List.getD_eq_getElem?_getD, List.getElem?_eq_getElem ha]
  rw [hr] at h0 h1
  have e0 : (a : Int).toNat = a := by omega
  rw [e0] at h0 h1
  rw [add_none] at h0 h1
  exact ⟨g, rfl, by have := World.block_lt_of_cell? _ _ h0; exact this, h0, h1⟩
def CntP (ps : List SPr) : Prop := ps.length ≤ (List.range 36).countP fun k => memP ps (k / 6) (k % 6)
theorem CntP.le {ps : List SPr} (h : CntP ps) : ps.length ≤ 36 := Nat.le_trans h (by have := @List.countP_le_length _ (fun k => memP ps (k / 6) (k % 6)) (List.range 36); simpa using this)
theorem countP_lt {p q : Nat → Bool} (h : ∀ k, p k = true → q k = true) {m : Nat} (hq : q m = true) (hp : p m = false) : ∀ n, m < n → (List.range n).countP p < (List.range n).countP q := by
  intro n
  induction n with
  | zero => intro hm; omega
  | succ n ih =>
    intro hm
    rw [List.range_succ, List.countP_append, List.countP_append, List.countP_singleton, List.countP_singleton]
    by_cases e : m = n
    · subst e
      have : (List.range m).countP p ≤ (List.range m).countP q := List.countP_mono_left (fun x _ hx => h x hx)
      simp [hq, hp]; omega
    · have := ih (by omega)
      by_cases hpn : p n = true
      · simp [hpn, h n hpn, this]
      · simp only [hpn]
        split
        · simp at *
        · omega
theorem CntP.nil : CntP [] := by unfold CntP; simp
theorem CntP.snoc {ps : List SPr} (h : CntP ps) {f e : Nat} (hf : f < 6) (he : e < 6) (hm : memP ps f e = false) : CntP (ps ++ [⟨(f : Int), (e : Int)⟩]) := by
  unfold CntP at h ⊢
  rw [List.length_append, List.length_singleton]
  refine Nat.lt_of_le_of_lt h (countP_lt (m := f * 6 + e) (fun k hk => ?_) ?_ ?_ 36 (by omega))
  · rw [memP_snoc, hk, Bool.true_or]
  · have e1 : (f * 6 + e) / 6 = f := by omega
    have e2 : (f * 6 + e) % 6 = e := by omega
    rw [e1, e2, memP_snoc]; simp
  · have e1 : (f * 6 + e) / 6 = f := by omega
    have e2 : (f * 6 + e) % 6 = e := by omega
    rw [e1, e2]; exact hm
theorem LowP.snoc {c : Nat} {ps : List SPr} (h : LowP c ps) {f e : Nat} (hf : f < c) (he : e < c) : LowP c (ps ++ [⟨(f : Int), (e : Int)⟩]) := by
  intro x hx
  rw [List.mem_append, List.mem_singleton] at hx
  rcases hx with hx | rfl
  · exact h x hx
  · exact ⟨⟨by show (0 : Int) ≤ (f : Int); omega, by show (f : Int) < (c : Int); omega⟩, by show (0 : Int) ≤ (e : Int); omega, by show (e : Int) < (c : Int); omega⟩
structure SC (w7 : World) (b0 b1 bl be bo : Nat) (C : Int) (cn : Nat) (A : Option Addr) (ts : List T4) (n c : Nat) (A1 : Option Addr) (word : List Int) (n1 c1 : Nat) (AL : Option Addr) (cL : Nat) (tab : Nat → List (List Int)) (rounds : Bool) : Prop where
  hC : C = (cn : Int)
  c0 : 0 < cn
  c6 : cn ≤ 6
  hn : n = ts.length
  hA : RT w7 A ts
  hl : n ≤ 1000
  hn1 : n1 = word.length
  hA1 : RI w7 A1 word
  h1 : 1 ≤ n1
  hl1 : n1 ≤ 1000
  k0 : BK w7 b0 #[.int .i64 C, .slice A n c] 30
  k1 : BK w7 b1 #[.slice A1 n1 c1] 34
  kl : BK w7 bl #[.slice AL cn cL] 110
  hT : TabR w7 AL cn word.length tab
  fine : Fine cn (ts.map toS)
  tl : ∀ f i e, f < cn → i ≤ word.length → e < cn → decide (0 < ik (rowAt (tab f) i) e) = lvAt (ts.map toS) word cn rounds i f e
  tr : ∀ f i, f < cn → i ≤ word.length → rowLen (tab f) i = cn
  hbo : w7.heap.size ≤ bo
  hbe : w7.heap.size ≤ be
end Go.Proofs.Ytenlcakpcbmmdaa
namespace Go.Proofs.Ytenlcakpcbmmdaa
open Go Go.RowKit Go.Proofs Go.Proofs.YtenlcakpcbmmdaaW.PrintWords Go.Proofs.YtenlcakpcbmmdaaW.PrintLast Go.Proofs.YtenlcakpcbmmdaaW.PrintMore
set_option linter.unusedVariables false
set_option linter.unusedSimpArgs false
def sou_T3 : Bool × List (List Nat × List Nat) := (true, [([], []), ([], []), ([1], [1]), ([2], [2]), ([0, 3, 2], [0, 3]), ([4, 4, 0, 1, 2, 3, 4], [4])])
def sou_B3 : List Nat := [0, 0, 2, 6, 15, 31]
theorem sou_tab3 : rtab .any (opsOf Try.f115 3) = sou_T3 := by kernel_rfl
theorem sou_bits3 : waitsOk sou_T3.2 sou_B3 = true := by kernel_rfl
set_option maxHeartbeats 8000000 in
set_option maxRecDepth 100000 in
theorem south2_leaf (w7 : World) (b0 b1 bl be bo : Nat) (C : Int) (cn : Nat) (A : Option Addr) (ts : List T4) (n c : Nat) (A1 : Option Addr) (word : List Int) (n1 c1 : Nat) (AL : Option Addr) (cL : Nat) (tab : Nat → List (List Int)) (rounds : Bool)
    (HS : SC w7 b0 b1 bl be bo C cn A ts n c A1 word n1 c1 AL cL tab rounds) (pre : List Int) (lv pv : Value) (vs : List (List Int)) (ok : Nat → Prop) (W : World)
    (hpl : pre.length = n1) (hB : Below w7.heap.size w7 W) (hO : OI W w7.heap.size 2 lv pre) (hok : ∀ k, W.heap.size ≤ k → ok k) (hJ : JO w7.heap.size bo vs W (fun k => ok k ∧ some k ≠ lv.ownBlock)) (hvs : vs.length ≤ 200) :
    Calls Try.prog 115 #[lv, pv, .pointer (some ⟨b1, 0, none⟩), .pointer (some ⟨bo, 0, none⟩), .pointer (some ⟨b0, 0, none⟩), .pointer (some ⟨bl, 0, none⟩), .pointer (some ⟨be, 0, none⟩)] W fun e w' => e = .returned (.bool (decide (vs.length + 1 ≤ 200))) ∧ Below w7.heap.size w7 w' ∧ FS W w' lv.ownBlock ∧ OI w' w7.heap.size 2 lv pre ∧ JO w7.heap.size bo (vs ++ [pre]) w' (fun k => ok k ∧ some k ≠ lv.ownBlock) := by
  have hHS := Lib.hid HS
  have h1 := HS.h1; have hl1 := HS.hl1; have hbo := HS.hbo
  have k1 := HS.k1.below hB HS.k1.lt
  have z1 : W.cell? ⟨b1, 0, none⟩ = some (.slice A1 n1 c1) := k1.cell rfl
  obtain ⟨Al, cl, rfl, hRI, hcl⟩ := hO.reads
  obtain ⟨v0, hv0, hS0, -⟩ := hJ
  obtain ⟨gl, hgl⟩ : ∃ g : Nat, Al = some ⟨g, 0, none⟩ := by
    rcases hO.2 with ⟨hv, hn0⟩ | ⟨g', cap, cur, hv, -⟩
    · omega
    · injection hv with hv; exact ⟨g', hv⟩
  subst hgl
  rw [hpl] at hcl hO hS0 ⊢
  obtain ⟨A0, c0, rfl⟩ := Kd.S_slice hS0
  have lb1 := k1.lt
  have vP : ((n1 : Int) == (n1 : Int)) = true := by simp
  have zo : W.cell? ⟨bo, 0, none⟩ = some (.slice A0 vs.length c0) := hv0.cell rfl
  have HRI := Lib.hid hRI; have HPL := Lib.hid hpl; have HBW := Lib.hid hB; have HO := Lib.hid hO; have HV0 := Lib.hid hv0; have HS0 := Lib.hid hS0; have HOK := Lib.hid hok; have HVS := Lib.hid hvs
  clear HS hRI hpl hB hO hv0 hS0 hok k1
  go_enter Try.func115, Try.ntmps115
  go_upto_region 3 with fail
  have hD := (Below.refl W.heap.size W).drew
  refine start_ (n := 6) (S := fun w' => w'.cell? ⟨bo, 0, none⟩ = some (.slice A0 vs.length c0)) (ds := [5]) #[false, false, false, false, false, false] (by kernel_rfl) rfl rfl (cell_to hD zo) (fun hHeld => ?_)
  refine with_tabW sou_tab3 sou_bits3 (fun HT_ HW_ => ?_)
  have HDB := Lib.hid hD
  generalize W.drew = wd at hD HDB hHeld ⊢
  refine pure_ (i := 1) (N := some 25) (v := ?_) (a' := ?_) #[false, true, false, false, false, false] rfl rfl (any_of HT_.out (by kernel_rfl)) (fun _ _ _ h => h) (Or.inl ⟨by rfl, ?_⟩) ?_ ?_
  rotate_left
  · intro w'
    go_simp
    with_reducible rfl
  rotate_left
  · simp only [Act.put, List.setIfInBounds_toArray, List.set_cons_zero, List.set_cons_succ, i64_w, i32_w]
    rfl
  refine take_ (i := 0) (N := some 24) (v := ?_) (a' := ?_) #[true, true, false, false, false, false] rfl rfl (take_ofW HT_.out HW_.out (by kernel_rfl)) (fun _ _ _ h => h) (Or.inl ⟨by rfl, ?_⟩) hHeld ?_ ?_
  rotate_left
  · intro w' s0
    go_simp
    with_reducible rfl
  rotate_left
  · simp only [Act.put, List.setIfInBounds_toArray, List.set_cons_zero, List.set_cons_succ, i64_w, i32_w]
    rfl
  refine one_ (i := 2) (N := some 26) #[true, true, true, false, false, false] rfl rfl (one_of HT_.out (by kernel_rfl)) (by decide) (fun K hK => ?_)
  refine goes_ Try.func116 (by kernel_rfl) rfl #[.slice (some ⟨gl, 0, none⟩) n1 cl] (by rfl) rfl rfl (by simp only [List.map_toArray, List.map_cons, List.map_nil]; rfl) ?_
  with_reducible refine (CloneI_any ⟨gl, 0, none⟩ pre n1 cl wd HPL.out.symm (by omega) (HRI.out.below HDB.out) (by omega)).mono ?_
  rintro e w2 ⟨g2, c2, rfl, hO2, hB2⟩
  refine ⟨_, rfl, ?_⟩
  have HO2 := Lib.hid hO2; have HB2 := Lib.hid hB2
  refine hK.out _ _ (cell_to hB2 hHeld) (fun hHeld => ?_)
  clear hK K
  refine norm_ (a' := ?_) ?_ ?_
  rotate_left
  · show Act.put _ (some 26) _ = _
    simp only [Act.put, List.setIfInBounds_toArray, List.set_cons_zero, List.set_cons_succ, i64_w, i32_w]
    rfl
  refine one_ (i := 3) (N := some 27) #[true, true, true, true, false, false] rfl rfl (one_of HT_.out (by kernel_rfl)) (by decide) (fun K hK => ?_)
  refine value_ (w1 := ?_) (v := ?_) (by rfl) rfl ?_ ?_
  rotate_left 2
  · go_simp
    constructor
    · rfl
    · rfl
  refine hK.out _ _ (cell_to (below_alloc (Below.refl _ _) _) hHeld) (fun hHeld => ?_)
  clear hK K
  refine norm_ (a' := ?_) ?_ ?_
  rotate_left
  · show Act.put _ (some 27) _ = _
    simp only [Act.put, List.setIfInBounds_toArray, List.set_cons_zero, List.set_cons_succ, i64_w, i32_w]
    rfl
  refine one_ (i := 4) (N := some 28) #[true, true, true, true, true, false] rfl rfl (one_of HT_.out (by kernel_rfl)) (by decide) (fun K hK => ?_)
  have hg2 : wd.heap.size ≤ g2 := own_lo HO2.out g2 rfl
  have hdz := HDB.out.size
  have hwz : w7.heap.size ≤ W.heap.size := HBW.out.size
  refine Kd.S_append_step (Kd.slice 2 (Kd.int .i64)) (w0 := w7) w7.heap.size (by rfl) (.tmp 24) (.tmp 27) 43 34 (.slice none 0 0) 24 rfl (by kernel_rfl) infoR9 rfl (by decide) (by omega) (.slice A0 vs.length c0) vs pre [.slice (some ⟨g2, 0, none⟩) n1 c2] (fun k => ok k ∧ some k ≠ (Value.slice (some ⟨gl, 0, none⟩) n1 cl).ownBlock) (fun k_ => some k_ = (Value.slice (some ⟨g2, 0, none⟩) n1 c2).ownBlock) rfl rfl ?aP ?aK ?aF ?aO ?aB ?aS ?aL ?_
  (case aP => exact Kd.M_row (Kd.R_tight rfl (Kd.R_of_own (ok := fun _ => True) (by have h := own_base HO2.out (Nat.le_trans hwz hdz); have e := HPL.out; unfold OI at h; rw [e] at h; rw [e]; exact h) (fun _ _ => trivial))))
  (case aK => exact fun k hk => (by have e2 : k = g2 := Option.some.inj hk; subst e2; refine ⟨⟨HOK.out _ (by omega), fun e => ?_⟩, fun e => ?_⟩; (· have := (HO.out.lt _ e.symm).2; omega); (· have := Kd.S_lt HS0.out _ e.symm; omega)))
  (case aF => exact fun k hk => ⟨HOK.out k (by have := HB2.out.size; omega), fun e => (by have := (HO.out.lt k e.symm).2; have := HB2.out.size; omega)⟩)
  (case aO => exact Kd.S_mono (Kd.S_old (Kd.S_below (Kd.S_bound HS0.out) HDB.out) HB2.out) (fun k hk => ⟨hk.1.1, fun e => (by have e2 : k = g2 := Option.some.inj e; have := hk.2; omega)⟩))
  (case aB => exact (HBW.out.trans (HDB.out.mono hwz)).trans (HB2.out.mono (by omega)))
  (case aS => exact Nat.le_trans (by omega) HB2.out.size)
  (case aL => have := HVS.out; omega)
  intro v1 w3 hS3 hB3 hG3 hat3
  obtain ⟨A9, c9, hv1⟩ := Kd.S_slice hS3
  rw [List.length_append, List.length_singleton] at hv1
  subst hv1
  have HS3 := Lib.hid hS3; have HB3 := Lib.hid hB3
  have hDD := below_to HDB.out HB2.out
  have hko2 := HV0.out.below hDD HV0.out.lt
  have hne0 : some bo ≠ (Value.slice A0 vs.length c0).ownBlock := Kd.S_ne (Kd.S_below (Kd.S_below HS0.out HDB.out) HB2.out) hko2 (by decide)
  have HKO := Lib.hid (hko2.grown hG3 hne0)
  have hF3 : FS W w3 none := (FS.of_below hDD (Nat.le_refl _) none).trans (FS.of_list hG3 (Kd.S_typed (Kd.S_below (Kd.S_below HS0.out HDB.out) HB2.out))) (.inl rfl)
  have HF3 := Lib.hid hF3
  have zo3 := HKO.out.cell (k := 0) rfl; have fo3 := HKO.out.frozen 0
  refine hK.out _ _ (zo3) (fun hHeld => ?_)
  clear hK K
  refine norm_ (a' := ?_) ?_ ?_
  rotate_left
  · show Act.put _ (some 28) _ = _
    simp only [Act.put, List.setIfInBounds_toArray, List.set_cons_zero, List.set_cons_succ, i64_w, i32_w]
    rfl
  refine last_ (i := 5) (N := none) #[true, true, true, true, true, true] rfl rfl (one_of HT_.out (by kernel_rfl)) (by decide) (fun K hK => ?_)
  refine skip_ (w1 := ?_) (by rfl) rfl ?_ ?_
  rotate_left
  · go_simp
    rfl
  have hK9 := HKO.out.set 0 (.slice A9 (vs.length + 1) c9)
  have hS9 := Kd.S_set HS3.out HKO.out (by decide) 0 (.slice A9 (vs.length + 1) c9)
  have hFn := HF3.out.trans (FS.of_set HKO.out 0 (.slice A9 (vs.length + 1) c9)) (.inl rfl)
  have hF9 := hFn.wide (Value.slice (some ⟨gl, 0, none⟩) n1 cl).ownBlock
  have hB9 := HB3.out.setCell (p := ⟨bo, 0, none⟩) hbo (.slice A9 (vs.length + 1) c9)
  have hO9 := hFn.oi HO.out (fun k hk => by simp)
  refine hK.out _ _ ?_
  clear hK K
  refine done_ (done_of HT_.out (by kernel_rfl)) ?_
  generalize w3.setCell ⟨bo, 0, none⟩ (.slice A9 (vs.length + 1) c9) = w9 at hK9 hS9 hFn hF9 hB9 hO9 ⊢
  have HB9 := Lib.hid hB9; have HF9 := Lib.hid hF9; have HO9 := Lib.hid hO9; have HK9 := Lib.hid hK9; have HS9 := Lib.hid hS9
  have zz : w9.cell? ⟨bo, 0, none⟩ = some (.slice A9 (vs.length + 1) c9) := HK9.out.cell rfl
  have lz := World.block_lt_of_cell? _ _ zz
  simp only at lz
  clear hB9 hF9 hO9 hK9 hS9
  have hde : decide ((vs.length : Int) + 1 ≤ 200) = decide (vs.length + 1 ≤ 200) := decide_eq_decide.2 ⟨fun h => by omega, fun h => by omega⟩
  have HDE := Lib.hid hde; clear hde
  go_wp2_with fail
  go_ret
  exact ⟨by rw [← HDE.out]; rfl, HB9.out, HF9.out, HO9.out, _, HK9.out, HS9.out, hHS.out.hbo⟩
end Go.Proofs.Ytenlcakpcbmmdaa
namespace Go.Proofs.Ytenlcakpcbmmdaa
open Go Go.RowKit Go.Proofs Go.Proofs.YtenlcakpcbmmdaaW.PrintWords Go.Proofs.YtenlcakpcbmmdaaW.PrintLast Go.Proofs.YtenlcakpcbmmdaaW.PrintMore
set_option linter.unusedVariables false
set_option linter.unusedSimpArgs false
theorem fresh_okS {W wd w1 : World} {base : Nat} {e : TypeId} {v : Value} {xs : List Int} {ok : Nat → Prop} {r r1 : Option Nat} (hO : OI wd base e v xs) (hF : FS W wd r1) (hF1 : FS wd w1 r) (hok : ∀ k, W.heap.size ≤ k → ok k) : ∀ k, w1.heap.size ≤ k → ok k ∧ some k ≠ v.ownBlock :=
  fun k hk => ⟨hok k (by have := hF.size; have := hF1.size; omega), fun e => by have := (hO.lt k e.symm).2; have := hF1.size; omega⟩
theorem after_appS {N bo : Nat} {wd w1 : World} {base : Nat} {vs : List (List Int)} {ok : Nat → Prop} {v v1 : Value} {xs : List Int} (h : JO N bo vs wd (fun k => ok k ∧ some k ≠ v.ownBlock)) (hO : OI wd base 2 v xs)
    (hg : FS wd w1 v.ownBlock ∧ wd.grownBy w1 v.ownBlock ∧ (v1.ownBlock = v.ownBlock ∨ ∃ b, v1.ownBlock = some b ∧ wd.heap.size ≤ b)) : JO N bo vs w1 (fun k => (ok k ∧ some k ≠ v.ownBlock) ∧ some k ≠ v1.ownBlock) := by
  have h1 : JO N bo vs w1 (fun k => (ok k ∧ some k ≠ v.ownBlock) ∧ k < wd.heap.size) := h.bound.step (by
    obtain ⟨u, a1, -, -⟩ := h
    exact hg.2.1.block _ a1.lt (oi_fn hO a1 (by decide))) (fun k hk hlt => hg.2.1.block k hlt hk.1.2)
  refine h1.mono (fun k hk => ⟨hk.1, fun e => ?_⟩)
  rcases hg.2.2 with h2 | ⟨b, h2, hb⟩
  · exact hk.1.2 (e.trans h2)
  · rw [h2] at e; injection e with e; have := hk.2; omega
theorem R_empty9 {W : World} {b base : Nat} (hb : BK W b #[] 113) (hbase : base ≤ b) : Kd.R R.k113 113 W base (fun _ => True) (.slice (some ⟨b, 0, none⟩) 0 0) [] :=
  ⟨fun _ _ => trivial, [], ⟨rfl, .inr ⟨b, 0, #[], rfl, hbase, hb, Nat.le_refl _, by decide, rfl, rfl⟩⟩, ⟨rfl, fun j p hj => by simp at hj⟩⟩
structure QS (N : Nat) (w : World) (v : Value) (cn : Nat) (F : Nat → Nat → Bool) (qs : List SPr) : Prop where
  r : Kd.R R.k113 113 w N (fun _ => True) v qs
  low : LowP cn qs
  cnt : CntP qs
  mem : ∀ f e, f < cn → e < cn → memP qs f e = F f e
theorem QS.to {N : Nat} {w w1 : World} {v : Value} {cn : Nat} {F F' : Nat → Nat → Bool} {qs : List SPr} (h : QS N w v cn F qs) (hb : Below w.heap.size w w1) (hF : ∀ f e, f < cn → e < cn → F' f e = F f e) : QS N w1 v cn F' qs :=
  ⟨Kd.R_below h.r hb, h.low, h.cnt, fun f e hf he => (h.mem f e hf he).trans (hF f e hf he).symm⟩
theorem hit_is {x col : Int} {lv : Nat → Nat → Bool} {p : SPr} {t : STile} {pf te : Nat} (hp : p.f0 = (pf : Int)) (ht : t.f2 = (te : Int)) (f e : Nat) : hitB x col lv p t f e = (decide (f = pf) && decide (e = te) && (decide (t.f0 = p.f1) && decide (t.f1 = x) && decide (t.f3 = col) && lv pf te)) := by
  unfold hitB
  rw [hp, ht]
  by_cases h1 : f = pf
  · subst h1
    by_cases h2 : e = te
    · subst h2; simp
    · have : ¬ ((te : Int) = (e : Int)) := by omega
      simp [h2, this]
  · have : ¬ ((pf : Int) = (f : Int)) := by omega
    simp [h1, this]
theorem reach_no {x col : Int} {lv : Nat → Nat → Bool} {ps : List SPr} {l : List STile} {a k : Nat} (ha : a < ps.length) (hk : k < l.length) {pf te : Nat} (hp : ps[a].f0 = (pf : Int)) (ht : l[k].f2 = (te : Int))
    (h : (decide (l[k].f0 = ps[a].f1) && decide (l[k].f1 = x) && decide (l[k].f3 = col) && lv pf te) = false) (f e : Nat) : reachP x col lv ps l a (k + 1) f e = reachP x col lv ps l a k f e := by
  rw [reachP_tile ha hk, hit_is hp ht, h, Bool.and_false, Bool.or_false]
theorem reach_yes {x col : Int} {lv : Nat → Nat → Bool} {ps : List SPr} {l : List STile} {a k : Nat} (ha : a < ps.length) (hk : k < l.length) {pf te : Nat} (hp : ps[a].f0 = (pf : Int)) (ht : l[k].f2 = (te : Int))
    (h : (decide (l[k].f0 = ps[a].f1) && decide (l[k].f1 = x) && decide (l[k].f3 = col) && lv pf te) = true) (f e : Nat) : reachP x col lv ps l a (k + 1) f e = (reachP x col lv ps l a k f e || (decide (f = pf) && decide (e = te))) := by
  rw [reachP_tile ha hk, hit_is hp ht, h, Bool.and_true]
theorem QS.had {N : Nat} {w w1 : World} {v : Value} {cn : Nat} {F F' : Nat → Nat → Bool} {qs : List SPr} {pf te : Nat} (h : QS N w v cn F qs) (hb : Below w.heap.size w w1) (hm : memP qs pf te = true) (hp : pf < cn) (ht : te < cn) (hF : ∀ f e, F' f e = (F f e || (decide (f = pf) && decide (e = te)))) : QS N w1 v cn F' qs := by
  refine h.to hb (fun f e hf he => ?_)
  rw [hF]
  by_cases h1 : f = pf
  · subst h1
    by_cases h2 : e = te
    · subst h2; rw [← h.mem f e hp ht, hm]; simp
    · simp [h2]
  · simp [h1]
theorem QS.put {N : Nat} {w : World} {v : Value} {cn : Nat} {F F' : Nat → Nat → Bool} {qs : List SPr} {pf te : Nat} (hl : LowP cn qs) (hc : CntP qs) (hq : ∀ f e, f < cn → e < cn → memP qs f e = F f e) (c6 : cn ≤ 6) (hm : memP qs pf te = false) (hp : pf < cn) (ht : te < cn) (hF : ∀ f e, F' f e = (F f e || (decide (f = pf) && decide (e = te))))
    (hr : Kd.R R.k113 113 w N (fun _ => True) v (qs ++ [⟨(pf : Int), (te : Int)⟩])) : QS N w v cn F' (qs ++ [⟨(pf : Int), (te : Int)⟩]) := by
  refine ⟨hr, hl.snoc hp ht, hc.snoc (by omega) (by omega) hm, fun f e hf he => ?_⟩
  rw [memP_snoc, hq f e hf he, hF]
  have e1 : decide (((pf : Nat) : Int) = (f : Int)) = decide (f = pf) := decide_eq_decide.2 ⟨fun h => by omega, fun h => by omega⟩
  have e2 : decide (((te : Nat) : Int) = (e : Int)) = decide (e = te) := decide_eq_decide.2 ⟨fun h => by omega, fun h => by omega⟩
  show (F f e || (decide (((pf : Nat) : Int) = (f : Int)) && decide (((te : Nat) : Int) = (e : Int)))) = _
  rw [e1, e2]
theorem QS.done {N : Nat} {w : World} {v : Value} {cn : Nat} {qs ps : List SPr} {x col : Int} {lv : Nat → Nat → Bool} {l : List STile} {S : Nat → Nat → Bool} (h : QS N w v cn (reachP x col lv ps l ps.length 0) qs) (hS : StP ps cn S) (hf : Fine cn l) : StP qs cn (nextS l x col S lv) :=
  ⟨h.low, fun f e hfc hec => (h.mem f e hfc hec).trans (reachP_all hS hf f e hfc hec)⟩
theorem some_pairs {cn : Nat} {qs : List SPr} {S : Nat → Nat → Bool} (h : StP qs cn S) : decide (0 < qs.length) = someS cn S := by
  rw [memP_some h.1]
  exact someS_congr (fun f e hf he => h.2 f e hf he)
theorem startsP (cn : Nat) : StP ((List.range cn).map fun (f : Nat) => (⟨(f : Int), (f : Int)⟩ : SPr)) cn startS := by
  refine ⟨fun x hx => ?_, fun f e hf he => ?_⟩
  · rw [List.mem_map] at hx
    obtain ⟨f, hf, rfl⟩ := hx
    rw [List.mem_range] at hf
    exact ⟨⟨by show (0 : Int) ≤ (f : Int); omega, by show (f : Int) < (cn : Int); omega⟩, by show (0 : Int) ≤ (f : Int); omega, by show (f : Int) < (cn : Int); omega⟩
  · rw [Bool.eq_iff_iff]
    unfold memP startS
    simp only [List.any_eq_true, List.mem_map, List.mem_range, Bool.and_eq_true, decide_eq_true_eq]
    constructor
    · rintro ⟨x, ⟨g, hg, rfl⟩, h1, h2⟩
      have h1 : (g : Int) = (f : Int) := h1
      have h2 : (g : Int) = (e : Int) := h2
      omega
    · intro hfe
      subst hfe
      exact ⟨_, ⟨f, hf, rfl⟩, rfl, rfl⟩
theorem startsC (cn : Nat) (h : cn ≤ 6) : CntP ((List.range cn).map fun (f : Nat) => (⟨(f : Int), (f : Int)⟩ : SPr)) := by
  induction cn with
  | zero => exact CntP.nil
  | succ c ih =>
    rw [List.range_succ, List.map_append, List.map_singleton]
    refine (ih (by omega)).snoc (by omega) (by omega) ?_
    rw [Bool.eq_false_iff]
    intro hm
    unfold memP at hm
    simp only [List.any_eq_true, List.mem_map, List.mem_range, Bool.and_eq_true, decide_eq_true_eq] at hm
    obtain ⟨x, ⟨g, hg, rfl⟩, h1, h2⟩ := hm
    have h1 : (g : Int) = (c : Int) := h1
    omega
def PW (l : List STile) (word : List Int) (c : Nat) (rounds : Bool) (d i : Nat) (S : Nat → Nat → Bool) (b : List Int) (k : Nat) : List (List Int) := (List.range k).flatMap (wordsC l word c rounds d i S b)
theorem PW_zero (l : List STile) (word : List Int) (c : Nat) (rounds : Bool) (d i : Nat) (S : Nat → Nat → Bool) (b : List Int) : PW l word c rounds d i S b 0 = [] := rfl
theorem PW_succ (l : List STile) (word : List Int) (c : Nat) (rounds : Bool) (d i : Nat) (S : Nat → Nat → Bool) (b : List Int) (k : Nat) : PW l word c rounds d i S b (k + 1) = PW l word c rounds d i S b k ++ wordsC l word c rounds d i S b k := by
  unfold PW
  rw [List.range_succ, List.flatMap_append]; simp
theorem PW_all (l : List STile) (word : List Int) (c : Nat) (rounds : Bool) (d i : Nat) (S : Nat → Nat → Bool) (b : List Int) : PW l word c rounds d i S b c = wordsF l word c rounds (d + 1) i S b := rfl
theorem PW_rest (l : List STile) (word : List Int) (c : Nat) (rounds : Bool) (d i : Nat) (S : Nat → Nat → Bool) (b : List Int) {k : Nat} (hk : k < c) : ∃ rest, wordsF l word c rounds (d + 1) i S b = PW l word c rounds d i S b k ++ wordsC l word c rounds d i S b k ++ rest := by
  have go : ∀ m, k + 1 + m ≤ c → ∃ rest, PW l word c rounds d i S b (k + 1 + m) = PW l word c rounds d i S b k ++ wordsC l word c rounds d i S b k ++ rest := by
    intro m
    induction m with
    | zero => intro _; exact ⟨[], by rw [Nat.add_zero, PW_succ, List.append_nil]⟩
    | succ m ih =>
      intro hm
      obtain ⟨r, hr⟩ := ih (by omega)
      exact ⟨r ++ wordsC l word c rounds d i S b (k + 1 + m), by rw [← Nat.add_assoc, PW_succ, hr, List.append_assoc]⟩
  obtain ⟨r, hr⟩ := go (c - (k + 1)) (by omega)
  rw [show k + 1 + (c - (k + 1)) = c by omega] at hr
  exact ⟨r, by rw [← PW_all]; exact hr⟩
theorem stop_ {α : Type} {vs P W R : List α} (h1 : (vs ++ P).length ≤ 200) (h2 : ¬ (vs ++ P).length + W.length ≤ 200) : (vs ++ P) ++ W.take (201 - (vs ++ P).length) = vs ++ (P ++ W ++ R).take (201 - vs.length) ∧ ¬ vs.length + (P ++ W ++ R).length ≤ 200 := by
  have h3 : (vs ++ P).length = vs.length + P.length := List.length_append
  rw [h3] at h1 h2 ⊢
  refine ⟨?_, ?_⟩
  · rw [List.append_assoc, List.append_assoc]
    congr 1
    rw [List.take_append, List.take_of_length_le (l := P) (by omega)]
    congr 1
    rw [show 201 - vs.length - P.length = 201 - (vs.length + P.length) by omega, List.take_append_of_le_length (by omega)]
  · rw [List.length_append, List.length_append]; omega
theorem all_ {α : Type} {vs W : List α} (h : vs.length + W.length ≤ 200) : vs ++ W.take (201 - vs.length) = vs ++ W := by
  rw [List.take_of_length_le (by omega)]
end Go.Proofs.Ytenlcakpcbmmdaa
namespace Go.Proofs.Ytenlcakpcbmmdaa
open Go Go.RowKit Go.Proofs Go.Proofs.YtenlcakpcbmmdaaW.PrintWords Go.Proofs.YtenlcakpcbmmdaaW.PrintLast Go.Proofs.YtenlcakpcbmmdaaW.PrintMore
set_option linter.unusedVariables false
set_option linter.unusedSimpArgs false
def sou_T20 : Bool × List (List Nat × List Nat) := (true, [([], []), ([0], [0]), ([1], [1]), ([2], [2]), ([3], [3]), ([3], [3]), ([3], [3]), ([6, 3], [3, 6]), ([5, 7, 3, 3], [3, 5, 7]), ([3], [3]), ([4, 8, 9, 8, 3], [3, 4, 8, 9]), ([10, 3], [3, 10]), ([3, 11], [3, 11])])
def sou_B20 : List Nat := [0, 1, 3, 7, 15, 15, 15, 79, 239, 15, 1023, 2047, 4095]
theorem sou_tab20 : rtab .any (opsOf Try.f115 20) = sou_T20 := by kernel_rfl
theorem sou_bits20 : waitsOk sou_T20.2 sou_B20 = true := by kernel_rfl
theorem nameS9 {P : Program} {c : Code} {Q : Exit → Act → World → Prop} {a : Act} {w : World} {C1 : Array Value} {E1 : TypeId}
    (h : ∀ W, BK W w.heap.size C1 E1 → Below w.heap.size w W → c.wp P Q a W) : c.wp P Q a (w.alloc (.cells C1 E1)) := h _ (BK.new _ _ _) (below_alloc (Below.refl _ _) _)
def SouthC (w7 : World) (b0 b1 bl be bo : Nat) (tF : TypeId) (C : Int) (cn : Nat) (A : Option Addr) (ts : List T4) (n c : Nat) (A1 : Option Addr) (word : List Int) (n1 c1 : Nat) (AL : Option Addr) (cL : Nat) (tab : Nat → List (List Int)) (rounds : Bool) (d : Nat) : Prop :=
  ∀ (i : Nat) (pre : List Int) (lv pv : Value) (ps : List SPr) (S : Nat → Nat → Bool) (vs : List (List Int)) (ok : Nat → Prop) (W : World), i + d = n1 → pre.length = i → Below w7.heap.size w7 W → BK W be #[.func (.func 115) #[] #[.pointer (some ⟨b1, 0, none⟩), .pointer (some ⟨bo, 0, none⟩), .pointer (some ⟨b0, 0, none⟩), .pointer (some ⟨bl, 0, none⟩), .pointer (some ⟨be, 0, none⟩)]] tF →
    OI W w7.heap.size 2 lv pre → PS W pv ps → StP ps cn S → CntP ps → (∀ k, W.heap.size ≤ k → ok k) → JO w7.heap.size bo vs W (fun k => ok k ∧ some k ≠ lv.ownBlock) → vs.length ≤ 200 →
    Calls Try.prog 115 #[lv, pv, .pointer (some ⟨b1, 0, none⟩), .pointer (some ⟨bo, 0, none⟩), .pointer (some ⟨b0, 0, none⟩), .pointer (some ⟨bl, 0, none⟩), .pointer (some ⟨be, 0, none⟩)] W fun e w' => e = .returned (.bool (decide (vs.length + (wordsF (ts.map toS) word cn rounds d i S pre).length ≤ 200))) ∧ Below w7.heap.size w7 w' ∧ FS W w' lv.ownBlock ∧ OI w' w7.heap.size 2 lv pre ∧
      JO w7.heap.size bo (vs ++ (wordsF (ts.map toS) word cn rounds d i S pre).take (201 - vs.length)) w' (fun k => ok k ∧ some k ≠ lv.ownBlock)
set_option maxHeartbeats 8000000 in
set_option maxRecDepth 100000 in
theorem south2_step (w7 : World) (b0 b1 bl be bo : Nat) (tF : TypeId) (C : Int) (cn : Nat) (A : Option Addr) (ts : List T4) (n c : Nat) (A1 : Option Addr) (word : List Int) (n1 c1 : Nat) (AL : Option Addr) (cL : Nat) (tab : Nat → List (List Int)) (rounds : Bool)
    (HS : SC w7 b0 b1 bl be bo C cn A ts n c A1 word n1 c1 AL cL tab rounds) (htF : tF ≠ 43 ∧ tF ≠ 34 ∧ tF ≠ 2) (d : Nat) (IH : SouthC w7 b0 b1 bl be bo tF C cn A ts n c A1 word n1 c1 AL cL tab rounds d) : SouthC w7 b0 b1 bl be bo tF C cn A ts n c A1 word n1 c1 AL cL tab rounds (d + 1) := by
  intro i pre lv pv ps S vs ok W hid hpl hB hK hO hP hSt hCn hok hJ hvs
  unfold SouthC at IH
  have hHS := Lib.hid HS; have hIH := Lib.hid IH; have HTF := Lib.hid htF
  have h1 := HS.h1; have hl1 := HS.hl1; have hl := HS.hl; have c6 := HS.c6; have c0 := HS.c0
  obtain ⟨Al, cl, rfl, hRI, hcl⟩ := hO.reads
  obtain ⟨Ap, cp, rfl⟩ := Kd.R_slice hP
  rw [hpl] at hcl hO hJ ⊢
  obtain ⟨np, hnp⟩ : ∃ q, q = ps.length := ⟨_, rfl⟩
  have hnp36 : np ≤ 36 := by rw [hnp]; exact hCn.le
  rw [← hnp] at hP ⊢
  have k0 := HS.k0.below hB HS.k0.lt
  have k1 := HS.k1.below hB HS.k1.lt
  have lb0 := k0.lt; have lb1 := k1.lt
  have z0 : W.cell? ⟨b0, 0, none⟩ = some (.int .i64 C) := k0.cell rfl
  have z1 : W.cell? ⟨b1, 0, none⟩ = some (.slice A1 n1 c1) := k1.cell rfl
  have vP : ((i : Int) == (n1 : Int)) = false := by simp; omega
  have HW7 := Lib.hid HS.k0.lt
  generalize hres : decide (vs.length + (wordsF (ts.map toS) word cn rounds (d + 1) i S pre).length ≤ 200) = res
  generalize hout : vs ++ (wordsF (ts.map toS) word cn rounds (d + 1) i S pre).take (201 - vs.length) = out
  have HRES := Lib.hid hres; have HOUT := Lib.hid hout; have HNP := Lib.hid hnp; have HID := Lib.hid hid; have HPL := Lib.hid hpl
  have HB := Lib.hid hB; have HK := Lib.hid hK; have HO := Lib.hid hO; have HP := Lib.hid hP; have HST := Lib.hid hSt; have HCN := Lib.hid hCn; have HOK := Lib.hid hok; have HJ := Lib.hid hJ; have HVS := Lib.hid hvs
  clear HS IH htF hid hpl hB hK hO hP hSt hCn hok hJ hvs k0 k1 hres hout hnp hRI
  go_enter Try.func115, Try.ntmps115
  go_wp2_with fail
  go_loopw [34] (fun v wr => ∃ col : Nat, col ≤ cn ∧ v = .int .i64 col ∧ Below w7.heap.size w7 wr ∧ FS W wr (Value.slice Al i cl).ownBlock ∧ OI wr w7.heap.size 2 (.slice Al i cl) pre ∧ JO w7.heap.size bo (vs ++ PW (ts.map toS) word cn rounds d i S pre col) wr (fun k => ok k ∧ some k ≠ (Value.slice Al i cl).ownBlock) ∧ (vs ++ PW (ts.map toS) word cn rounds d i S pre col).length ≤ 200) (fun v _ => cn - (intOf v).toNat)
  case atStart => exact ⟨0, Nat.zero_le _, rfl, HB.out, FS.refl _ _, HO.out, by rw [PW_zero, List.append_nil]; exact HJ.out, by rw [PW_zero, List.append_nil]; exact HVS.out⟩
  case round =>
    obtain ⟨col, hcol, rfl, hBr, hFr, hOr, hJr, hvr⟩ := hrel
    by_cases hlt : col < cn
    · have i1 : (col : Int) < C := by rw [hHS.out.hC]; omega
      have HBR := Lib.hid hBr; have HFR := Lib.hid hFr; have HOR := Lib.hid hOr; have HJR := Lib.hid hJr; have HVR := Lib.hid hvr
      have HPR := Lib.hid (hFr.ps HP.out (HP.out.ne HO.out))
      have HKR := Lib.hid (hFr.bk HK.out (oi_fn HO.out HK.out HTF.out.2.2) HTF.out.1 HTF.out.2.1)
      clear hBr hFr hOr hJr hvr
      go_upto_region 9 with fail
      refine nameS9 ?_
      intro Wc bb hbb
      obtain ⟨N, hN⟩ : ∃ q, q = wr.heap.size := ⟨_, rfl⟩
      have hQ0 : QS N Wc (.slice (some ⟨wr.heap.size, 0, none⟩) 0 0) cn (reachP (rd word (i : Int)) (col : Int) (lvAt (ts.map toS) word cn rounds (i + 1)) ps (ts.map toS) 0 0) [] :=
        ⟨R_empty9 bb (Nat.le_of_eq hN), fun x hx => by simp at hx, CntP.nil, fun f e _ _ => by rw [reachP_zero]; rfl⟩
      rw [← hN] at hQ0 hbb ⊢
      have HN9 := Lib.hid hN; have HQ0 := Lib.hid hQ0; have HBB := Lib.hid hbb
      clear hN hQ0 hbb bb
      go_wp2_with fail
      go_loopw [12, 40] (fun v12 v40 wq => ∃ (a : Nat) (qs : List SPr), a ≤ np ∧ v40 = .int .i64 a ∧ Below N wr wq ∧ N ≤ wq.heap.size ∧ QS N wq v12 cn (reachP (rd word (i : Int)) (col : Int) (lvAt (ts.map toS) word cn rounds (i + 1)) ps (ts.map toS) a 0) qs) (fun _ v _ => np - (intOf v).toNat)
      case atStart => exact ⟨0, [], Nat.zero_le _, rfl, HBB.out, by have := HBB.out.size; rw [← HN9.out] at this; exact this, HQ0.out⟩
      case round =>
        rename World => wq
        obtain ⟨a, qs, ha, rfl, hBq, hNq, hQq⟩ := hrel
        have hwq : wr.heap.size ≤ wq.heap.size := by rw [← HN9.out]; exact hNq
        have HBQ := Lib.hid hBq; have HQQ := Lib.hid hQq
        obtain ⟨Aq, cq, rfl⟩ := Kd.R_slice hQq.r
        clear hBq hQq
        by_cases hla : a < np
        · have i2 : (a : Int) < np := by omega
          have HLA := Lib.hid (show a < ps.length by rw [← HNP.out]; exact hla)
          have hPq : PS wq (.slice Ap np cp) ps := Kd.R_below HPR.out (by have := HBQ.out; rw [HN9.out] at this; exact this)
          obtain ⟨gp, rfl, hgp, q0, q1⟩ := hPq.cells HLA.out
          obtain ⟨pf, hpf⟩ : ∃ e : Nat, (ps[a]'HLA.out).f0 = (e : Int) := ⟨(ps[a]'HLA.out).f0.toNat, by have := (HST.out.1 _ (List.getElem_mem HLA.out)).1.1; omega⟩
          obtain ⟨pe, hpe⟩ : ∃ e : Nat, (ps[a]'HLA.out).f1 = (e : Int) := ⟨(ps[a]'HLA.out).f1.toNat, by have := (HST.out.1 _ (List.getElem_mem HLA.out)).2.1; omega⟩
          have lpf : pf < cn := by have := (HST.out.1 _ (List.getElem_mem HLA.out)).1.2; omega
          have lpe : pe < cn := by have := (HST.out.1 _ (List.getElem_mem HLA.out)).2.2; omega
          rw [hpf] at q0; rw [hpe] at q1
          have HPF := Lib.hid hpf; have HPE := Lib.hid hpe
          clear hPq hpf hpe
          go_upto_region 12 with fail
          refine nameS9 ?_
          intro Wp bp hbp
          obtain ⟨pb, hpb⟩ : ∃ q, q = wq.heap.size := ⟨_, rfl⟩
          rw [← hpb] at bp hbp ⊢
          have hB0p : Below w7.heap.size w7 Wp := HBR.out.trans (((HBQ.out).mono (by rw [HN9.out]; exact HBR.out.size)).trans (hbp.mono (by rw [hpb]; exact Nat.le_trans HBR.out.size hwq)))
          have k0 := hHS.out.k0.below hB0p HW7.out
          have zt : Wp.cell? ⟨b0, 1, none⟩ = some (.slice A n c) := k0.cell rfl
          have lb0p := k0.lt
          have HBP := Lib.hid bp; have HBBP := Lib.hid hbp; have HPB := Lib.hid hpb
          have hNpb : N ≤ pb := by rw [hpb]; exact hNq
          clear bp hbp hpb k0 hB0p q0 q1 hgp
          go_wp2_with fail
          go_loopw [12, 47] (fun v12 v47 wt => ∃ (k : Nat) (qs : List SPr), k ≤ n ∧ v47 = .int .i64 k ∧ Below N wr wt ∧ pb < wt.heap.size ∧ BK wt pb #[.int .i64 (pf : Int), .int .i64 (pe : Int)] 113 ∧ some pb ≠ v12.ownBlock ∧ QS N wt v12 cn (reachP (rd word (i : Int)) (col : Int) (lvAt (ts.map toS) word cn rounds (i + 1)) ps (ts.map toS) a k) qs) (fun _ v _ => n - (intOf v).toNat)
          case atStart => exact ⟨0, qs, Nat.zero_le _, rfl, (HBQ.out).trans (HBBP.out.mono hNpb), HBP.out.lt, HBP.out, fun e => (by have := Kd.R_lt HQQ.out.r pb e.symm; have := HPB.out; omega), HQQ.out.to (by have := HBBP.out; rw [HPB.out] at this; exact this) (fun _ _ _ _ => rfl)⟩
          case round =>
            rename World => wt
            obtain ⟨k, qt, hk, rfl, hBt, hpt, bp, hne, hQt⟩ := hrel
            have HBT := Lib.hid hBt; have HBPT := Lib.hid bp; have HNE := Lib.hid hne; have HQT := Lib.hid hQt
            obtain ⟨Aq, cq, rfl⟩ := Kd.R_slice hQt.r
            clear hBt bp hne hQt
            by_cases hlk : k < n
            · have i3 : (k : Int) < n := by omega
              have HLK := Lib.hid (show k < ts.length by rw [← hHS.out.hn]; exact hlk)
              have hB7t : Below w7.heap.size w7 wt := HBR.out.trans ((HBT.out).mono (by rw [HN9.out]; exact HBR.out.size))
              obtain ⟨tb, to_, e, htb, p0, p1, p2, p3⟩ := hHS.out.hA.below hB7t k HLK.out
              subst e
              obtain ⟨x0, hx0⟩ : ∃ q, q = (tk ts k).get 0 := ⟨_, rfl⟩
              obtain ⟨x1, hx1⟩ : ∃ q, q = (tk ts k).get 1 := ⟨_, rfl⟩
              obtain ⟨x3, hx3⟩ : ∃ q, q = (tk ts k).get 3 := ⟨_, rfl⟩
              have HLS := Lib.hid (show k < (ts.map toS).length by rw [List.length_map]; exact HLK.out)
              have htk : (ts.map toS)[k]'HLS.out = toS (tk ts k) := by
                rw [List.getElem_map]; congr 1; rw [tk, List.getD_eq_getElem?_getD, List.getElem?_eq_getElem HLK.out]; rfl
              have hfin := hHS.out.fine _ (List.getElem_mem HLS.out)
              rw [htk] at hfin
              obtain ⟨te, hte⟩ : ∃ e : Nat, (tk ts k).get 2 = (e : Int) := ⟨((tk ts k).get 2).toNat, by have : 0 ≤ (tk ts k).get 2 := hfin.2.2.1; omega⟩
              have lte : te < cn := by have : (tk ts k).get 2 < (cn : Int) := hfin.2.2.2; omega
              have HF0 := Lib.hid (show ((ts.map toS)[k]'HLS.out).f0 = x0 by rw [htk, hx0]; rfl)
              have HF1 := Lib.hid (show ((ts.map toS)[k]'HLS.out).f1 = x1 by rw [htk, hx1]; rfl)
              have HF2 := Lib.hid (show ((ts.map toS)[k]'HLS.out).f2 = (te : Int) by rw [htk, ← hte]; rfl)
              have HF3 := Lib.hid (show ((ts.map toS)[k]'HLS.out).f3 = x3 by rw [htk, hx3]; rfl)
              rw [← hx0] at p0; rw [← hx1] at p1; rw [hte] at p2; rw [← hx3] at p3
              have y0 : wt.cell? ⟨pb, 0, none⟩ = some (.int .i64 (pf : Int)) := HBPT.out.cell rfl
              have HB7T := Lib.hid hB7t
              clear hx0 hx1 hx3 hte htk hfin hB7t
              go_upto_region 16 with fail
              refine name2 ?_
              intro W5 b5 b6 hz5 hb5
              obtain ⟨tB, htB⟩ : ∃ q, q = wt.heap.size := ⟨_, rfl⟩
              rw [← htB] at b5 b6 hz5 hb5 ⊢
              have hB75 := HB7T.out.trans (hb5.mono (by rw [htB]; exact HB7T.out.size))
              have hptB : pb < tB := by rw [htB]; exact hpt
              have hbp5 := HBPT.out.below hb5 hptB
              have e0 : W5.cell? ⟨tB, 0, none⟩ = some (.int .i64 x0) := b5.cell rfl
              have e1 : W5.cell? ⟨tB, 1, none⟩ = some (.int .i64 x1) := b5.cell rfl
              have e3 : W5.cell? ⟨tB, 3, none⟩ = some (.int .i64 x3) := b5.cell rfl
              have g0 : W5.cell? ⟨tB + 1, 0, none⟩ = some (.int .i64 (pf : Int)) := b6.cell rfl
              have g1 : W5.cell? ⟨tB + 1, 1, none⟩ = some (.int .i64 (te : Int)) := b6.cell rfl
              have yy0 : W5.cell? ⟨pb, 0, none⟩ = some (.int .i64 (pf : Int)) := hbp5.cell rfl
              have yy1 : W5.cell? ⟨pb, 1, none⟩ = some (.int .i64 (pe : Int)) := hbp5.cell rfl
              have kk1 := hHS.out.k1.below hB75 hHS.out.k1.lt
              have kkl := hHS.out.kl.below hB75 hHS.out.kl.lt
              have zz1 : W5.cell? ⟨b1, 0, none⟩ = some (.slice A1 n1 c1) := kk1.cell rfl
              have zzl : W5.cell? ⟨bl, 0, none⟩ = some (.slice AL cn cL) := kkl.cell rfl
              have hin1 : i < n1 := by have := HID.out; omega
              obtain ⟨nb, no, e, hnb, yw⟩ := hHS.out.hA1.below hB75 i (by rw [← hHS.out.hn1]; exact hin1)
              subst e
              obtain ⟨lb, lo, A6, cc6, e, hlb, yt, hrr, hle6, hlen6⟩ := hHS.out.hT.below hB75 pf lpf
              subst e
              obtain ⟨rb6, ro6, A7, cc7, e, hrb6, yr, hri, hle7, -⟩ := hrr (i + 1) (by rw [hlen6, ← hHS.out.hn1]; omega)
              subst e
              have hrl := hHS.out.tr pf (i + 1) lpf (by rw [← hHS.out.hn1]; omega)
              rw [hrl] at yr hle7
              obtain ⟨ib, io, e, hib, yv⟩ := hri te (by rw [show (rowAt (tab pf) (i + 1)).length = rowLen (tab pf) (i + 1) from rfl, hrl]; exact lte)
              subst e
              obtain ⟨wd9, hwd9⟩ : ∃ q, q = ik word i := ⟨_, rfl⟩
              obtain ⟨lv9, hlv9⟩ : ∃ q, q = ik (rowAt (tab pf) (i + 1)) te := ⟨_, rfl⟩
              have HRD := Lib.hid (show rd word (i : Int) = wd9 by rw [hwd9]; unfold rd ik; rw [Int.toNat_natCast])
              have HLV := Lib.hid (show decide (0 < lv9) = lvAt (ts.map toS) word cn rounds (i + 1) pf te by rw [hlv9]; exact hHS.out.tl pf (i + 1) te lpf (by rw [← hHS.out.hn1]; omega) lte)
              rw [← hwd9] at yw; rw [← hlv9] at yv
              have hnw : word.length = n1 := hHS.out.hn1.symm
              rw [hnw] at yt
              have ln1 : (i : Int) + 1 < (n1 : Int) + 1 := by omega
              have ln2 : (i : Int) < (n1 : Int) := by omega
              have ln3 : (pf : Int) < (cn : Int) := by omega
              have ln4 : (te : Int) < (cn : Int) := by omega
              have m0 := b5.lt; have m1 := b6.lt; have m2 := hbp5.lt; have m3 := kk1.lt; have m4 := kkl.lt
              have HBN5 := Lib.hid ((HBT.out).trans (hb5.mono (show N ≤ tB by omega)))
              have HB65 := Lib.hid b6; have HP5 := Lib.hid hbp5; have HTB := Lib.hid htB; have HQ5 := Lib.hid (HQT.out.to (by rw [← htB]; exact hb5) (fun _ _ _ _ => rfl))
              clear b5 b6 hz5 hb5 htB hB75 hbp5 kk1 kkl hrr hri hle6 hlen6 hrl hwd9 hlv9 hnw p0 p1 p2 p3 htb y0
              by_cases qA : x0 = (pe : Int) ∧ x1 = wd9 ∧ x3 = (col : Int) ∧ 0 < lv9
              · obtain ⟨q0, q1, q3, q4⟩ := qA
                have q0' : (x0 == (pe : Int)) = true := by simp [q0]
                have q1' : (x1 == wd9) = true := by simp [q1]
                have q3' : (x3 == (col : Int)) = true := by simp [q3]
                have HYES := Lib.hid (reach_yes (x := rd word (i : Int)) (col := (col : Int)) (lv := lvAt (ts.map toS) word cn rounds (i + 1)) HLA.out HLS.out HPF.out HF2.out (by rw [HF0.out, HPE.out, HF1.out, HRD.out, HF3.out, ← HLV.out]; simp [q0, q1, q3, q4]))
                have hCq : Kd.C R.k113 W5 Aq qt.length qt := by
                  obtain ⟨A_, c_, e_, -, h_⟩ := Kd.R_reads HQ5.out.r
                  injection e_ with e1_ _ _
                  subst e1_; exact h_
                have hcq : qt.length ≤ cq := by
                  obtain ⟨A_, c_, e_, h_, -⟩ := Kd.R_reads HQ5.out.r
                  injection e_ with _ _ e3_
                  subst e3_; exact h_
                have HCQ := Lib.hid hCq
                have hq36 : qt.length ≤ 36 := HQ5.out.cnt.le
                clear hCq q0 q1 q3
                obtain ⟨nq, hnq⟩ : ∃ q, q = qt.length := ⟨_, rfl⟩
                rw [← hnq] at hcq hq36 HQ5 HNE ⊢
                have HNQ := Lib.hid hnq; clear hnq
                by_cases hm : memP qt pf te = true
                · have HM := Lib.hid hm; clear hm
                  refine wp_region_gro (by kernel_rfl) (by kernel_rfl) ?_
                  repeat (first | go_big_quiet_step (((go_at_call 117; exact quiet_call (by have h := contains_any Aq qt nq cq pf te (gro W5 ‹GP›) HNQ.out (Kd.C_below HCQ.out (gro_below W5 _)) hcq (by omega); rw [HM.out] at h; exact h)))) | quiet_step (((go_at_call 117; exact quiet_call (by have h := contains_any Aq qt nq cq pf te (gro W5 ‹GP›) HNQ.out (Kd.C_below HCQ.out (gro_below W5 _)) hcq (by omega); rw [HM.out] at h; exact h)))))
                  refine wpQuiet_nil ?_
                  intro W6 hB6
                  have HB6 := Lib.hid hB6; clear hB6
                  go_wp2_with fail
                  go_roundw
                  case rel => exact ⟨k + 1, qt, hlk, by go_num, (HBN5.out).trans (HB6.out.mono (by have := HBN5.out.size; omega)), Nat.lt_of_lt_of_le m2 HB6.out.size, HP5.out.below HB6.out m2, HNE.out, HQ5.out.had HB6.out HM.out lpf lte HYES.out⟩
                  case measure => simp [intOf]; omega
                · have hm' : memP qt pf te = false := by simpa using hm
                  have HM := Lib.hid hm'; clear hm hm'
                  refine wp_region_gro (by kernel_rfl) (by kernel_rfl) ?_
                  repeat (first | go_big_quiet_step (((go_at_call 117; exact quiet_call (by have h := contains_any Aq qt nq cq pf te (gro W5 ‹GP›) HNQ.out (Kd.C_below HCQ.out (gro_below W5 _)) hcq (by omega); rw [HM.out] at h; exact h)))) | quiet_step (((go_at_call 117; exact quiet_call (by have h := contains_any Aq qt nq cq pf te (gro W5 ‹GP›) HNQ.out (Kd.C_below HCQ.out (gro_below W5 _)) hcq (by omega); rw [HM.out] at h; exact h)))))
                  refine wpQuiet_nil ?_
                  intro W6 hB6
                  have HB6 := Lib.hid hB6
                  have gg0 := cell_to hB6 g0; have gg1 := cell_to hB6 g1
                  have HR6 := Lib.hid (Kd.R_below HQ5.out.r hB6)
                  have HN6 := Lib.hid ((HBN5.out).trans (hB6.mono (show N ≤ W5.heap.size by omega)))
                  have hs6 := hB6.size
                  clear hB6 g0 g1 e0 e1 e3 yy0 yy1 zz1 zzl yw yt yr yv
                  go_wp2_with (first | ((with_reducible refine gate_builtin (b := .append) (xs := #[.tmp 98, .tmp 100]) rfl ?_); at_builtin; refine Kd.R_append R.k113 (w0 := W6) N rfl (.tmp 98) (.tmp 100) 111 113 (.agg #[.int .i64 0, .int .i64 0]) 16 rfl (by kernel_rfl) infoP9 rfl (by decide) (by omega) (.slice Aq nq cq) qt ⟨(pf : Int), (te : Int)⟩ [.int .i64 (pf : Int), .int .i64 (te : Int)] (fun _ => True) (fun _ => False) rfl rfl (R.k113_mkM _ _ _ _) (fun _ h_ => h_.elim) (fun _ _ => trivial) ?aO (Below.refl _ _) ?aS ?aL ?_; (case aO => exact HR6.out); (case aS => omega); (case aL => rw [← HNQ.out]; omega); intro v1 w1 ho hb hg hat; have HO1 := Lib.hid ho; have HB1 := Lib.hid hb; have HG1 := Lib.hid hg; have HAT := Lib.hid hat; clear ho hb hg hat))
                  go_roundw
                  case rel => exact ⟨k + 1, qt ++ [⟨(pf : Int), (te : Int)⟩], hlk, by go_num, (HN6.out).trans HB1.out, by have := HG1.out.size; omega, ((HP5.out.below HB6.out m2).grown HG1.out HNE.out), (fun e => (by
                    rcases HAT.out with h2 | ⟨b, h2, hb⟩
                    · exact HNE.out (e.trans h2)
                    · rw [h2] at e; injection e with e; omega)), QS.put HQ5.out.low HQ5.out.cnt HQ5.out.mem c6 HM.out lpf lte HYES.out HO1.out⟩
                  case measure => simp [intOf]; omega
              · have HNO := Lib.hid (reach_no (x := rd word (i : Int)) (col := (col : Int)) (lv := lvAt (ts.map toS) word cn rounds (i + 1)) HLA.out HLS.out HPF.out HF2.out (by
                  rw [HF0.out, HPE.out, HF1.out, HRD.out, HF3.out, ← HLV.out, ← Bool.not_eq_true]
                  intro h9
                  simp only [Bool.and_eq_true, decide_eq_true_eq] at h9
                  exact qA ⟨h9.1.1.1, h9.1.1.2, h9.1.2, h9.2⟩))
                have fin : ∀ (W6 : World), Below W5.heap.size W5 W6 → Below N wr W6 ∧ pb < W6.heap.size ∧ BK W6 pb #[.int .i64 (pf : Int), .int .i64 (pe : Int)] 113 ∧ some pb ≠ (Value.slice Aq qt.length cq).ownBlock ∧ QS N W6 (.slice Aq qt.length cq) cn (reachP (rd word (i : Int)) (col : Int) (lvAt (ts.map toS) word cn rounds (i + 1)) ps (ts.map toS) a (k + 1)) qt := fun W6 hB6 => ⟨(HBN5.out).trans (hB6.mono (by have := HBN5.out.size; omega)), Nat.lt_of_lt_of_le m2 hB6.size, HP5.out.below hB6 m2, HNE.out, HQ5.out.to hB6 (fun f e _ _ => HNO.out f e)⟩
                have FIN := Lib.hid fin; clear fin
                by_cases q0 : x0 = (pe : Int)
                · have q0' : (x0 == (pe : Int)) = true := by simp [q0]
                  by_cases q1 : x1 = wd9
                  · have q1' : (x1 == wd9) = true := by simp [q1]
                    by_cases q3 : x3 = (col : Int)
                    · have q3' : (x3 == (col : Int)) = true := by simp [q3]
                      have q4 : ¬ 0 < lv9 := fun h => qA ⟨q0, q1, q3, h⟩
                      clear qA q0 q1 q3
                      refine wp_region_gro (by kernel_rfl) (by kernel_rfl) ?_
                      repeat (first | go_big_quiet_step (fail) | quiet_step (fail))
                      refine wpQuiet_nil ?_
                      intro W6 hB6
                      have HB6 := Lib.hid hB6; clear hB6
                      go_wp2_with fail
                      go_roundw
                      case rel => exact ⟨k + 1, qt, hlk, by go_num, FIN.out _ HB6.out⟩
                      case measure => simp [intOf]; omega
                    · have q3' : (x3 == (col : Int)) = false := by simp [q3]
                      clear qA q0 q1 q3
                      refine wp_region_gro (by kernel_rfl) (by kernel_rfl) ?_
                      repeat (first | go_big_quiet_step (fail) | quiet_step (fail))
                      refine wpQuiet_nil ?_
                      intro W6 hB6
                      have HB6 := Lib.hid hB6; clear hB6
                      go_wp2_with fail
                      go_roundw
                      case rel => exact ⟨k + 1, qt, hlk, by go_num, FIN.out _ HB6.out⟩
                      case measure => simp [intOf]; omega
                  · have q1' : (x1 == wd9) = false := by simp [q1]
                    clear qA q0 q1
                    refine wp_region_gro (by kernel_rfl) (by kernel_rfl) ?_
                    repeat (first | go_big_quiet_step (fail) | quiet_step (fail))
                    refine wpQuiet_nil ?_
                    intro W6 hB6
                    have HB6 := Lib.hid hB6; clear hB6
                    go_wp2_with fail
                    go_roundw
                    case rel => exact ⟨k + 1, qt, hlk, by go_num, FIN.out _ HB6.out⟩
                    case measure => simp [intOf]; omega
                · have q0' : (x0 == (pe : Int)) = false := by simp [q0]
                  clear qA q0
                  refine wp_region_gro (by kernel_rfl) (by kernel_rfl) ?_
                  repeat (first | go_big_quiet_step (fail) | quiet_step (fail))
                  refine wpQuiet_nil ?_
                  intro W6 hB6
                  have HB6 := Lib.hid hB6; clear hB6
                  go_wp2_with fail
                  go_roundw
                  case rel => exact ⟨k + 1, qt, hlk, by go_num, FIN.out _ HB6.out⟩
                  case measure => simp [intOf]; omega
            · have i3 : ¬ (k : Int) < n := by omega
              have HEK := Lib.hid (show k = (ts.map toS).length by rw [List.length_map, ← hHS.out.hn]; omega)
              go_wp2_with fail
              go_roundw
              case rel => exact ⟨a + 1, qt, hla, by go_num, HBT.out, by omega, HQT.out.to (Below.refl _ _) (fun f e _ _ => by rw [HEK.out, reachP_next HLA.out])⟩
              case measure => simp [intOf]; omega
        · have i2 : ¬ (a : Int) < np := by omega
          have ea : a = ps.length := by rw [← HNP.out]; omega
          have hq := HQQ.out
          rw [ea] at hq
          obtain ⟨NS, hNS⟩ : ∃ q, q = nextS (ts.map toS) (rd word (i : Int)) (col : Int) S (lvAt (ts.map toS) word cn rounds (i + 1)) := ⟨_, rfl⟩
          have hSt2 : StP qs cn NS := by rw [hNS]; exact hq.done HST.out hHS.out.fine
          have hsome := some_pairs hSt2
          have HST2 := Lib.hid hSt2; have HNS := Lib.hid hNS
          have HRQ := Lib.hid hq.r; have HCQ := Lib.hid hq.cnt
          have hq36 : qs.length ≤ 36 := hq.cnt.le
          have hBq : Below wr.heap.size wr wq := by have := HBQ.out; rw [HN9.out] at this; exact this
          have hE : Below w7.heap.size w7 wq := HBR.out.trans (hBq.mono HBR.out.size)
          have hFq : FS W wq (Value.slice Al i cl).ownBlock := HFR.out.trans (FS.of_below hBq (Nat.le_refl _) (Value.slice Al i cl).ownBlock) (.inl rfl)
          have hO : OI wq w7.heap.size 2 (.slice Al i cl) pre := HOR.out.to hBq
          have hJ := HJR.out.below hBq
          have hKB : BK wq be #[.func (.func 115) #[] #[.pointer (some ⟨b1, 0, none⟩), .pointer (some ⟨bo, 0, none⟩), .pointer (some ⟨b0, 0, none⟩), .pointer (some ⟨bl, 0, none⟩), .pointer (some ⟨be, 0, none⟩)]] tF := HKR.out.below hBq HKR.out.lt
          clear ea hq hSt2 hNS hBq
          obtain ⟨nq, hnq⟩ : ∃ q, q = qs.length := ⟨_, rfl⟩
          rw [← hnq] at hsome hq36 HRQ ⊢
          have HNQ := Lib.hid hnq; clear hnq
          obtain ⟨ol, hol⟩ : ∃ q, q = (Value.slice Al i cl).ownBlock := ⟨_, rfl⟩
          by_cases hs : 0 < nq
          · rw [decide_eq_true hs] at hsome
            have hs2 : (0 : Int) < (nq : Int) := by omega
            have hwc : wordsC (ts.map toS) word cn rounds d i S pre col = wordsF (ts.map toS) word cn rounds d (i + 1) NS (pre ++ [(col : Int)]) := by
              unfold wordsC
              rw [← HNS.out, ← hsome, if_pos rfl]
            have HWC := Lib.hid hwc
            obtain ⟨bq, hbq⟩ : ∃ q, q = decide ((vs ++ PW (ts.map toS) word cn rounds d i S pre col).length + (wordsF (ts.map toS) word cn rounds d (i + 1) NS (pre ++ [(col : Int)])).length ≤ 200) := ⟨_, rfl⟩
            have HBQ9 := Lib.hid hbq
            clear hwc hbq hsome hol
            go_upto_region 20 with fail
            have hD := (Below.refl wq.heap.size wq).drew
            refine start_ (n := 13) (S := fun w' => w'.cell? ⟨be, 0, none⟩ = some (.func (.func 115) #[] #[.pointer (some ⟨b1, 0, none⟩), .pointer (some ⟨bo, 0, none⟩), .pointer (some ⟨b0, 0, none⟩), .pointer (some ⟨bl, 0, none⟩), .pointer (some ⟨be, 0, none⟩)])) (ds := [10]) #[false, false, false, false, false, false, false, false, false, false, false, false, false] (by kernel_rfl) rfl rfl (cell_to hD (hKB.cell rfl)) (fun hHeld => ?_)
            refine with_tabW sou_tab20 sou_bits20 (fun HT_ HW_ => ?_)
            replace hE := hE.trans (hD.mono hE.size)
            replace hO := hO.to hD
            replace hJ := hJ.below hD
            replace hKB := hKB.below hD hKB.lt
            have hR := Kd.R_below HRQ.out hD
            replace hFq := hFq.trans (FS.of_below hD (Nat.le_refl _) (Value.slice Al i cl).ownBlock) (.inl rfl)
            generalize wq.drew = wd at hD hE hO hJ hKB hR hFq hHeld ⊢
            refine pure_ (i := 0) (N := some 104) (v := ?_) (a' := ?_) #[true, false, false, false, false, false, false, false, false, false, false, false, false] rfl rfl (any_of HT_.out (by kernel_rfl)) (fun _ _ _ h => h) (Or.inl ⟨by rfl, ?_⟩) ?_ ?_
            rotate_left
            · intro w'
              go_simp
              with_reducible rfl
            rotate_left
            · simp only [Act.put, List.setIfInBounds_toArray, List.set_cons_zero, List.set_cons_succ, i64_w, i32_w]
              rfl
            refine pure_ (i := 1) (N := some 105) (v := ?_) (a' := ?_) #[true, true, false, false, false, false, false, false, false, false, false, false, false] rfl rfl (any_of HT_.out (by kernel_rfl)) (fun _ _ _ h => h) (Or.inl ⟨by rfl, ?_⟩) ?_ ?_
            rotate_left
            · intro w'
              go_simp
              with_reducible rfl
            rotate_left
            · simp only [Act.put, List.setIfInBounds_toArray, List.set_cons_zero, List.set_cons_succ, i64_w, i32_w]
              rfl
            refine pure_ (i := 2) (N := some 106) (v := ?_) (a' := ?_) #[true, true, true, false, false, false, false, false, false, false, false, false, false] rfl rfl (any_of HT_.out (by kernel_rfl)) (fun _ _ _ h => h) (Or.inl ⟨by rfl, ?_⟩) ?_ ?_
            rotate_left
            · intro w'
              go_simp
              with_reducible rfl
            rotate_left
            · simp only [Act.put, List.setIfInBounds_toArray, List.set_cons_zero, List.set_cons_succ, i64_w, i32_w]
              rfl
            refine pure_ (i := 3) (N := some 107) (v := ?_) (a' := ?_) #[true, true, true, true, false, false, false, false, false, false, false, false, false] rfl rfl (any_of HT_.out (by kernel_rfl)) (fun _ _ _ h => h) (Or.inl ⟨by rfl, ?_⟩) ?_ ?_
            rotate_left
            · intro w'
              go_simp
              with_reducible rfl
            rotate_left
            · simp only [Act.put, List.setIfInBounds_toArray, List.set_cons_zero, List.set_cons_succ, i64_w, i32_w]
              rfl
            refine pure_ (i := 5) (N := some 109) (v := ?_) (a' := ?_) #[true, true, true, true, false, true, false, false, false, false, false, false, false] rfl rfl (any_of HT_.out (by kernel_rfl)) (fun _ _ _ h => h) (Or.inl ⟨by rfl, ?_⟩) ?_ ?_
            rotate_left
            · intro w'
              go_simp
              with_reducible rfl
            rotate_left
            · simp only [Act.put, List.setIfInBounds_toArray, List.set_cons_zero, List.set_cons_succ, i64_w, i32_w]
              rfl
            refine pure_ (i := 6) (N := some 110) (v := ?_) (a' := ?_) #[true, true, true, true, false, true, true, false, false, false, false, false, false] rfl rfl (any_of HT_.out (by kernel_rfl)) (fun _ _ _ h => h) (Or.inl ⟨by rfl, ?_⟩) ?_ ?_
            rotate_left
            · intro w'
              go_simp
              with_reducible rfl
            rotate_left
            · simp only [Act.put, List.setIfInBounds_toArray, List.set_cons_zero, List.set_cons_succ, i64_w, i32_w]
              rfl
            refine pure_ (i := 9) (N := some 113) (v := ?_) (a' := ?_) #[true, true, true, true, false, true, true, false, false, true, false, false, false] rfl rfl (any_of HT_.out (by kernel_rfl)) (fun _ _ _ h => h) (Or.inl ⟨by rfl, ?_⟩) ?_ ?_
            rotate_left
            · intro w'
              go_simp
              with_reducible rfl
            rotate_left
            · simp only [Act.put, List.setIfInBounds_toArray, List.set_cons_zero, List.set_cons_succ, i64_w, i32_w]
              rfl
            refine take_ (i := 4) (N := some 108) (v := ?_) (a' := ?_) #[true, true, true, true, true, true, true, false, false, true, false, false, false] rfl rfl (take_ofW HT_.out HW_.out (by kernel_rfl)) (fun _ _ _ h => h) (Or.inl ⟨by rfl, ?_⟩) hHeld ?_ ?_
            rotate_left
            · intro w' s0
              go_simp
              with_reducible rfl
            rotate_left
            · simp only [Act.put, List.setIfInBounds_toArray, List.set_cons_zero, List.set_cons_succ, i64_w, i32_w]
              rfl
            refine one_ (i := 7) (N := some 111) #[true, true, true, true, true, true, true, true, false, true, false, false, false] rfl rfl (one_of HT_.out (by kernel_rfl)) (by decide) (fun K hK => ?_)
            refine value_ (w1 := ?_) (v := ?_) (by rfl) rfl ?_ ?_
            rotate_left 2
            · go_simp
              constructor
              · rfl
              · rfl
            refine hK.out _ _ (cell_to (below_alloc (Below.refl _ _) _) hHeld) (fun hHeld => ?_)
            clear hK K
            refine norm_ (a' := ?_) ?_ ?_
            rotate_left
            · show Act.put _ (some 111) _ = _
              simp only [Act.put, List.setIfInBounds_toArray, List.set_cons_zero, List.set_cons_succ, i64_w, i32_w]
              rfl
            refine one_ (i := 8) (N := some 112) #[true, true, true, true, true, true, true, true, true, true, false, false, false] rfl rfl (one_of HT_.out (by kernel_rfl)) (by decide) (fun K hK => ?_)
            refine app_cap_step (w0 := wd) w7.heap.size (by rfl) (.tmp 109) (.tmp 111) 34 2 rfl Try.underlying34 info2 (.slice Al i cl) pre (col : Int) rfl rfl ?aO (Below.refl _ _) ?aS ?aL ?_
            (case aO => exact hO)
            (case aS => exact hE.size)
            (case aL => have := HPL.out; have := HID.out; omega)
            intro lv1 w1 hO1 hB1 hcs
            have hgr := grown_of hcs
            have hB71 : Below w7.heap.size w7 w1 := hE.trans hB1
            have hK1 := hgr.1.bk hKB (oi_fn hO hKB HTF.out.2.2) HTF.out.1 HTF.out.2.1
            have hP1 : PS w1 (.slice Aq nq cq) qs := hgr.1.ps (Kd.R_lower hR (Nat.zero_le _)) (PS.ne (Kd.R_lower hR (Nat.zero_le _)) hO)
            refine hK.out _ _ (hK1.cell rfl) (fun hHeld => ?_)
            clear hK K
            refine norm_ (a' := ?_) ?_ ?_
            rotate_left
            · show Act.put _ (some 112) _ = _
              simp only [Act.put, List.setIfInBounds_toArray, List.set_cons_zero, List.set_cons_succ, i64_w, i32_w]
              rfl
            refine last_ (i := 10) (N := some 114) #[true, true, true, true, true, true, true, true, true, true, true, false, false] rfl rfl (one_of HT_.out (by kernel_rfl)) (by decide) (fun K hK => ?_)
            refine goesV_ Try.func115 (by kernel_rfl) rfl #[lv1, .slice Aq nq cq] #[.pointer (some ⟨b1, 0, none⟩), .pointer (some ⟨bo, 0, none⟩), .pointer (some ⟨b0, 0, none⟩), .pointer (some ⟨bl, 0, none⟩), .pointer (some ⟨be, 0, none⟩)] #[lv1, .slice Aq nq cq, .pointer (some ⟨b1, 0, none⟩), .pointer (some ⟨bo, 0, none⟩), .pointer (some ⟨b0, 0, none⟩), .pointer (some ⟨bl, 0, none⟩), .pointer (some ⟨be, 0, none⟩)] (by rfl) rfl rfl rfl (by simp only [List.map_toArray, List.map_cons, List.map_nil]; rfl) (by first | rfl | simp) ?_
            with_reducible refine (hIH.out (i + 1) (pre ++ [(col : Int)]) lv1 (.slice Aq nq cq) qs NS (vs ++ PW (ts.map toS) word cn rounds d i S pre col) (fun k => ok k ∧ some k ≠ (Value.slice Al i cl).ownBlock) w1 (by have := HID.out; omega) (by simp [HPL.out]) hB71 hK1 hO1 hP1 HST2.out HCQ.out ?c1 ?c2 HVR.out).mono ?_
            (case c1 => exact fun k hk => fresh_okS hO hFq hgr.1 HOK.out k hk)
            (case c2 => exact after_appS hJ hO hgr)
            rintro e w2 ⟨he, hB2, hF2, hO2, hJ2⟩
            rw [← HBQ9.out] at he
            subst he
            refine ⟨_, rfl, ?_⟩
            refine hK.out _ _ ?_
            clear hK K
            refine norm_ (a' := ?_) ?_ ?_
            rotate_left
            · show Act.put _ (some 114) _ = _
              simp only [Act.put, List.setIfInBounds_toArray, List.set_cons_zero, List.set_cons_succ, i64_w, i32_w]
              rfl
            refine pure_ (i := 11) (N := some 115) (v := ?_) (a' := ?_) #[true, true, true, true, true, true, true, true, true, true, true, true, false] rfl rfl (any_of HT_.out (by kernel_rfl)) (fun _ _ _ h => h) (Or.inl ⟨by rfl, ?_⟩) ?_ ?_
            rotate_left
            · intro w'
              go_simp
              with_reducible rfl
            rotate_left
            · simp only [Act.put, List.setIfInBounds_toArray, List.set_cons_zero, List.set_cons_succ, i64_w, i32_w]
              rfl
            refine pure_ (i := 12) (N := some 116) (v := ?_) (a' := ?_) #[true, true, true, true, true, true, true, true, true, true, true, true, true] rfl rfl (any_of HT_.out (by kernel_rfl)) (fun _ _ _ h => h) (Or.inl ⟨by rfl, ?_⟩) ?_ ?_
            rotate_left
            · intro w'
              go_simp
              with_reducible rfl
            rotate_left
            · simp only [Act.put, List.setIfInBounds_toArray, List.set_cons_zero, List.set_cons_succ, i64_w, i32_w]
              rfl
            refine done_ (done_of HT_.out (by kernel_rfl)) ?_
            have hbk := back_own hO hcs hF2 hO2
            have HK2 := Lib.hid hB2; have HO2 := Lib.hid hbk.1; have HF2 := Lib.hid (hFq.trans hbk.2 (.inl rfl))
            have HJ2 := Lib.hid (hJ2.mono (fun k hk => hk.1))
            clear hbk hF2 hO2 hJ2 hcs hO1 hB1 hgr hK1 hP1 hB71 hE hFq hO hJ hKB hD HT_ HW_ hB2
            try clear hHeld
            cases bq with
            | true =>
              have hle := of_decide_eq_true HBQ9.out.symm
              go_wp2_with fail
              go_roundw
              case rel =>
                have hj := HJ2.out
                rw [all_ hle, List.append_assoc, ← HWC.out, ← PW_succ] at hj
                exact ⟨col + 1, hlt, by go_num, HK2.out, HF2.out, HO2.out, hj, by rw [PW_succ, ← List.append_assoc, List.length_append, HWC.out]; exact hle⟩
              case measure => simp [intOf]; omega
            | false =>
              have hle := of_decide_eq_false HBQ9.out.symm
              go_wp2_with fail
              go_ret
              obtain ⟨rest, hrest⟩ := PW_rest (ts.map toS) word cn rounds d i S pre hlt
              rw [HWC.out] at hrest
              have hst := stop_ (R := rest) HVR.out hle
              rw [← hrest] at hst
              refine ⟨by rw [← HRES.out, decide_eq_false hst.2]; rfl, HK2.out, HF2.out, HO2.out, ?_⟩
              rw [← HOUT.out, ← hst.1]
              exact HJ2.out
          · rw [decide_eq_false hs] at hsome
            have hs2 : ¬ (0 : Int) < (nq : Int) := by omega
            have hwc : wordsC (ts.map toS) word cn rounds d i S pre col = [] := by
              unfold wordsC
              rw [← HNS.out, ← hsome]; rfl
            have HWC := Lib.hid hwc; have HE := Lib.hid hE; have HFQ := Lib.hid hFq; have HOQ := Lib.hid hO; have HJQ := Lib.hid hJ
            clear hwc hsome hol hE hFq hO hJ hKB
            go_upto_region 20 with fail
            refine wp_region_gro (by kernel_rfl) (by kernel_rfl) ?_
            repeat (first | go_big_quiet_step (fail) | quiet_step (fail))
            refine wpQuiet_nil ?_
            intro W6 hB6
            have HB6 := Lib.hid hB6; clear hB6
            go_wp2_with fail
            go_roundw
            case rel => exact ⟨col + 1, hlt, by go_num, HE.out.trans (HB6.out.mono HE.out.size), HFQ.out.trans (FS.of_below HB6.out (Nat.le_refl _) (Value.slice Al i cl).ownBlock) (.inl rfl), HOQ.out.to HB6.out, by rw [PW_succ, HWC.out, List.append_nil]; exact HJQ.out.below HB6.out, by rw [PW_succ, HWC.out, List.append_nil]; exact HVR.out⟩
            case measure => simp [intOf]; omega
    · have i1 : ¬ (col : Int) < C := by rw [hHS.out.hC]; omega
      have ec : col = cn := by omega
      have HEC := Lib.hid ec
      have HBR := Lib.hid hBr; have HFR := Lib.hid hFr; have HOR := Lib.hid hOr; have HJR := Lib.hid hJr; have HVR := Lib.hid hvr
      clear hBr hFr hOr hJr hvr ec
      go_wp2_with fail
      go_ret
      have h9 := HVR.out
      have hj := HJR.out
      rw [HEC.out, PW_all] at h9 hj
      rw [List.length_append] at h9
      refine ⟨by rw [← HRES.out, decide_eq_true h9]; rfl, HBR.out, HFR.out, HOR.out, ?_⟩
      rw [← HOUT.out, all_ h9]
      exact hj
end Go.Proofs.Ytenlcakpcbmmdaa
namespace Go.Proofs.Ytenlcakpcbmmdaa
open Go Go.RowKit Go.Proofs Go.Proofs.YtenlcakpcbmmdaaW.PrintWords Go.Proofs.YtenlcakpcbmmdaaW.PrintLast Go.Proofs.YtenlcakpcbmmdaaW.PrintMore Go.Proofs.Ytenlcakpcbmmdaa.Q
set_option linter.unusedVariables false
set_option linter.unusedSimpArgs false
def sos_T5 : Bool × List (List Nat × List Nat) := (true, [([], []), ([], []), ([], []), ([], []), ([1, 2, 3], [1, 2, 3]), ([4], [4]), ([0, 5, 4], [0, 5]), ([6, 6, 0, 1, 2, 3, 4, 5, 6], [6])])
def sos_B5 : List Nat := [0, 0, 0, 0, 14, 30, 63, 127]
theorem sos_tab5 : rtab .any (opsOf Try.f100 5) = sos_T5 := by kernel_rfl
theorem sos_bits5 : waitsOk sos_T5.2 sos_B5 = true := by kernel_rfl
theorem S_empty9 {W : World} {b base : Nat} {ok : Nat → Prop} (hb : BK W b #[] 34) (hbase : base ≤ b) (hok : ok b) : Kd.S (Kd.slice 2 (Kd.int .i64)) 34 W base ok (.slice (some ⟨b, 0, none⟩) 0 0) [] := by
  refine ⟨fun _ => 0, fun k hk => ?_, [], ⟨rfl, .inr ⟨b, 0, #[], rfl, hbase, hb, Nat.le_refl _, by decide, rfl, rfl⟩⟩, ⟨rfl, fun j p hj => by simp at hj⟩⟩
  have : b = k := by simpa [Value.ownBlock] using hk
  subst this
  exact hok
abbrev KT : Kd (List (List Int)) := Kd.slice 34 (Kd.slice 2 (Kd.int .i64))
theorem KT_empty {W : World} {b base : Nat} (hb : BK W b #[] 43) (hbase : base ≤ b) : Kd.R KT 43 W base (fun _ => True) (.slice (some ⟨b, 0, none⟩) 0 0) [] :=
  ⟨fun _ _ => trivial, [], ⟨rfl, .inr ⟨b, 0, #[], rfl, hbase, hb, Nat.le_refl _, by decide, rfl, rfl⟩⟩, ⟨rfl, fun j p hj => by simp at hj⟩⟩
theorem infoT9 : (Try.prog.info? 43).map (fun i => (i.zero, i.size, i.bytes)) = some (some (.slice none 0 0), 1, 24) := by kernel_rfl
def tabsL (rounds : Bool) (cn : Nat) (l : List STile) (word : List Int) (k : Nat) : List (List (List Int)) := (List.range k).map fun (f : Nat) => leftTabE rounds (f : Int) cn l word
def startsL (k : Nat) : List SPr := (List.range k).map fun (f : Nat) => (⟨(f : Int), (f : Int)⟩ : SPr)
theorem tabsL_succ (rounds : Bool) (cn : Nat) (l : List STile) (word : List Int) (k : Nat) : tabsL rounds cn l word (k + 1) = tabsL rounds cn l word k ++ [leftTabE rounds (k : Int) cn l word] := by
  unfold tabsL; rw [List.range_succ, List.map_append, List.map_singleton]
theorem startsL_succ (k : Nat) : startsL (k + 1) = startsL k ++ [⟨(k : Int), (k : Int)⟩] := by
  unfold startsL; rw [List.range_succ, List.map_append, List.map_singleton]
theorem tabsL_len (rounds : Bool) (cn : Nat) (l : List STile) (word : List Int) (k : Nat) : (tabsL rounds cn l word k).length = k := by simp [tabsL]
theorem startsL_len (k : Nat) : (startsL k).length = k := by simp [startsL]
theorem tab_read {W : World} {A : Option Addr} {c nw base cL : Nat} {rounds : Bool} {l : List STile} {word : List Int} (h : Kd.R KT 43 W base (fun _ => True) (.slice A c cL) (tabsL rounds c l word c)) (hnw : nw = word.length) : TabR W A c nw (fun f => leftTabE rounds (f : Int) c l word) := by
  intro f hf
  obtain ⟨A2, c2, e2, -, hC2⟩ := Kd.R_reads h
  injection e2 with e2 _ _
  subst e2
  obtain ⟨hl, -, h2⟩ := hC2
  obtain ⟨ad, he, hc⟩ := h2 (by rw [tabsL_len]; omega)
  subst he
  obtain ⟨g, rfl⟩ := Kd.R_head h
  have hg : (tabsL rounds c l word c)[f]? = some (leftTabE rounds (f : Int) c l word) := by simp [tabsL, hf]
  obtain ⟨cs, -, ⟨A', c', e, hle, hC⟩, hcell⟩ := hc f _ hg
  subst e
  have h0 := hcell 0 _ rfl
  have hlen : (leftTabE rounds (f : Int) c l word).length = nw + 1 := by simp [leftTabE, hnw]
  rw [hlen] at h0 hle
  have e : (⟨g, 0, none⟩ : Addr).add (f * KT.sz + 0) = ⟨g, 0 + f, none⟩ := by
    show (⟨g, 0, none⟩ : Addr).add (f * 1 + 0) = _
    rw [Nat.mul_one, Nat.add_zero, add_none, Nat.zero_add]
  rw [e] at h0
  exact ⟨g, 0, A', c', rfl, World.block_lt_of_cell? _ _ h0, h0, rr_of_C hC, hle, hlen⟩
theorem tab_live {rounds : Bool} {c : Nat} {l : List STile} (hf : Fine c l) {word : List Int} : ∀ f i e, f < c → i ≤ word.length → e < c → decide (0 < ik (rowAt ((fun f : Nat => leftTabE rounds (f : Int) c l word) f) i) e) = lvAt l word c rounds i f e := by
  intro f i e hfc hi he
  have h := leftE_live (rounds := rounds) (a0 := (f : Int)) rfl hfc hf (word := word) hi he
  cases hv : lvAt l word c rounds i f e with
  | true => exact decide_eq_true (h.2 hv)
  | false => exact decide_eq_false (fun h2 => by rw [h.1 h2] at hv; cases hv)
theorem tab_len {rounds : Bool} {c : Nat} {l : List STile} {word : List Int} : ∀ f i, f < c → i ≤ word.length → rowLen ((fun f : Nat => leftTabE rounds (f : Int) c l word) f) i = c := by
  intro f i _ hi
  have h9 : i < word.length + 1 := by omega
  simp [rowLen, rowAt, leftTabE, List.getD_eq_getElem?_getD, h9, capRow]
theorem KT_types {W W1 : World} {base : Nat} {v : Value} {xs : List (List (List Int))} (h : Kd.R KT 43 W base (fun _ => True) v xs) {r : Option Nat} (hg : W.grownBy W1 r) (ht : ∀ k, r = some k → ∃ cells, W.heap[k]? = some (.cells cells 113 (0, 0))) : Kd.R KT 43 W1 base (fun _ => True) v xs := by
  refine Kd.R_mono (Kd.R_move (Kd.R_bound h) (fun k hk => ?_)) (fun _ _ => trivial)
  obtain ⟨-, -, h2, q, hq, cells, hc⟩ := hk
  refine hg.block k h2 (fun e => ?_)
  obtain ⟨cells', hc'⟩ := ht k e.symm
  rw [hc] at hc'
  injection hc' with hc'
  injection hc' with _ e2 _
  subst e2
  revert hq; decide
set_option maxHeartbeats 8000000 in
set_option maxRecDepth 100000 in
theorem left_anyE (w : World) (C : Int) (cn : Nat) (A : Option Addr) (ts : List T4) (n c : Nat) (A1 : Option Addr) (word : List Int) (n1 c1 : Nat) (rounds : Bool) (b2 : Nat) (hC : C = (cn : Int)) (c6 : cn ≤ 6) (hn : n = ts.length) (hA : RT w A ts) (hnc : n ≤ c) (hl : n ≤ 1000) (hn1 : n1 = word.length) (hA1 : RI w A1 word) (hnc1 : n1 ≤ c1) (hl1 : n1 ≤ 1000) (hf : Fine cn (ts.map toS)) (col : Nat) :
    ∀ (ba : Nat) (W : World), Below w.heap.size w W → BK W b2 #[.bool rounds] 4 → BK W ba #[.int .i64 (col : Int)] 2 →
    Calls Try.prog 66 #[.agg #[.int .i64 C, .slice A n c], .slice A1 n1 c1, .func (.func 114) #[] #[.pointer (some ⟨b2, 0, none⟩), .pointer (some ⟨ba, 0, none⟩)]] W fun e w' => ∃ v0, e = .returned v0 ∧ Kd.S (Kd.slice 2 (Kd.int .i64)) 34 w' W.heap.size (fun _ => True) v0 (leftTabE rounds (col : Int) cn (ts.map toS) word) ∧ Below W.heap.size W w' := by
  intro ba W hW h2 ha
  obtain ⟨k, hk⟩ := (lefte_ev rounds (col : Int) C (ts.map toS) word cn hC (by omega) hf (by rw [List.length_map, ← hn]; exact hl) (by rw [← hn1]; exact hl1)).rounds
  have h := impl_Set_left_at_impl_Set_souths_1.calls k C A c (ts.map toS) A1 c1 word b2 rounds ba (col : Int) _ W (C_of_rt (hA.below hW) (by omega)) (by rw [List.length_map, ← hn]; exact hnc) (C_of_ri (hA1.below hW) (by omega)) (by rw [← hn1]; exact hnc1) h2 ha hk
  rw [List.length_map, ← hn, ← hn1] at h
  exact h
set_option maxHeartbeats 8000000 in
set_option maxRecDepth 100000 in
theorem south2_any (w7 : World) (b0 b1 bl be bo : Nat) (tF : TypeId) (C : Int) (cn : Nat) (A : Option Addr) (ts : List T4) (n c : Nat) (A1 : Option Addr) (word : List Int) (n1 c1 : Nat) (AL : Option Addr) (cL : Nat) (tab : Nat → List (List Int)) (rounds : Bool)
    (HS : SC w7 b0 b1 bl be bo C cn A ts n c A1 word n1 c1 AL cL tab rounds) (htF : tF ≠ 43 ∧ tF ≠ 34 ∧ tF ≠ 2) (d : Nat) : SouthC w7 b0 b1 bl be bo tF C cn A ts n c A1 word n1 c1 AL cL tab rounds d := by
  induction d with
  | zero =>
    intro i pre lv pv ps S vs ok W hid hpl hB hK hO hP hSt hCn hok hJ hvs
    have hs : wordsF (ts.map toS) word cn rounds 0 i S pre = [pre] := rfl
    have h := south2_leaf w7 b0 b1 bl be bo C cn A ts n c A1 word n1 c1 AL cL tab rounds HS pre lv pv vs ok W (by omega) hB hO hok hJ hvs
    have e : [pre].take (201 - vs.length) = [pre] := List.take_of_length_le (by simp; omega)
    rw [hs, e]
    exact h
  | succ d ih => exact south2_step w7 b0 b1 bl be bo tF C cn A ts n c A1 word n1 c1 AL cL tab rounds HS htF d ih
theorem name3J {P : Program} {c : Code} {Q : Exit → Act → World → Prop} {a : Act} {w : World} {C1 C2 C3 : Array Value} {E1 E2 E3 : TypeId}
    (h : ∀ W, BK W w.heap.size C1 E1 → BK W (w.heap.size + 1) C2 E2 → BK W (w.heap.size + 1 + 1) C3 E3 → Below w.heap.size w W → c.wp P Q a W) : c.wp P Q a (((w.alloc (.cells C1 E1)).alloc (.cells C2 E2)).alloc (.cells C3 E3)) := by
  have s1 : (w.alloc (.cells C1 E1)).heap.size = w.heap.size + 1 := by simp
  have s2 : ((w.alloc (.cells C1 E1)).alloc (.cells C2 E2)).heap.size = w.heap.size + 1 + 1 := by simp
  have n2 := BK.new (w.alloc (.cells C1 E1)) C2 E2
  have n3 := BK.new ((w.alloc (.cells C1 E1)).alloc (.cells C2 E2)) C3 E3
  rw [s1] at n2; rw [s2] at n3
  exact h _ (((BK.new w C1 E1).alloc _).alloc _) (n2.alloc _) n3 (below_alloc (below_alloc (below_alloc (Below.refl _ _) _) _) _)
structure LJ (N : Nat) (w wr : World) (C : Int) (cn : Nat) (A : Option Addr) (ts : List T4) (n c : Nat) (A1 : Option Addr) (word : List Int) (n1 c1 : Nat) (rounds : Bool) (col : Nat) (v9 v8 : Value) : Prop where
  be : Below N w wr
  k0 : BK wr N #[.int .i64 C, .slice A n c] 30
  k1 : BK wr (N + 1) #[.slice A1 n1 c1] 34
  k2 : BK wr (N + 1 + 1) #[.bool rounds] 4
  kl : BK wr (N + 1 + 1 + 1 + 1 + 1) #[v8] 110
  kt : Kd.R KT 43 wr N (fun _ => True) v8 (tabsL rounds cn (ts.map toS) word col)
  ks : Kd.R R.k113 113 wr N (fun _ => True) v9 (startsL col)
theorem LJ.to {N : Nat} {w wr W : World} {C : Int} {cn : Nat} {A : Option Addr} {ts : List T4} {n c : Nat} {A1 : Option Addr} {word : List Int} {n1 c1 : Nat} {rounds : Bool} {col : Nat} {v9 v8 : Value} (h : LJ N w wr C cn A ts n c A1 word n1 c1 rounds col v9 v8) (hN : N ≤ wr.heap.size) (hb : Below wr.heap.size wr W) : LJ N w W C cn A ts n c A1 word n1 c1 rounds col v9 v8 :=
  ⟨h.be.trans (hb.mono hN), h.k0.below hb h.k0.lt, h.k1.below hb h.k1.lt, h.k2.below hb h.k2.lt, h.kl.below hb h.kl.lt, Kd.R_below h.kt hb, Kd.R_below h.ks hb⟩
theorem name6 {P : Program} {c : Code} {Q : Exit → Act → World → Prop} {a : Act} {w : World} {C1 C2 C3 C4 C5 C6 : Array Value} {E1 E2 E3 E4 E5 E6 : TypeId}
    (h : ∀ W, BK W w.heap.size C1 E1 → BK W (w.heap.size + 1) C2 E2 → BK W (w.heap.size + 1 + 1) C3 E3 → BK W (w.heap.size + 1 + 1 + 1) C4 E4 → BK W (w.heap.size + 1 + 1 + 1 + 1) C5 E5 → BK W (w.heap.size + 1 + 1 + 1 + 1 + 1) C6 E6 → W.heap.size = w.heap.size + 6 → Below w.heap.size w W → c.wp P Q a W) :
    c.wp P Q a ((((((w.alloc (.cells C1 E1)).alloc (.cells C2 E2)).alloc (.cells C3 E3)).alloc (.cells C4 E4)).alloc (.cells C5 E5)).alloc (.cells C6 E6)) := by
  have s1 : (w.alloc (.cells C1 E1)).heap.size = w.heap.size + 1 := by simp
  have s2 : ((w.alloc (.cells C1 E1)).alloc (.cells C2 E2)).heap.size = w.heap.size + 1 + 1 := by simp
  have s3 : (((w.alloc (.cells C1 E1)).alloc (.cells C2 E2)).alloc (.cells C3 E3)).heap.size = w.heap.size + 1 + 1 + 1 := by simp
  have s4 : ((((w.alloc (.cells C1 E1)).alloc (.cells C2 E2)).alloc (.cells C3 E3)).alloc (.cells C4 E4)).heap.size = w.heap.size + 1 + 1 + 1 + 1 := by simp
  have s5 : (((((w.alloc (.cells C1 E1)).alloc (.cells C2 E2)).alloc (.cells C3 E3)).alloc (.cells C4 E4)).alloc (.cells C5 E5)).heap.size = w.heap.size + 1 + 1 + 1 + 1 + 1 := by simp
  have n2 := BK.new (w.alloc (.cells C1 E1)) C2 E2
  have n3 := BK.new ((w.alloc (.cells C1 E1)).alloc (.cells C2 E2)) C3 E3
  have n4 := BK.new (((w.alloc (.cells C1 E1)).alloc (.cells C2 E2)).alloc (.cells C3 E3)) C4 E4
  have n5 := BK.new ((((w.alloc (.cells C1 E1)).alloc (.cells C2 E2)).alloc (.cells C3 E3)).alloc (.cells C4 E4)) C5 E5
  have n6 := BK.new (((((w.alloc (.cells C1 E1)).alloc (.cells C2 E2)).alloc (.cells C3 E3)).alloc (.cells C4 E4)).alloc (.cells C5 E5)) C6 E6
  rw [s1] at n2; rw [s2] at n3; rw [s3] at n4; rw [s4] at n5; rw [s5] at n6
  exact h _ ((((((BK.new w C1 E1).alloc _).alloc _).alloc _).alloc _).alloc _) ((((n2.alloc _).alloc _).alloc _).alloc _) (((n3.alloc _).alloc _).alloc _) ((n4.alloc _).alloc _) (n5.alloc _) n6 (by simp) (below_alloc (below_alloc (below_alloc (below_alloc (below_alloc (below_alloc (Below.refl _ _) _) _) _) _) _) _)
set_option maxHeartbeats 8000000 in
set_option maxRecDepth 100000 in
theorem souths_any (C : Int) (cn : Nat) (A : Option Addr) (ts : List T4) (n c : Nat) (A1 : Option Addr) (word : List Int) (n1 c1 : Nat) (rounds : Bool) (w : World) (hC : C = (cn : Int)) (c0 : 0 < cn) (c6 : cn ≤ 6) (hn : n = ts.length) (hA : RT w A ts) (hnc : n ≤ c) (hl : n ≤ 1000) (hn1 : n1 = word.length) (hA1 : RI w A1 word) (hnc1 : n1 ≤ c1) (h1 : 1 ≤ n1) (hl1 : n1 ≤ 1000) (hf : Fine cn (ts.map toS)) :
    Calls Try.prog 100 #[.agg #[.int .i64 C, .slice A n c], .slice A1 n1 c1, .bool rounds] w fun e w' => ∃ v b, e = .returned (.tuple #[v, .bool b]) ∧ b = decide ((southW C (ts.map toS) word rounds).length ≤ 200) ∧ (b = true → Kd.S (Kd.slice 2 (Kd.int .i64)) 34 w' w.heap.size (fun _ => True) v (southW C (ts.map toS) word rounds)) ∧ (b = false → v = .slice none 0 0) ∧ Below w.heap.size w w' := by
  have hLF := Lib.hid (fun col => left_anyE w C cn A ts n c A1 word n1 c1 rounds (w.heap.size + 1 + 1) hC c6 hn hA hnc hl hn1 hA1 hnc1 hl1 hf col)
  have hsw : southW C (ts.map toS) word rounds = wordsF (ts.map toS) word cn rounds n1 0 startS [] := by unfold southW; rw [hC, hn1]; rfl
  generalize southW C (ts.map toS) word rounds = res at hsw ⊢
  have HSW := Lib.hid hsw; have HCC := Lib.hid hC; have HN := Lib.hid hn; have HA := Lib.hid hA; have HN1 := Lib.hid hn1; have HA1 := Lib.hid hA1; have HF := Lib.hid hf
  clear hsw hC hn hA hn1 hA1 hf
  go_enter Try.func100, Try.ntmps100
  go_upto_region 2 with fail
  refine name6 ?_
  intro W3 q0 q1 q2 q3 q4 q5 hz3 hb3
  obtain ⟨N, hN⟩ : ∃ q, q = w.heap.size := ⟨_, rfl⟩
  rw [← hN] at q0 q1 q2 q3 q4 q5 hz3 hb3 hLF ⊢
  have hLJ0 : LJ N w W3 C cn A ts n c A1 word n1 c1 rounds 0 (.slice (some ⟨N + 1 + 1 + 1 + 1, 0, none⟩) 0 0) (.slice (some ⟨N + 1 + 1 + 1, 0, none⟩) 0 0) := ⟨hb3, q0, q1, q2, q5, KT_empty q3 (by omega), R_empty9 q4 (by omega)⟩
  have HNN := Lib.hid hN; have HLJ0 := Lib.hid hLJ0
  have z0 : W3.cell? ⟨N, 0, none⟩ = some (.int .i64 C) := q0.cell rfl
  have l0 := q0.lt
  clear hN hLJ0 q0 q1 q2 q3 q4 q5 hb3
  go_wp2_with fail
  go_loopw [9, 17] (fun v9 v17 wr => ∃ (col : Nat) (v8 : Value), col ≤ cn ∧ v17 = .int .i64 col ∧ N + 6 ≤ wr.heap.size ∧ LJ N w wr C cn A ts n c A1 word n1 c1 rounds col v9 v8) (fun _ v _ => cn - (intOf v).toNat)
  case atStart => exact ⟨0, _, Nat.zero_le _, rfl, by omega, HLJ0.out⟩
  case round =>
    obtain ⟨col, v8, hcol, rfl, hNr, hL⟩ := hrel
    by_cases hlt : col < cn
    · have i1 : (col : Int) < C := by rw [HCC.out]; omega
      have HL := Lib.hid hL
      clear hL
      go_upto_region 5 with fail
      refine nameS9 ?_
      intro Wa ka hba
      obtain ⟨aB, haB⟩ : ∃ q, q = wr.heap.size := ⟨_, rfl⟩
      rw [← haB] at ka hba ⊢
      have hLa := HL.out.to (by omega) (by rw [← haB]; exact hba)
      have hNa : N + 6 ≤ aB := by omega
      have hka := ka.lt
      obtain ⟨A8, c8, e8⟩ := Kd.R_slice hLa.kt
      rw [tabsL_len] at e8
      subst e8
      have KA := Lib.hid ka; have HLA := Lib.hid hLa
      clear ka hba haB
      have hD := (Below.refl Wa.heap.size Wa).drew
      refine start_ (n := 8) (S := fun w' => w'.cell? ⟨N + 1 + 1 + 1 + 1 + 1, 0, none⟩ = some (.slice A8 col c8) ∧ w'.cell? ⟨N, 0, none⟩ = some (.int .i64 C) ∧ w'.cell? ⟨N, 1, none⟩ = some (.slice A n c) ∧ w'.cell? ⟨N + 1, 0, none⟩ = some (.slice A1 n1 c1)) (ds := [7]) #[false, false, false, false, false, false, false, false] (by kernel_rfl) rfl rfl ⟨cell_to hD (hLa.kl.cell rfl), cell_to hD (hLa.k0.cell rfl), cell_to hD (hLa.k0.cell rfl), cell_to hD (hLa.k1.cell rfl)⟩ (fun hHeld => ?_)
      refine with_tabW sos_tab5 sos_bits5 (fun HT_ HW_ => ?_)
      have HLD := Lib.hid (hLa.to (by omega) hD)
      have KAD := Lib.hid (KA.out.below hD hka)
      have HNWD := Lib.hid (show N + 6 ≤ Wa.drew.heap.size by have := hD.size; omega)
      generalize Wa.drew = wd at hD HLD KAD HNWD hHeld ⊢
      refine pure_ (i := 3) (N := some 23) (v := ?_) (a' := ?_) #[false, false, false, true, false, false, false, false] rfl rfl (any_of HT_.out (by kernel_rfl)) (fun _ _ _ h => h) (Or.inl ⟨by rfl, ?_⟩) ?_ ?_
      rotate_left
      · intro w'
        go_simp
        with_reducible rfl
      rotate_left
      · simp only [Act.put, List.setIfInBounds_toArray, List.set_cons_zero, List.set_cons_succ, i64_w, i32_w]
        rfl
      refine take_ (i := 0) (N := some 20) (v := ?_) (a' := ?_) #[true, false, false, true, false, false, false, false] rfl rfl (take_ofW HT_.out HW_.out (by kernel_rfl)) (fun _ _ _ h => h) (Or.inl ⟨by rfl, ?_⟩) hHeld ?_ ?_
      rotate_left
      · rintro w' ⟨s0, s1, s2, s3⟩
        go_simp
        with_reducible rfl
      rotate_left
      · simp only [Act.put, List.setIfInBounds_toArray, List.set_cons_zero, List.set_cons_succ, i64_w, i32_w]
        rfl
      refine take_ (i := 1) (N := some 21) (v := ?_) (a' := ?_) #[true, true, false, true, false, false, false, false] rfl rfl (take_ofW HT_.out HW_.out (by kernel_rfl)) (fun _ _ _ h => h) (Or.inl ⟨by rfl, ?_⟩) hHeld ?_ ?_
      rotate_left
      · rintro w' ⟨s0, s1, s2, s3⟩
        go_simp
        with_reducible rfl
      rotate_left
      · simp only [Act.put, List.setIfInBounds_toArray, List.set_cons_zero, List.set_cons_succ, i64_w, i32_w]
        rfl
      refine take_ (i := 2) (N := some 22) (v := ?_) (a' := ?_) #[true, true, true, true, false, false, false, false] rfl rfl (take_ofW HT_.out HW_.out (by kernel_rfl)) (fun _ _ _ h => h) (Or.inl ⟨by rfl, ?_⟩) hHeld ?_ ?_
      rotate_left
      · rintro w' ⟨s0, s1, s2, s3⟩
        go_simp
        with_reducible rfl
      rotate_left
      · simp only [Act.put, List.setIfInBounds_toArray, List.set_cons_zero, List.set_cons_succ, i64_w, i32_w]
        rfl
      refine one_ (i := 4) (N := some 24) #[true, true, true, true, true, false, false, false] rfl rfl (one_of HT_.out (by kernel_rfl)) (by decide) (fun K hK => ?_)
      refine goes_ Try.func66 (by kernel_rfl) rfl #[.agg #[.int .i64 C, .slice A n c], .slice A1 n1 c1, .func (.func 114) #[] #[.pointer (some ⟨N + 1 + 1, 0, none⟩), .pointer (some ⟨aB, 0, none⟩)]] (by rfl) rfl rfl (by simp only [List.map_toArray, List.map_cons, List.map_nil]; rfl) ?_
      with_reducible refine (hLF.out col aB wd ?l1 ?l2 ?l3).mono ?_
      (case l1 => exact HLD.out.be)
      (case l2 => exact HLD.out.k2)
      (case l3 => exact KAD.out)
      rintro e w2 ⟨v0, rfl, hS2, hB2⟩
      obtain ⟨A0_, c0_, rfl⟩ := Kd.S_slice hS2
      generalize (leftTabE rounds (col : Int) cn (ts.map toS) word).length = ll_ at hS2 ⊢
      refine ⟨_, rfl, ?_⟩
      have HS2 := Lib.hid hS2; have HB2 := Lib.hid hB2
      refine hK.out _ _ ⟨cell_to hB2 hHeld.1, cell_to hB2 hHeld.2.1, cell_to hB2 hHeld.2.2.1, cell_to hB2 hHeld.2.2.2⟩ (fun hHeld => ?_)
      clear hK K
      refine norm_ (a' := ?_) ?_ ?_
      rotate_left
      · show Act.put _ (some 24) _ = _
        simp only [Act.put, List.setIfInBounds_toArray, List.set_cons_zero, List.set_cons_succ, i64_w, i32_w]
        rfl
      refine one_ (i := 5) (N := some 25) #[true, true, true, true, true, true, false, false] rfl rfl (one_of HT_.out (by kernel_rfl)) (by decide) (fun K hK => ?_)
      refine value_ (w1 := ?_) (v := ?_) (by rfl) rfl ?_ ?_
      rotate_left 2
      · go_simp
        constructor
        · rfl
        · rfl
      refine hK.out _ _ ⟨cell_to (below_alloc (Below.refl _ _) _) hHeld.1, cell_to (below_alloc (Below.refl _ _) _) hHeld.2.1, cell_to (below_alloc (Below.refl _ _) _) hHeld.2.2.1, cell_to (below_alloc (Below.refl _ _) _) hHeld.2.2.2⟩ (fun hHeld => ?_)
      clear hK K
      refine norm_ (a' := ?_) ?_ ?_
      rotate_left
      · show Act.put _ (some 25) _ = _
        simp only [Act.put, List.setIfInBounds_toArray, List.set_cons_zero, List.set_cons_succ, i64_w, i32_w]
        rfl
      refine one_ (i := 6) (N := some 26) #[true, true, true, true, true, true, true, false] rfl rfl (one_of HT_.out (by kernel_rfl)) (by decide) (fun K hK => ?_)
      have hdz := HNWD.out
      have hL2 := HLD.out.to (by omega) HB2.out
      refine Kd.R_append_step KT (w0 := w2) N (by rfl) (.tmp 20) (.tmp 25) 110 43 (.slice none 0 0) 24 rfl (by kernel_rfl) infoT9 rfl (by decide) (by omega) (.slice A8 col c8) (tabsL rounds cn (ts.map toS) word col) (leftTabE rounds (col : Int) cn (ts.map toS) word) [.slice A0_ ll_ c0_] (fun _ => True) (fun k_ => wd.heap.size ≤ k_) rfl rfl ?aP ?aK ?aF ?aO (Below.refl _ _) ?aS ?aL ?_
      (case aP => exact Kd.M_row (Kd.R_lower (Kd.R_mono (Kd.R_bound (Kd.S_R HS2.out)) (fun k hk => hk.2.1)) (by omega)))
      (case aK => exact fun k hk => ⟨trivial, fun e => (by have := Kd.R_lt HLD.out.kt k e.symm; omega)⟩)
      (case aF => exact fun _ _ => trivial)
      (case aO => exact hL2.kt)
      (case aS => have := HB2.out.size; omega)
      (case aL => rw [tabsL_len]; omega)
      intro v1 w3 hR3 hB3 hG3 hat3
      obtain ⟨A9, c9, e9⟩ := Kd.R_slice hR3
      rw [List.length_append, tabsL_len, List.length_singleton] at e9
      subst e9
      have hN3 := hG3.size
      have hN2 := HB2.out.size
      have p1 := hL2.k0.grown hG3 (Kd.R_ne hL2.kt hL2.k0 (by decide)); have p2 := hL2.k1.grown hG3 (Kd.R_ne hL2.kt hL2.k1 (by decide)); have p3 := hL2.k2.grown hG3 (Kd.R_ne hL2.kt hL2.k2 (by decide)); have p4 := hL2.kl.grown hG3 (Kd.R_ne hL2.kt hL2.kl (by decide))
      have a2 := KAD.out.below HB2.out KAD.out.lt
      have a3 := a2.grown hG3 (Kd.R_ne hL2.kt a2 (by decide))
      have p7 : Kd.R R.k113 113 w3 N (fun _ => True) u9 (startsL col) := Kd.R_grown2 hL2.ks rfl hG3 (fun k hk e => (by
        obtain ⟨C1_, h1_⟩ := Kd.R_typed hL2.kt k hk
        obtain ⟨C2_, h2_⟩ := Kd.R_typed hL2.ks k e.symm
        rw [h1_] at h2_; injection h2_ with h2_; injection h2_ with _ h2_ _; exact absurd h2_ (by decide)))
      have fo3 := p4.frozen 0; have zo3 := p4.cell (k := 0) rfl
      have HP := Lib.hid (And.intro p1 (And.intro p2 (And.intro p3 (And.intro p4 (And.intro a3 (And.intro p7 (And.intro hR3 (hL2.be.trans hB3))))))))
      refine hK.out _ _ ⟨p4.cell rfl, p1.cell rfl, p1.cell rfl, p2.cell rfl⟩ (fun hHeld => ?_)
      clear hK K
      refine norm_ (a' := ?_) ?_ ?_
      rotate_left
      · show Act.put _ (some 26) _ = _
        simp only [Act.put, List.setIfInBounds_toArray, List.set_cons_zero, List.set_cons_succ, i64_w, i32_w]
        rfl
      refine last_ (i := 7) (N := none) #[true, true, true, true, true, true, true, true] rfl rfl (one_of HT_.out (by kernel_rfl)) (by decide) (fun K hK => ?_)
      refine skip_ (w1 := ?_) (by rfl) rfl ?_ ?_
      rotate_left
      · go_simp
        rfl
      obtain ⟨p1, p2, p3, p4, a3, p7, hR3, hB3⟩ := HP.out
      have hL9 := And.intro (hB3.setCell (p := ⟨N + 1 + 1 + 1 + 1 + 1, 0, none⟩) (by show N ≤ N + 1 + 1 + 1 + 1 + 1; omega) (.slice A9 (col + 1) c9)) (And.intro (p1.set_ne (b' := N + 1 + 1 + 1 + 1 + 1) (by omega) 0 (.slice A9 (col + 1) c9)) (And.intro (p2.set_ne (b' := N + 1 + 1 + 1 + 1 + 1) (by omega) 0 (.slice A9 (col + 1) c9)) (And.intro (p3.set_ne (b' := N + 1 + 1 + 1 + 1 + 1) (by omega) 0 (.slice A9 (col + 1) c9)) (And.intro (p4.set 0 (.slice A9 (col + 1) c9)) (And.intro (show w3.heap.size ≤ (w3.setCell ⟨N + 1 + 1 + 1 + 1 + 1, 0, none⟩ (.slice A9 (col + 1) c9)).heap.size from ((Below.refl 0 w3).setCell (p := ⟨N + 1 + 1 + 1 + 1 + 1, 0, none⟩) (Nat.zero_le _) (.slice A9 (col + 1) c9)).size) (And.intro (Kd.R_set hR3 p4 (by decide) 0 (.slice A9 (col + 1) c9)) (Kd.R_set p7 p4 (by decide) 0 (.slice A9 (col + 1) c9))))))))
      have ha9 := a3.set_ne (b' := N + 1 + 1 + 1 + 1 + 1) (by omega) 0 (.slice A9 (col + 1) c9)
      refine hK.out _ _ ?_
      clear hK K
      refine done_ (done_of HT_.out (by kernel_rfl)) ?_
      rw [← tabsL_succ] at hL9
      generalize w3.setCell ⟨N + 1 + 1 + 1 + 1 + 1, 0, none⟩ (.slice A9 (col + 1) c9) = w9 at hL9 ha9 ⊢
      have HS9 := Lib.hid hL9; have HA9 := Lib.hid ha9
      have y9 : w9.cell? ⟨aB, 0, none⟩ = some (.int .i64 (col : Int)) := HA9.out.cell rfl
      have ly9 := HA9.out.lt
      obtain ⟨As, cs9, es⟩ := Kd.R_slice HS9.out.2.2.2.2.2.2.2
      rw [startsL_len] at es
      subst es
      have HRS := Lib.hid HS9.out.2.2.2.2.2.2.2
      clear hL9 ha9 hLa
      go_wp2_with (first | ((with_reducible refine gate_builtin (b := .append) (xs := #[.tmp 27, .tmp 31]) rfl ?_); at_builtin; refine Kd.R_append R.k113 (w0 := w9) N rfl (.tmp 27) (.tmp 31) 111 113 (.agg #[.int .i64 0, .int .i64 0]) 16 rfl (by kernel_rfl) infoP9 rfl (by decide) (by omega) (.slice As col cs9) (startsL col) ⟨(col : Int), (col : Int)⟩ [.int .i64 (col : Int), .int .i64 (col : Int)] (fun _ => True) (fun _ => False) rfl rfl (R.k113_mkM _ _ _ _) (fun _ h_ => h_.elim) (fun _ _ => trivial) ?aO (Below.refl _ _) ?aS ?aL ?_; (case aO => exact HRS.out); (case aS => omega); (case aL => rw [startsL_len]; omega); intro v1 w1 ho hb hg hat; have HO1 := Lib.hid ho; have HB1 := Lib.hid hb; have HG1 := Lib.hid hg; have HAT := Lib.hid hat; clear ho hb hg hat))
      go_roundw
      case rel =>
        obtain ⟨p0, p1, p2, p3, p4, p5, p6, p7⟩ := HS9.out
        exact ⟨col + 1, _, hlt, by go_num, by have := HG1.out.size; omega, ⟨p0.trans HB1.out, p1.grown HG1.out (Kd.R_ne p7 p1 (by decide)), p2.grown HG1.out (Kd.R_ne p7 p2 (by decide)), p3.grown HG1.out (Kd.R_ne p7 p3 (by decide)), p4.grown HG1.out (Kd.R_ne p7 p4 (by decide)), KT_types p6 HG1.out (Kd.R_typed p7), by rw [startsL_succ]; exact HO1.out⟩⟩
      case measure => simp [intOf]; omega
    · have i1 : ¬ (col : Int) < C := by rw [HCC.out]; omega
      have ec : col = cn := by omega
      subst ec
      have HL := Lib.hid hL
      clear hL
      go_upto_region 11 with fail
      refine name3J ?_
      intro W9 r0 r1 r2 hb9
      obtain ⟨AL, cL, eL⟩ := Kd.R_slice HL.out.kt
      rw [tabsL_len] at eL
      subst eL
      obtain ⟨AS, cS, eS⟩ := Kd.R_slice HL.out.ks
      rw [startsL_len] at eS
      subst eS
      have hbw : Below w.heap.size w wr := by have h := HL.out.be; rw [HNN.out] at h; exact h
      have hSC : SC wr N (N + 1) (N + 1 + 1 + 1 + 1 + 1) (wr.heap.size + 1 + 1) (wr.heap.size + 1) C col A ts n c A1 word n1 c1 AL cL (fun f => leftTabE rounds (f : Int) col (ts.map toS) word) rounds :=
        ⟨HCC.out, c0, c6, HN.out, HA.out.below hbw, hl, HN1.out, HA1.out.below hbw, h1, hl1, HL.out.k0, HL.out.k1, HL.out.kl, tab_read HL.out.kt rfl, HF.out, tab_live HF.out, tab_len, by omega, by omega⟩
      have hcall := south2_any wr N (N + 1) (N + 1 + 1 + 1 + 1 + 1) (wr.heap.size + 1 + 1) (wr.heap.size + 1) _ C col A ts n c A1 word n1 c1 AL cL (fun f => leftTabE rounds (f : Int) col (ts.map toS) word) rounds hSC (by decide) n1 0 [] (.slice none 0 0) (.slice AS col cS) (startsL col) startS [] (fun _ => True) W9 (Nat.zero_add _) rfl hb9 r2 (OI.nil _ _ _) (Kd.R_lower (Kd.R_below HL.out.ks hb9) (Nat.zero_le _)) (startsP col) (startsC col c6) (fun _ _ => trivial) ⟨_, r1, S_empty9 r0 (Nat.le_refl _) ⟨trivial, by simp [Value.ownBlock]⟩, by omega⟩ (by simp)
      rw [← HSW.out, List.length_nil, Nat.zero_add, List.nil_append, Nat.sub_zero] at hcall
      have y9 : W9.cell? ⟨wr.heap.size + 1 + 1, 0, none⟩ = some (.func (.func 115) #[] #[.pointer (some ⟨N + 1, 0, none⟩), .pointer (some ⟨wr.heap.size + 1, 0, none⟩), .pointer (some ⟨N, 0, none⟩), .pointer (some ⟨N + 1 + 1 + 1 + 1 + 1, 0, none⟩), .pointer (some ⟨wr.heap.size + 1 + 1, 0, none⟩)]) := r2.cell rfl
      have ly := r2.lt
      have HCALL := Lib.hid hcall; have HBW := Lib.hid hbw
      clear hSC hcall r0 r1 r2 hbw hb9
      go_wp2_with fail
      refine HCALL.out.mono ?_
      rintro e w9 ⟨rfl, hB9, -, -, hJ9⟩
      have HB9 := Lib.hid (HBW.out.trans (hB9.mono HBW.out.size))
      by_cases hq : res.length ≤ 200
      · have hd := decide_eq_true hq
        have ht : res.take 201 = res := List.take_of_length_le (by omega)
        rw [ht] at hJ9
        rw [hd]
        obtain ⟨vo, hv, hS, -⟩ := hJ9
        have zo : w9.cell? ⟨wr.heap.size + 1, 0, none⟩ = some vo := hv.cell rfl
        have lz := hv.lt
        obtain ⟨Ao, co, rfl⟩ := Kd.S_slice hS
        have HSO := Lib.hid (Kd.S_lower (Kd.S_mono hS (fun _ _ => trivial)) HBW.out.size)
        clear hS hv hB9
        go_wp2_with fail
        go_ret2
        exact ⟨_, true, rfl, hd.symm, (fun _ => HSO.out), (fun h => by cases h), HB9.out⟩
      · have hd := decide_eq_false hq
        rw [hd]
        clear hJ9 hB9
        go_wp2_with fail
        go_ret2
        exact ⟨_, false, rfl, hd.symm, (fun h => by cases h), (fun _ => rfl), HB9.out⟩
end Go.Proofs.Ytenlcakpcbmmdaa
namespace Go.Proofs.Ytenlcakpcbmmdaa
open Go Go.RowKit Go.Proofs Go.Proofs.YtenlcakpcbmmdaaW.PrintWords Go.Proofs.YtenlcakpcbmmdaaW.PrintLast Go.Proofs.YtenlcakpcbmmdaaW.PrintMore Go.Proofs.Ytenlcakpcbmmdaa.Q
set_option linter.unusedVariables false
set_option linter.unusedSimpArgs false
theorem implSouthCode_ev (C : Int) (l : List STile) (word : List Int) (hl : l.length ≤ 35184372088832) (hw : word.length ≤ 35184372088832) :
    Ev (fun k => impl_setCode_at_impl_southWords_1.f k C l C l word) (codeW (isS C (l.map toT)) (isWordB C word)) := by
  have hin : inLim l.length = true := by simpa [inLim] using hl
  cases hs : isS C (l.map toT)
  · refine Ev.congr (fun k => ?_) (Ev.now _)
    rw [impl_setCode_at_impl_southWords_1.f, impl_IsSet.f, if_pos hin, hs]; rfl
  · obtain ⟨hC, hlen, -⟩ := isS_fine hs
    have hword := implWord_ev C l word ⟨by omega, by omega⟩ hw
    refine Ev.congr (f := fun k => (impl_Set_isWord.f k C l word).bind fun b => if b = true then some 0 else some 2) (fun k => ?_) (Ev.bind hword ?_)
    · rw [impl_setCode_at_impl_southWords_1.f, impl_IsSet.f, if_pos hin, hs]
      simp only [Option.bind_some, if_true]
      rw [impl_southWords_1.f]
      cases impl_Set_isWord.f k C l word with
      | none => rfl
      | some b => rfl
    · refine Ev.congr (fun k => ?_) (Ev.now _)
      cases isWordB C word <;> rfl
theorem nilOWS (w' : World) (lo : Nat) : OWS w' lo w'.heap.size (.slice none 0 0) [] (fun i => icells (rowAt [] i)) := by
  have h := ows_of_S (Kd.S_nil (Kd.slice 2 (Kd.int .i64)) 34 w' lo (fun _ => True))
  exact h
set_option maxHeartbeats 8000000 in
set_option maxRecDepth 100000 in
theorem southWords_any (C : Int) (A : Option Addr) (ts : List T4) (n ca : Nat) (Aw : Option Addr) (word : List Int) (nw cw : Nat) (rounds : Bool) (w : World) (hn : n = ts.length) (hA : RT w A ts) (hnc : n ≤ ca) (hl : n ≤ 35184372088832) (hnw : nw = word.length) (hA' : RI w Aw word) (hnc' : nw ≤ cw) (hl' : nw ≤ 35184372088832) :
    Calls Try.prog 73 #[.agg #[.int .i64 C, .slice A n ca], .slice Aw nw cw, .bool rounds] w fun e w' => ∃ v xs code, southR C ts word rounds = (xs, code) ∧ e = .returned (.tuple #[v, .int .i64 code]) ∧ OWS w' w.heap.size w'.heap.size v xs (fun i => icells (rowAt xs i)) ∧ Below w.heap.size w w' := by
  have HA := Lib.hid hA; have HN := Lib.hid hn; have HA' := Lib.hid hA'; have HNW := Lib.hid hnw
  clear hA hn hA' hnw
  obtain ⟨kc, hkc⟩ := (implSouthCode_ev C (ts.map toS) word (by rw [List.length_map, ← HN.out]; exact hl) (by rw [← HNW.out]; exact hl')).rounds
  rw [map_toTS] at hkc
  have HCODE := Lib.hid (show ∀ W, Below w.heap.size w W → BK W w.heap.size #[.int .i64 C, .slice A n ca] 30 → BK W (w.heap.size + 1) #[.slice Aw nw cw] 34 → Calls Try.prog 54 #[.agg #[.int .i64 C, .slice A n ca], .func (.func 99) #[] #[.pointer (some ⟨w.heap.size, 0, none⟩), .pointer (some ⟨w.heap.size + 1, 0, none⟩)]] W fun e w' => e = .returned (.int .i64 (codeW (isS C ts) (isWordB C word))) ∧ Below W.heap.size W w' from fun W hW b0 b1 => by
    have b0' : W.heap[w.heap.size]? = some (.cells #[.int .i64 C, .slice A (ts.map toS).length ca] 30 (0, 0)) := by rw [List.length_map, ← HN.out]; exact b0
    have b1' : W.heap[w.heap.size + 1]? = some (.cells #[.slice Aw word.length cw] 34 (0, 0)) := by rw [← HNW.out]; exact b1
    have h := impl_setCode_at_impl_southWords_1.calls kc C A ca (ts.map toS) w.heap.size C A ca (ts.map toS) (w.heap.size + 1) Aw cw word _ W (C_of_rt (HA.out.below hW) (by rw [← HN.out]; omega)) (by rw [List.length_map, ← HN.out]; exact hnc) (C_of_rt (HA.out.below hW) (by rw [← HN.out]; omega)) (by rw [List.length_map, ← HN.out]; exact hnc) (C_of_ri (HA'.out.below hW) (by rw [← HNW.out]; omega)) (by rw [← HNW.out]; exact hnc') b0' b1' hkc
    rw [List.length_map, ← HN.out] at h
    exact h)
  clear hkc
  by_cases hbad : codeW (isS C ts) (isWordB C word) ≠ 0
  · have hR : southR C ts word rounds = ([], codeW (isS C ts) (isWordB C word)) := by
      unfold southR
      cases h1 : isS C ts
      · rfl
      · cases h2 : isWordB C word
        · rfl
        · rw [h1, h2] at hbad; exact absurd rfl hbad
    obtain ⟨z, hz⟩ : ∃ q, q = codeW (isS C ts) (isWordB C word) := ⟨_, rfl⟩
    rw [← hz] at hbad hR
    rw [← hz] at HCODE
    have HR := Lib.hid hR
    have v0 : (z != 0) = true := by simpa using hbad
    have v1 : ¬ z = 0 := hbad
    clear hz hR hbad
    go_enter Try.func73, Try.ntmps73
    go_upto_region 1 with fail
    refine name2 ?_
    intro W1 q0 q1 hz1 hb1
    have HB1 := Lib.hid hb1
    have HQ0 := Lib.hid q0; have HQ1 := Lib.hid q1
    have z0 : W1.cell? ⟨w.heap.size, 0, none⟩ = some (.int .i64 C) := q0.cell rfl
    have z1 : W1.cell? ⟨w.heap.size, 1, none⟩ = some (.slice A n ca) := q0.cell rfl
    have l1 := q0.lt
    clear q0 q1 hb1
    go_wp2_with fail
    refine (HCODE.out W1 HB1.out HQ0.out HQ1.out).mono ?_
    rintro e W2 ⟨rfl, hb2⟩
    have HB2 := Lib.hid (below_to HB1.out hb2)
    clear hb2 z0 z1 l1
    go_wp2_with fail
    go_ret2
    exact ⟨_, _, _, HR.out, rfl, nilOWS _ _, HB2.out⟩
  · have h0 : codeW (isS C ts) (isWordB C word) = 0 := Decidable.of_not_not hbad
    have hs : isS C ts = true := by cases h1 : isS C ts with | true => rfl | false => rw [h1] at h0; cases h0
    have hw : isWordB C word = true := by
      cases h1 : isWordB C word with
      | true => rfl
      | false => rw [hs, h1] at h0; cases h0
    rw [h0] at HCODE
    have hR : southR C ts word rounds = if (southW C (ts.map toS) word rounds).length ≤ 200 then (southW C (ts.map toS) word rounds, 0) else ([], 3) := by unfold southR; rw [if_pos hs, if_pos hw]
    have hs2 : isS C ((ts.map toS).map toT) = true := by rw [map_toTS]; exact hs
    obtain ⟨hC, hl16, -⟩ := isS_fine hs2
    have hf := isS_Fine hs2
    rw [List.length_map, ← HN.out] at hl16
    obtain ⟨c, hc⟩ : ∃ c : Nat, c = C.toNat := ⟨_, rfl⟩
    have hCc : C = (c : Int) := by omega
    have c6 : c ≤ 6 := by omega
    have c0 : 0 < c := by omega
    have nw20 : 1 ≤ nw ∧ nw ≤ 20 := by
      rw [isWordB, Bool.and_eq_true] at hw
      have := inB_iff.1 hw.1
      rw [HNW.out]; omega
    have hfc : Fine c (ts.map toS) := by rw [hc]; exact hf
    have HSOU := Lib.hid (show ∀ W, Below w.heap.size w W → _ from fun W hW => souths_any C c A ts n ca Aw word nw cw rounds W hCc c0 c6 HN.out (HA.out.below hW) hnc (by omega) HNW.out (HA'.out.below hW) hnc' nw20.1 (by omega) hfc)
    have HR := Lib.hid hR
    clear hR hCc hc hs hw hs2 hf hfc h0 hbad
    generalize southW C (ts.map toS) word rounds = res at HR HSOU
    go_enter Try.func73, Try.ntmps73
    go_upto_region 1 with fail
    refine name2 ?_
    intro W1 q0 q1 hz1 hb1
    have HB1 := Lib.hid hb1
    have HQ0 := Lib.hid q0; have HQ1 := Lib.hid q1
    have z0 : W1.cell? ⟨w.heap.size, 0, none⟩ = some (.int .i64 C) := q0.cell rfl
    have z1 : W1.cell? ⟨w.heap.size, 1, none⟩ = some (.slice A n ca) := q0.cell rfl
    have y1 : W1.cell? ⟨w.heap.size + 1, 0, none⟩ = some (.slice Aw nw cw) := q1.cell rfl
    have l1 := q0.lt; have l2 := q1.lt
    clear q0 q1 hb1
    go_wp2_with fail
    refine (HCODE.out W1 HB1.out HQ0.out HQ1.out).mono ?_
    rintro e W2 ⟨rfl, hb2⟩
    have z0 := cell_to hb2 z0; have z1 := cell_to hb2 z1; have y1 := cell_to hb2 y1
    have l1 : w.heap.size < W2.heap.size := Nat.lt_of_lt_of_le l1 hb2.size
    have l2 : w.heap.size + 1 < W2.heap.size := Nat.lt_of_lt_of_le l2 hb2.size
    have HB2 := Lib.hid (below_to HB1.out hb2)
    clear hb2
    go_wp2_with fail
    refine (HSOU.out W2 HB2.out).mono ?_
    rintro e W3 ⟨v, b, rfl, hb, hv1, hv2, hb3⟩
    have HB3 := Lib.hid (below_to HB2.out hb3)
    have HSZ := Lib.hid HB2.out.size
    cases b with
    | true =>
      have hle := of_decide_eq_true hb.symm
      have hS := hv1 rfl
      obtain ⟨Av, cv, rfl⟩ := Kd.S_slice hS
      have HS := Lib.hid (ows_of_S (Kd.S_lower hS HSZ.out))
      have HLE := Lib.hid hle
      clear hb hv1 hv2 hS hb3 hle
      go_wp2_with fail
      go_ret2
      exact ⟨_, res, 0, by rw [HR.out, if_pos HLE.out], rfl, HS.out, HB3.out⟩
    | false =>
      have hle := of_decide_eq_false hb.symm
      have hv := hv2 rfl
      subst hv
      have HLE := Lib.hid hle
      clear hb hv1 hv2 hb3 hle
      go_wp2_with fail
      go_ret2
      exact ⟨_, [], 3, by rw [HR.out, if_neg HLE.out], rfl, nilOWS _ _, HB3.out⟩
set_option maxHeartbeats 8000000 in
set_option maxRecDepth 100000 in
theorem implSouthRounds_any (C : Int) (A : Option Addr) (ts : List T4) (n c : Nat) (A' : Option Addr) (word : List Int) (n' c' : Nat) (w : World) (hn : n = ts.length) (hA : RT w A ts) (hnc : n ≤ c) (hl : n ≤ 35184372088832) (hn' : n' = word.length) (hA' : RI w A' word) (hnc' : n' ≤ c') (hl' : n' ≤ 35184372088832) :
    Calls Try.prog 29 #[.agg #[.int .i64 C, .slice A n c], .slice A' n' c'] w fun e w' => ∃ v xs code, southR C ts word true = (xs, code) ∧ e = .returned (.tuple #[v, .int .i64 code]) ∧ OWS w' w.heap.size w'.heap.size v xs (fun i => icells (rowAt xs i)) ∧ Below w.heap.size w w' := by
  have HS := Lib.hid (show ∀ W, Below w.heap.size w W → _ from fun W hW => southWords_any C A ts n c A' word n' c' true W hn (hA.below hW) hnc hl hn' (hA'.below hW) hnc' hl')
  clear hn hA hn' hA'
  go_enter Try.func29, Try.ntmps29
  go_upto_region 1 with fail
  refine nameS9 ?_
  intro W1 q0 hb1
  have HB1 := Lib.hid hb1
  have z0 : W1.cell? ⟨w.heap.size, 0, none⟩ = some (.int .i64 C) := q0.cell rfl
  have z1 : W1.cell? ⟨w.heap.size, 1, none⟩ = some (.slice A n c) := q0.cell rfl
  have l1 := q0.lt
  clear q0 hb1
  go_wp2_with fail
  refine (HS.out W1 HB1.out).mono ?_
  rintro e W2 ⟨v, xs, code, hR, rfl, hO, hb2⟩
  have HB2 := Lib.hid (below_to HB1.out hb2)
  have hO2 : OWS W2 w.heap.size W2.heap.size v xs (fun i => icells (rowAt xs i)) := ows_lo hO HB1.out.size
  obtain ⟨Av, cv, rfl⟩ := hO2.form0
  have HO := Lib.hid hO2; have HR := Lib.hid hR
  clear hb2 hO hO2 hR z0 z1 l1
  go_wp2_with fail
  go_ret2
  exact ⟨_, xs, code, HR.out, rfl, HO.out, HB2.out⟩
theorem southR_len (C : Int) (ts : List T4) (word : List Int) (rounds : Bool) : (southR C ts word rounds).1.length ≤ 1000000 ∧ rowsz0 (southR C ts word rounds).1 ≤ 40000000 := by
  unfold southR
  split
  · split
    · rename_i hw
      rw [isWordB, Bool.and_eq_true] at hw
      have h20 := inB_iff.1 hw.1
      split
      · rename_i hlen
        have hrow : ∀ i, i < (southW C (ts.map toS) word rounds).length → rowLen (southW C (ts.map toS) word rounds) i ≤ 20 := by
          intro i hi
          have hm : (southW C (ts.map toS) word rounds)[i] ∈ southW C (ts.map toS) word rounds := List.getElem_mem hi
          have h9 := wordsF_len (ts.map toS) word C.toNat rounds word.length 0 startS [] _ hm
          have e : rowLen (southW C (ts.map toS) word rounds) i = ((southW C (ts.map toS) word rounds)[i]).length := by rw [rowLen, rowAt_at hi]
          rw [e, h9, List.length_nil]; omega
        generalize southW C (ts.map toS) word rounds = res at hlen hrow
        have ht : ∀ j, j ≤ res.length → tot (rowLen res) j ≤ 20 * j := by
          intro j
          induction j with
          | zero => intro _; simp [tot]
          | succ j ih =>
            intro hj
            have h1 := ih (by omega)
            have h2 := hrow j (by omega)
            rw [tot]; omega
        have h3 := ht res.length (Nat.le_refl _)
        show res.length ≤ 1000000 ∧ rowsz0 res ≤ 40000000
        unfold rowsz0
        exact ⟨by omega, by omega⟩
      · exact ⟨by simp, by simp [rowsz0, tot]⟩
    · exact ⟨by simp, by simp [rowsz0, tot]⟩
  · exact ⟨by simp, by simp [rowsz0, tot]⟩
end Go.Proofs.Ytenlcakpcbmmdaa
namespace Go.Proofs.Ytenlcakpcbmmdaa
open Go Go.RowKit Go.Proofs
set_option linter.unusedVariables false
set_option linter.unusedSimpArgs false
set_option maxHeartbeats 16000000 in
set_option maxRecDepth 100000 in
theorem lawSouthRounds_any (w : World) (C0 : Int) (A0 : Option Addr) (ts0 : List T4) (n0 c0 : Nat) (hn0 : n0 = ts0.length) (hA0 : RT w A0 ts0) (hnc0 : n0 ≤ c0) (hl0 : n0 ≤ 35184372088832) (hC0 : -9223372036854775808 ≤ C0 ∧ C0 ≤ 9223372036854775807) (A1 : Option Addr) (ts1 : List Int) (n1 c1 : Nat) (hn1 : n1 = ts1.length) (hA1 : RI w A1 ts1) (hnc1 : n1 ≤ c1) (hl1 : n1 ≤ 35184372088832) :
    Calls Try.prog 7 #[.agg #[.int .i64 C0, .slice A0 n0 c0], .slice A1 n1 c1] w fun e w' => e = .returned (.bool true) ∧ Below w.heap.size w w' := by
  subst hn0
  have HA0 := Lib.hid hA0; clear hA0
  subst hn1
  have HA1 := Lib.hid hA1; clear hA1
  by_cases hbig0 : (1048576 : Int) < ((ts1.length : Nat) : Int)
  · go_enter Try.func7, Try.ntmps7
    go_wp2_with fail
    go_ret
    exact ⟨rfl, by simpa using (Below.refl _ _).alloc (Nat.le_refl _) _⟩
  · replace hbig0 : ((ts1.length : Nat) : Int) ≤ 1048576 := by omega
    by_cases hbig1 : (1048576 : Int) < ((ts0.length : Nat) : Int)
    · go_enter Try.func7, Try.ntmps7
      go_wp2_with fail
      refine namec1 ?_
      intro w1 b0 hz hB
      have tw1 : w.heap.size + 1 ≤ w1.heap.size := by omega
      clear hz
      have sw1 : w.heap.size ≤ w1.heap.size := hB.size
      have hE := Lib.hid (hB)
      clear hB
      refine (szSet_any C0 A0 ts0.length c0 (1048576) w1 (by omega) (by omega) (by omega)).mono ?_
      rintro e w2 ⟨rfl, hB⟩
      rw [if_pos (show (1048576 : Int) < (ts0.length : Nat) by omega)]
      replace b0 := b0.below hB b0.lt
      have sw2 : w1.heap.size ≤ w2.heap.size := hB.size
      replace hE := Lib.hid (below_to hE.out hB)
      clear hB
      go_wp2_with fail
      go_ret
      exact ⟨rfl, hE.out⟩
    · replace hbig1 : ((ts0.length : Nat) : Int) ≤ 1048576 := by omega
      obtain ⟨r_, hr_⟩ : ∃ r, southR C0 ts0 ts1 true = r := ⟨_, rfl⟩
      obtain ⟨r1, r2⟩ := r_
      have hb1 : r1.length ≤ 1000000 ∧ rowsz0 r1 ≤ 40000000 := by have h_ := southR_len C0 ts0 ts1 true; rw [hr_] at h_; exact h_
      have HR := Lib.hid hr_; clear hr_
      go_enter Try.func7, Try.ntmps7
      go_wp2_with fail
      refine namec1 ?_
      intro w1 b0 hz hB
      have tw1 : w.heap.size + 1 ≤ w1.heap.size := by omega
      clear hz
      have sw1 : w.heap.size ≤ w1.heap.size := hB.size
      have hE := Lib.hid (hB)
      clear hB
      refine (szSet_any C0 A0 ts0.length c0 (1048576) w1 (by omega) (by omega) (by omega)).mono ?_
      rintro e w2 ⟨rfl, hB⟩
      rw [if_neg (show ¬ (1048576 : Int) < (ts0.length : Nat) by omega)]
      replace b0 := b0.below hB b0.lt
      have sw2 : w1.heap.size ≤ w2.heap.size := hB.size
      replace hE := Lib.hid (below_to hE.out hB)
      clear hB
      have l0 := b0.lt
      have c0_0 : w2.cell? ⟨w.heap.size, 0, none⟩ = some (.int .i64 C0) := b0.cell rfl
      have c0_1 : w2.cell? ⟨w.heap.size, 1, none⟩ = some (.slice A0 ts0.length c0) := b0.cell rfl
      go_wp2_with fail
      clear l0 c0_0 c0_1
      refine (toSet_any C0 A0 ts0 ts0.length c0 w2 rfl (HA0.out.below hE.out) (by omega)).mono ?_
      rintro e w3 ⟨v_, rfl, hO, hB⟩
      obtain ⟨A1_, c1_, rfl, -, -⟩ := hO.reads
      have O1 := Lib.hid (OW.of hO)
      clear hO
      replace b0 := b0.below hB b0.lt
      have sw3 : w2.heap.size ≤ w3.heap.size := hB.size
      replace hE := Lib.hid (below_to hE.out hB)
      clear hB
      have l0 := b0.lt
      have c0_0 : w3.cell? ⟨w.heap.size, 0, none⟩ = some (.int .i64 C0) := b0.cell rfl
      have c0_1 : w3.cell? ⟨w.heap.size, 1, none⟩ = some (.slice A0 ts0.length c0) := b0.cell rfl
      go_wp2_with fail
      clear l0 c0_0 c0_1
      refine (toInt64S_any A1 ts1 ts1.length c1 w3 rfl (HA1.out.below hE.out) (by omega)).mono ?_
      rintro e w4 ⟨v_, rfl, hO, hB⟩
      obtain ⟨A2_, c2_, rfl, -, -⟩ := hO.reads
      have O2 := Lib.hid (OW.of hO)
      clear hO
      replace b0 := b0.below hB b0.lt
      replace O1 := Lib.hid (O1.out.to hB)
      have sw4 : w3.heap.size ≤ w4.heap.size := hB.size
      replace hE := Lib.hid (below_to hE.out hB)
      clear hB
      have l0 := b0.lt
      have c0_0 : w4.cell? ⟨w.heap.size, 0, none⟩ = some (.int .i64 C0) := b0.cell rfl
      have c0_1 : w4.cell? ⟨w.heap.size, 1, none⟩ = some (.slice A0 ts0.length c0) := b0.cell rfl
      go_wp2_with fail
      clear l0 c0_0 c0_1
      refine (specSouthRounds_any C0 A1_ ts0 ts0.length c1_ A2_ ts1 ts1.length c2_ w4 rfl (rt_of O1.out rfl) (le_of O1.out) (by omega) rfl (ri_of O2.out rfl) (le_of O2.out) (by omega)).mono ?_
      rintro e w5 ⟨v0_, x0_, x1_, hR_, rfl, hO0, hB⟩
      obtain ⟨rfl, rfl⟩ : r1 = x0_ ∧ r2 = x1_ := (by have h_ := HR.out.symm.trans hR_; simpa using h_)
      clear hR_
      obtain ⟨A3_, c3_, rfl⟩ := hO0.form0
      have O3 := Lib.hid hO0
      clear hO0
      replace b0 := b0.below hB b0.lt
      replace O1 := Lib.hid (O1.out.to hB)
      replace O2 := Lib.hid (O2.out.to hB)
      have sw5 : w4.heap.size ≤ w5.heap.size := hB.size
      replace hE := Lib.hid (below_to hE.out hB)
      clear hB
      have l0 := b0.lt
      have c0_0 : w5.cell? ⟨w.heap.size, 0, none⟩ = some (.int .i64 C0) := b0.cell rfl
      have c0_1 : w5.cell? ⟨w.heap.size, 1, none⟩ = some (.slice A0 ts0.length c0) := b0.cell rfl
      go_wp2_with fail
      clear l0 c0_0 c0_1
      refine (toSet_any C0 A0 ts0 ts0.length c0 w5 rfl (HA0.out.below hE.out) (by omega)).mono ?_
      rintro e w6 ⟨v_, rfl, hO, hB⟩
      obtain ⟨A4_, c4_, rfl, -, -⟩ := hO.reads
      have O4 := Lib.hid (OW.of hO)
      clear hO
      replace b0 := b0.below hB b0.lt
      replace O1 := Lib.hid (O1.out.to hB)
      replace O2 := Lib.hid (O2.out.to hB)
      replace O3 := Lib.hid (O3.out.to hB)
      have sw6 : w5.heap.size ≤ w6.heap.size := hB.size
      replace hE := Lib.hid (below_to hE.out hB)
      clear hB
      have l0 := b0.lt
      have c0_0 : w6.cell? ⟨w.heap.size, 0, none⟩ = some (.int .i64 C0) := b0.cell rfl
      have c0_1 : w6.cell? ⟨w.heap.size, 1, none⟩ = some (.slice A0 ts0.length c0) := b0.cell rfl
      go_wp2_with fail
      clear l0 c0_0 c0_1
      refine namec1 ?_
      intro w7 b1 hz hB
      have tw7 : w6.heap.size + 1 ≤ w7.heap.size := by omega
      clear hz
      replace b0 := b0.below hB b0.lt
      replace O1 := Lib.hid (O1.out.to hB)
      replace O2 := Lib.hid (O2.out.to hB)
      replace O3 := Lib.hid (O3.out.to hB)
      replace O4 := Lib.hid (O4.out.to hB)
      have sw7 : w6.heap.size ≤ w7.heap.size := hB.size
      replace hE := Lib.hid (below_to hE.out hB)
      clear hB
      refine (toInt64S_any A1 ts1 ts1.length c1 w7 rfl (HA1.out.below hE.out) (by omega)).mono ?_
      rintro e w8 ⟨v_, rfl, hO, hB⟩
      obtain ⟨A5_, c5_, rfl, -, -⟩ := hO.reads
      have O5 := Lib.hid (OW.of hO)
      clear hO
      replace b0 := b0.below hB b0.lt
      replace b1 := b1.below hB b1.lt
      replace O1 := Lib.hid (O1.out.to hB)
      replace O2 := Lib.hid (O2.out.to hB)
      replace O3 := Lib.hid (O3.out.to hB)
      replace O4 := Lib.hid (O4.out.to hB)
      have sw8 : w7.heap.size ≤ w8.heap.size := hB.size
      replace hE := Lib.hid (below_to hE.out hB)
      clear hB
      have l0 := b0.lt
      have c0_0 : w8.cell? ⟨w.heap.size, 0, none⟩ = some (.int .i64 C0) := b0.cell rfl
      have c0_1 : w8.cell? ⟨w.heap.size, 1, none⟩ = some (.slice A0 ts0.length c0) := b0.cell rfl
      have l1 := b1.lt
      have c1_0 : w8.cell? ⟨w6.heap.size, 0, none⟩ = some (.int .i64 C0) := b1.cell rfl
      have c1_1 : w8.cell? ⟨w6.heap.size, 1, none⟩ = some (.slice A4_ ts0.length c4_) := b1.cell rfl
      go_wp2_with fail
      clear l0 c0_0 c0_1 l1 c1_0 c1_1
      refine (implSouthRounds_any C0 A4_ ts0 ts0.length c4_ A5_ ts1 ts1.length c5_ w8 rfl (rt_of O4.out rfl) (le_of O4.out) (by omega) rfl (ri_of O5.out rfl) (le_of O5.out) (by omega)).mono ?_
      rintro e w9 ⟨v0_, x0_, x1_, hR_, rfl, hO0, hB⟩
      obtain ⟨rfl, rfl⟩ : r1 = x0_ ∧ r2 = x1_ := (by have h_ := HR.out.symm.trans hR_; simpa using h_)
      clear hR_
      obtain ⟨A6_, c6_, rfl⟩ := hO0.form0
      have O6 := Lib.hid hO0
      clear hO0
      replace b0 := b0.below hB b0.lt
      replace b1 := b1.below hB b1.lt
      replace O1 := Lib.hid (O1.out.to hB)
      replace O2 := Lib.hid (O2.out.to hB)
      replace O3 := Lib.hid (O3.out.to hB)
      replace O4 := Lib.hid (O4.out.to hB)
      replace O5 := Lib.hid (O5.out.to hB)
      have sw9 : w8.heap.size ≤ w9.heap.size := hB.size
      replace hE := Lib.hid (below_to hE.out hB)
      clear hB
      have l0 := b0.lt
      have c0_0 : w9.cell? ⟨w.heap.size, 0, none⟩ = some (.int .i64 C0) := b0.cell rfl
      have c0_1 : w9.cell? ⟨w.heap.size, 1, none⟩ = some (.slice A0 ts0.length c0) := b0.cell rfl
      have l1 := b1.lt
      have c1_0 : w9.cell? ⟨w6.heap.size, 0, none⟩ = some (.int .i64 C0) := b1.cell rfl
      have c1_1 : w9.cell? ⟨w6.heap.size, 1, none⟩ = some (.slice A4_ ts0.length c4_) := b1.cell rfl
      go_wp2_with fail
      clear l0 c0_0 c0_1 l1 c1_0 c1_1
      refine (eqInt64SS_any A6_ A3_ r1 r1 r1.length r1.length c6_ c3_ w9 rfl rfl (rr_of O6.out rfl) (rr_of O3.out rfl) (by omega) (by omega)).mono ?_
      rintro e w10 ⟨rfl, hB⟩
      simp only [decide_true, Bool.and_self]
      replace b0 := b0.below hB b0.lt
      replace b1 := b1.below hB b1.lt
      replace O1 := Lib.hid (O1.out.to hB)
      replace O2 := Lib.hid (O2.out.to hB)
      replace O3 := Lib.hid (O3.out.to hB)
      replace O4 := Lib.hid (O4.out.to hB)
      replace O5 := Lib.hid (O5.out.to hB)
      replace O6 := Lib.hid (O6.out.to hB)
      have sw10 : w9.heap.size ≤ w10.heap.size := hB.size
      replace hE := Lib.hid (below_to hE.out hB)
      clear hB
      have l0 := b0.lt
      have c0_0 : w10.cell? ⟨w.heap.size, 0, none⟩ = some (.int .i64 C0) := b0.cell rfl
      have c0_1 : w10.cell? ⟨w.heap.size, 1, none⟩ = some (.slice A0 ts0.length c0) := b0.cell rfl
      have l1 := b1.lt
      have c1_0 : w10.cell? ⟨w6.heap.size, 0, none⟩ = some (.int .i64 C0) := b1.cell rfl
      have c1_1 : w10.cell? ⟨w6.heap.size, 1, none⟩ = some (.slice A4_ ts0.length c4_) := b1.cell rfl
      go_wp2_with fail
      clear l0 c0_0 c0_1 l1 c1_0 c1_1
      have hD : Below w10.heap.size w10 w10.drew := (Below.refl _ _).drew
      replace b0 := b0.below hD b0.lt
      replace b1 := b1.below hD b1.lt
      replace O1 := Lib.hid (O1.out.to hD)
      replace O2 := Lib.hid (O2.out.to hD)
      replace O3 := Lib.hid (O3.out.to hD)
      replace O4 := Lib.hid (O4.out.to hD)
      replace O5 := Lib.hid (O5.out.to hD)
      replace O6 := Lib.hid (O6.out.to hD)
      replace hE := Lib.hid (below_to hE.out hD)
      clear hD
      have d1_w10 : w10.heap.size ≤ w10.drew.heap.size := Nat.le_refl _
      have d2_w10 : w10.drew.heap.size ≤ w10.heap.size := Nat.le_refl _
      go_region_held3 (fun w_ => w_.cell? ⟨w.heap.size, 0, none⟩ = some (.int .i64 C0) ∧ w_.cell? ⟨w.heap.size, 1, none⟩ = some (.slice A0 ts0.length c0) ∧ w_.cell? ⟨w6.heap.size, 0, none⟩ = some (.int .i64 C0) ∧ w_.cell? ⟨w6.heap.size, 1, none⟩ = some (.slice A4_ ts0.length c4_)) (first | exact ⟨b0.cell rfl, b0.cell rfl, b1.cell rfl, b1.cell rfl⟩)
        (first
          | (go_at_call 14; refine (toSet_any C0 A0 ts0 ts0.length c0 w10.drew rfl (HA0.out.below hE.out) (by omega)).mono ?_; rintro e w11 ⟨v_, rfl, hO, hB⟩; obtain ⟨A7_, c7_, rfl, -, -⟩ := hO.reads; have O7 := Lib.hid (OW.of hO); clear hO; replace b0 := b0.below hB b0.lt; replace b1 := b1.below hB b1.lt; replace O1 := Lib.hid (O1.out.to hB); replace O2 := Lib.hid (O2.out.to hB); replace O3 := Lib.hid (O3.out.to hB); replace O4 := Lib.hid (O4.out.to hB); replace O5 := Lib.hid (O5.out.to hB); replace O6 := Lib.hid (O6.out.to hB); have sw11 : w10.drew.heap.size ≤ w11.heap.size := hB.size; replace hE := Lib.hid (below_to hE.out hB); clear hB)
          | (go_at_call 16; refine (eqSet_any C0 C0 A4_ A7_ ts0 ts0 ts0.length ts0.length c4_ c7_ w11 rfl rfl (rt_of O4.out rfl) (rt_of O7.out rfl) (by omega) (by omega)).mono ?_; rintro e w12 ⟨rfl, hB⟩; simp only [decide_true, Bool.and_self]; replace b0 := b0.below hB b0.lt; replace b1 := b1.below hB b1.lt; replace O1 := Lib.hid (O1.out.to hB); replace O2 := Lib.hid (O2.out.to hB); replace O3 := Lib.hid (O3.out.to hB); replace O4 := Lib.hid (O4.out.to hB); replace O5 := Lib.hid (O5.out.to hB); replace O6 := Lib.hid (O6.out.to hB); replace O7 := Lib.hid (O7.out.to hB); have sw12 : w11.heap.size ≤ w12.heap.size := hB.size; replace hE := Lib.hid (below_to hE.out hB); clear hB))
      have l0 := b0.lt
      have c0_0 : w12.cell? ⟨w.heap.size, 0, none⟩ = some (.int .i64 C0) := b0.cell rfl
      have c0_1 : w12.cell? ⟨w.heap.size, 1, none⟩ = some (.slice A0 ts0.length c0) := b0.cell rfl
      have l1 := b1.lt
      have c1_0 : w12.cell? ⟨w6.heap.size, 0, none⟩ = some (.int .i64 C0) := b1.cell rfl
      have c1_1 : w12.cell? ⟨w6.heap.size, 1, none⟩ = some (.slice A4_ ts0.length c4_) := b1.cell rfl
      go_wp2_with fail
      clear l0 c0_0 c0_1 l1 c1_0 c1_1
      refine (toInt64S_any A1 ts1 ts1.length c1 w12 rfl (HA1.out.below hE.out) (by omega)).mono ?_
      rintro e w13 ⟨v_, rfl, hO, hB⟩
      obtain ⟨A8_, c8_, rfl, -, -⟩ := hO.reads
      have O8 := Lib.hid (OW.of hO)
      clear hO
      replace b0 := b0.below hB b0.lt
      replace b1 := b1.below hB b1.lt
      replace O1 := Lib.hid (O1.out.to hB)
      replace O2 := Lib.hid (O2.out.to hB)
      replace O3 := Lib.hid (O3.out.to hB)
      replace O4 := Lib.hid (O4.out.to hB)
      replace O5 := Lib.hid (O5.out.to hB)
      replace O6 := Lib.hid (O6.out.to hB)
      replace O7 := Lib.hid (O7.out.to hB)
      have sw13 : w12.heap.size ≤ w13.heap.size := hB.size
      replace hE := Lib.hid (below_to hE.out hB)
      clear hB
      have l0 := b0.lt
      have c0_0 : w13.cell? ⟨w.heap.size, 0, none⟩ = some (.int .i64 C0) := b0.cell rfl
      have c0_1 : w13.cell? ⟨w.heap.size, 1, none⟩ = some (.slice A0 ts0.length c0) := b0.cell rfl
      have l1 := b1.lt
      have c1_0 : w13.cell? ⟨w6.heap.size, 0, none⟩ = some (.int .i64 C0) := b1.cell rfl
      have c1_1 : w13.cell? ⟨w6.heap.size, 1, none⟩ = some (.slice A4_ ts0.length c4_) := b1.cell rfl
      go_wp2_with fail
      clear l0 c0_0 c0_1 l1 c1_0 c1_1
      refine (eqInt64S_any A5_ A8_ ts1 ts1 ts1.length ts1.length c5_ c8_ w13 rfl rfl (ri_of O5.out rfl) (ri_of O8.out rfl) (by omega) (by omega)).mono ?_
      rintro e w14 ⟨rfl, hB⟩
      simp only [decide_true, Bool.and_self]
      replace b0 := b0.below hB b0.lt
      replace b1 := b1.below hB b1.lt
      replace O1 := Lib.hid (O1.out.to hB)
      replace O2 := Lib.hid (O2.out.to hB)
      replace O3 := Lib.hid (O3.out.to hB)
      replace O4 := Lib.hid (O4.out.to hB)
      replace O5 := Lib.hid (O5.out.to hB)
      replace O6 := Lib.hid (O6.out.to hB)
      replace O7 := Lib.hid (O7.out.to hB)
      replace O8 := Lib.hid (O8.out.to hB)
      have sw14 : w13.heap.size ≤ w14.heap.size := hB.size
      replace hE := Lib.hid (below_to hE.out hB)
      clear hB
      have l0 := b0.lt
      have c0_0 : w14.cell? ⟨w.heap.size, 0, none⟩ = some (.int .i64 C0) := b0.cell rfl
      have c0_1 : w14.cell? ⟨w.heap.size, 1, none⟩ = some (.slice A0 ts0.length c0) := b0.cell rfl
      have l1 := b1.lt
      have c1_0 : w14.cell? ⟨w6.heap.size, 0, none⟩ = some (.int .i64 C0) := b1.cell rfl
      have c1_1 : w14.cell? ⟨w6.heap.size, 1, none⟩ = some (.slice A4_ ts0.length c4_) := b1.cell rfl
      go_wp2_with fail
      clear l0 c0_0 c0_1 l1 c1_0 c1_1
      obtain ⟨m_O4, hm_O4⟩ : ∃ m, m = ts0.length * 4 := ⟨_, rfl⟩
      have bm_O4 : m_O4 ≤ 40000000 := by omega
      have Hm_O4 := Lib.hid hm_O4; clear hm_O4
      refine (markSet_m w5.heap.size w6.heap.size C0 (.slice A4_ ts0.length c4_) ts0.length m_O4 (tcells ts0) (1) w14 Hm_O4.out O4.out (by omega) (by omega) (by omega)).mono ?_
      rintro e w15 ⟨rfl, hO, hK⟩
      clear O4
      have O4 := Lib.hid hO
      clear hO
      replace b0 := b0.only hK (by omega)
      replace b1 := b1.only hK (by omega)
      replace O1 := Lib.hid (O1.out.only hK (by omega))
      replace O2 := Lib.hid (O2.out.only hK (by omega))
      replace O3 := Lib.hid (O3.out.only hK (by omega))
      replace O5 := Lib.hid (O5.out.only hK (by omega))
      replace O6 := Lib.hid (O6.out.only hK (by omega))
      replace O7 := Lib.hid (O7.out.only hK (by omega))
      replace O8 := Lib.hid (O8.out.only hK (by omega))
      have sw15 : w14.heap.size ≤ w15.heap.size := hK.size
      replace hE := Lib.hid (below_only hE.out hK (by omega))
      clear hK
      have l0 := b0.lt
      have c0_0 : w15.cell? ⟨w.heap.size, 0, none⟩ = some (.int .i64 C0) := b0.cell rfl
      have c0_1 : w15.cell? ⟨w.heap.size, 1, none⟩ = some (.slice A0 ts0.length c0) := b0.cell rfl
      have l1 := b1.lt
      have c1_0 : w15.cell? ⟨w6.heap.size, 0, none⟩ = some (.int .i64 C0) := b1.cell rfl
      have c1_1 : w15.cell? ⟨w6.heap.size, 1, none⟩ = some (.slice A4_ ts0.length c4_) := b1.cell rfl
      go_wp2_with fail
      clear l0 c0_0 c0_1 l1 c1_0 c1_1
      obtain ⟨m_O5, hm_O5⟩ : ∃ m, m = ts1.length * 1 := ⟨_, rfl⟩
      have bm_O5 : m_O5 ≤ 40000000 := by omega
      have Hm_O5 := Lib.hid hm_O5; clear hm_O5
      refine (markInt64S_m w7.heap.size w8.heap.size (.slice A5_ ts1.length c5_) ts1.length m_O5 (icells ts1) ((1 + (m_O4 : Int))) w15 Hm_O5.out O5.out (by omega) (by omega) (by omega)).mono ?_
      rintro e w16 ⟨rfl, hO, hK⟩
      clear O5
      have O5 := Lib.hid hO
      clear hO
      replace b0 := b0.only hK (by omega)
      replace b1 := b1.only hK (by omega)
      replace O1 := Lib.hid (O1.out.only hK (by omega))
      replace O2 := Lib.hid (O2.out.only hK (by omega))
      replace O3 := Lib.hid (O3.out.only hK (by omega))
      replace O4 := Lib.hid (O4.out.only hK (by omega))
      replace O6 := Lib.hid (O6.out.only hK (by omega))
      replace O7 := Lib.hid (O7.out.only hK (by omega))
      replace O8 := Lib.hid (O8.out.only hK (by omega))
      have sw16 : w15.heap.size ≤ w16.heap.size := hK.size
      replace hE := Lib.hid (below_only hE.out hK (by omega))
      clear hK
      have l0 := b0.lt
      have c0_0 : w16.cell? ⟨w.heap.size, 0, none⟩ = some (.int .i64 C0) := b0.cell rfl
      have c0_1 : w16.cell? ⟨w.heap.size, 1, none⟩ = some (.slice A0 ts0.length c0) := b0.cell rfl
      have l1 := b1.lt
      have c1_0 : w16.cell? ⟨w6.heap.size, 0, none⟩ = some (.int .i64 C0) := b1.cell rfl
      have c1_1 : w16.cell? ⟨w6.heap.size, 1, none⟩ = some (.slice A4_ ts0.length c4_) := b1.cell rfl
      go_wp2_with fail
      clear l0 c0_0 c0_1 l1 c1_0 c1_1
      refine (eqInt64SS_any A6_ A3_ r1 r1 r1.length r1.length c6_ c3_ w16 rfl rfl (rr_of O6.out rfl) (rr_of O3.out rfl) (by omega) (by omega)).mono ?_
      rintro e w17 ⟨rfl, hB⟩
      simp only [decide_true, Bool.and_self]
      replace b0 := b0.below hB b0.lt
      replace b1 := b1.below hB b1.lt
      replace O1 := Lib.hid (O1.out.to hB)
      replace O2 := Lib.hid (O2.out.to hB)
      replace O3 := Lib.hid (O3.out.to hB)
      replace O4 := Lib.hid (O4.out.to hB)
      replace O5 := Lib.hid (O5.out.to hB)
      replace O6 := Lib.hid (O6.out.to hB)
      replace O7 := Lib.hid (O7.out.to hB)
      replace O8 := Lib.hid (O8.out.to hB)
      have sw17 : w16.heap.size ≤ w17.heap.size := hB.size
      replace hE := Lib.hid (below_to hE.out hB)
      clear hB
      have l0 := b0.lt
      have c0_0 : w17.cell? ⟨w.heap.size, 0, none⟩ = some (.int .i64 C0) := b0.cell rfl
      have c0_1 : w17.cell? ⟨w.heap.size, 1, none⟩ = some (.slice A0 ts0.length c0) := b0.cell rfl
      have l1 := b1.lt
      have c1_0 : w17.cell? ⟨w6.heap.size, 0, none⟩ = some (.int .i64 C0) := b1.cell rfl
      have c1_1 : w17.cell? ⟨w6.heap.size, 1, none⟩ = some (.slice A4_ ts0.length c4_) := b1.cell rfl
      go_wp2_with fail
      clear l0 c0_0 c0_1 l1 c1_0 c1_1
      obtain ⟨m_O6, hm_O6⟩ : ∃ m, m = rowsz0 r1 := ⟨_, rfl⟩
      have bm_O6 : m_O6 ≤ 40000000 := by have := hb1; omega
      have Hm_O6 := Lib.hid hm_O6; clear hm_O6
      refine (markInt64SS_m w8.heap.size w9.heap.size r1 m_O6 (1) w17 Hm_O6.out O6.out (by omega) (by omega) (by omega)).mono ?_
      rintro e w18 ⟨rfl, hO, hK⟩
      clear O6
      have O6 := Lib.hid hO
      clear hO
      replace b0 := b0.only hK (by omega)
      replace b1 := b1.only hK (by omega)
      replace O1 := Lib.hid (O1.out.only hK (by omega))
      replace O2 := Lib.hid (O2.out.only hK (by omega))
      replace O3 := Lib.hid (O3.out.only hK (by omega))
      replace O4 := Lib.hid (O4.out.only hK (by omega))
      replace O5 := Lib.hid (O5.out.only hK (by omega))
      replace O7 := Lib.hid (O7.out.only hK (by omega))
      replace O8 := Lib.hid (O8.out.only hK (by omega))
      have sw18 : w17.heap.size ≤ w18.heap.size := hK.size
      replace hE := Lib.hid (below_only hE.out hK (by omega))
      clear hK
      have l0 := b0.lt
      have c0_0 : w18.cell? ⟨w.heap.size, 0, none⟩ = some (.int .i64 C0) := b0.cell rfl
      have c0_1 : w18.cell? ⟨w.heap.size, 1, none⟩ = some (.slice A0 ts0.length c0) := b0.cell rfl
      have l1 := b1.lt
      have c1_0 : w18.cell? ⟨w6.heap.size, 0, none⟩ = some (.int .i64 C0) := b1.cell rfl
      have c1_1 : w18.cell? ⟨w6.heap.size, 1, none⟩ = some (.slice A4_ ts0.length c4_) := b1.cell rfl
      go_wp2_with fail
      clear l0 c0_0 c0_1 l1 c1_0 c1_1
      refine (heldInt64SS_m w8.heap.size w9.heap.size r1 m_O6 (1) w18 Hm_O6.out O6.out (by omega) (by omega) (by omega)).mono ?_
      rintro e w19 ⟨rfl, hB⟩
      replace b0 := b0.below hB b0.lt
      replace b1 := b1.below hB b1.lt
      replace O1 := Lib.hid (O1.out.to hB)
      replace O2 := Lib.hid (O2.out.to hB)
      replace O3 := Lib.hid (O3.out.to hB)
      replace O4 := Lib.hid (O4.out.to hB)
      replace O5 := Lib.hid (O5.out.to hB)
      replace O6 := Lib.hid (O6.out.to hB)
      replace O7 := Lib.hid (O7.out.to hB)
      replace O8 := Lib.hid (O8.out.to hB)
      have sw19 : w18.heap.size ≤ w19.heap.size := hB.size
      replace hE := Lib.hid (below_to hE.out hB)
      clear hB
      have l0 := b0.lt
      have c0_0 : w19.cell? ⟨w.heap.size, 0, none⟩ = some (.int .i64 C0) := b0.cell rfl
      have c0_1 : w19.cell? ⟨w.heap.size, 1, none⟩ = some (.slice A0 ts0.length c0) := b0.cell rfl
      have l1 := b1.lt
      have c1_0 : w19.cell? ⟨w6.heap.size, 0, none⟩ = some (.int .i64 C0) := b1.cell rfl
      have c1_1 : w19.cell? ⟨w6.heap.size, 1, none⟩ = some (.slice A4_ ts0.length c4_) := b1.cell rfl
      go_wp2_with fail
      clear l0 c0_0 c0_1 l1 c1_0 c1_1
      refine (toSet_any C0 A0 ts0 ts0.length c0 w19 rfl (HA0.out.below hE.out) (by omega)).mono ?_
      rintro e w20 ⟨v_, rfl, hO, hB⟩
      obtain ⟨A9_, c9_, rfl, -, -⟩ := hO.reads
      have O9 := Lib.hid (OW.of hO)
      clear hO
      replace b0 := b0.below hB b0.lt
      replace b1 := b1.below hB b1.lt
      replace O1 := Lib.hid (O1.out.to hB)
      replace O2 := Lib.hid (O2.out.to hB)
      replace O3 := Lib.hid (O3.out.to hB)
      replace O4 := Lib.hid (O4.out.to hB)
      replace O5 := Lib.hid (O5.out.to hB)
      replace O6 := Lib.hid (O6.out.to hB)
      replace O7 := Lib.hid (O7.out.to hB)
      replace O8 := Lib.hid (O8.out.to hB)
      have sw20 : w19.heap.size ≤ w20.heap.size := hB.size
      replace hE := Lib.hid (below_to hE.out hB)
      clear hB
      have l0 := b0.lt
      have c0_0 : w20.cell? ⟨w.heap.size, 0, none⟩ = some (.int .i64 C0) := b0.cell rfl
      have c0_1 : w20.cell? ⟨w.heap.size, 1, none⟩ = some (.slice A0 ts0.length c0) := b0.cell rfl
      have l1 := b1.lt
      have c1_0 : w20.cell? ⟨w6.heap.size, 0, none⟩ = some (.int .i64 C0) := b1.cell rfl
      have c1_1 : w20.cell? ⟨w6.heap.size, 1, none⟩ = some (.slice A4_ ts0.length c4_) := b1.cell rfl
      go_wp2_with fail
      clear l0 c0_0 c0_1 l1 c1_0 c1_1
      refine (toInt64S_any A1 ts1 ts1.length c1 w20 rfl (HA1.out.below hE.out) (by omega)).mono ?_
      rintro e w21 ⟨v_, rfl, hO, hB⟩
      obtain ⟨A10_, c10_, rfl, -, -⟩ := hO.reads
      have O10 := Lib.hid (OW.of hO)
      clear hO
      replace b0 := b0.below hB b0.lt
      replace b1 := b1.below hB b1.lt
      replace O1 := Lib.hid (O1.out.to hB)
      replace O2 := Lib.hid (O2.out.to hB)
      replace O3 := Lib.hid (O3.out.to hB)
      replace O4 := Lib.hid (O4.out.to hB)
      replace O5 := Lib.hid (O5.out.to hB)
      replace O6 := Lib.hid (O6.out.to hB)
      replace O7 := Lib.hid (O7.out.to hB)
      replace O8 := Lib.hid (O8.out.to hB)
      replace O9 := Lib.hid (O9.out.to hB)
      have sw21 : w20.heap.size ≤ w21.heap.size := hB.size
      replace hE := Lib.hid (below_to hE.out hB)
      clear hB
      have l0 := b0.lt
      have c0_0 : w21.cell? ⟨w.heap.size, 0, none⟩ = some (.int .i64 C0) := b0.cell rfl
      have c0_1 : w21.cell? ⟨w.heap.size, 1, none⟩ = some (.slice A0 ts0.length c0) := b0.cell rfl
      have l1 := b1.lt
      have c1_0 : w21.cell? ⟨w6.heap.size, 0, none⟩ = some (.int .i64 C0) := b1.cell rfl
      have c1_1 : w21.cell? ⟨w6.heap.size, 1, none⟩ = some (.slice A4_ ts0.length c4_) := b1.cell rfl
      go_wp2_with fail
      clear l0 c0_0 c0_1 l1 c1_0 c1_1
      refine (implSouthRounds_any C0 A9_ ts0 ts0.length c9_ A10_ ts1 ts1.length c10_ w21 rfl (rt_of O9.out rfl) (le_of O9.out) (by omega) rfl (ri_of O10.out rfl) (le_of O10.out) (by omega)).mono ?_
      rintro e w22 ⟨v0_, x0_, x1_, hR_, rfl, hO0, hB⟩
      obtain ⟨rfl, rfl⟩ : r1 = x0_ ∧ r2 = x1_ := (by have h_ := HR.out.symm.trans hR_; simpa using h_)
      clear hR_
      obtain ⟨A11_, c11_, rfl⟩ := hO0.form0
      have O11 := Lib.hid hO0
      clear hO0
      replace b0 := b0.below hB b0.lt
      replace b1 := b1.below hB b1.lt
      replace O1 := Lib.hid (O1.out.to hB)
      replace O2 := Lib.hid (O2.out.to hB)
      replace O3 := Lib.hid (O3.out.to hB)
      replace O4 := Lib.hid (O4.out.to hB)
      replace O5 := Lib.hid (O5.out.to hB)
      replace O6 := Lib.hid (O6.out.to hB)
      replace O7 := Lib.hid (O7.out.to hB)
      replace O8 := Lib.hid (O8.out.to hB)
      replace O9 := Lib.hid (O9.out.to hB)
      replace O10 := Lib.hid (O10.out.to hB)
      have sw22 : w21.heap.size ≤ w22.heap.size := hB.size
      replace hE := Lib.hid (below_to hE.out hB)
      clear hB
      have l0 := b0.lt
      have c0_0 : w22.cell? ⟨w.heap.size, 0, none⟩ = some (.int .i64 C0) := b0.cell rfl
      have c0_1 : w22.cell? ⟨w.heap.size, 1, none⟩ = some (.slice A0 ts0.length c0) := b0.cell rfl
      have l1 := b1.lt
      have c1_0 : w22.cell? ⟨w6.heap.size, 0, none⟩ = some (.int .i64 C0) := b1.cell rfl
      have c1_1 : w22.cell? ⟨w6.heap.size, 1, none⟩ = some (.slice A4_ ts0.length c4_) := b1.cell rfl
      go_wp2_with fail
      clear l0 c0_0 c0_1 l1 c1_0 c1_1
      refine (eqInt64SS_any A11_ A3_ r1 r1 r1.length r1.length c11_ c3_ w22 rfl rfl (rr_of O11.out rfl) (rr_of O3.out rfl) (by omega) (by omega)).mono ?_
      rintro e w23 ⟨rfl, hB⟩
      simp only [decide_true, Bool.and_self]
      replace b0 := b0.below hB b0.lt
      replace b1 := b1.below hB b1.lt
      replace O1 := Lib.hid (O1.out.to hB)
      replace O2 := Lib.hid (O2.out.to hB)
      replace O3 := Lib.hid (O3.out.to hB)
      replace O4 := Lib.hid (O4.out.to hB)
      replace O5 := Lib.hid (O5.out.to hB)
      replace O6 := Lib.hid (O6.out.to hB)
      replace O7 := Lib.hid (O7.out.to hB)
      replace O8 := Lib.hid (O8.out.to hB)
      replace O9 := Lib.hid (O9.out.to hB)
      replace O10 := Lib.hid (O10.out.to hB)
      replace O11 := Lib.hid (O11.out.to hB)
      have sw23 : w22.heap.size ≤ w23.heap.size := hB.size
      replace hE := Lib.hid (below_to hE.out hB)
      clear hB
      have l0 := b0.lt
      have c0_0 : w23.cell? ⟨w.heap.size, 0, none⟩ = some (.int .i64 C0) := b0.cell rfl
      have c0_1 : w23.cell? ⟨w.heap.size, 1, none⟩ = some (.slice A0 ts0.length c0) := b0.cell rfl
      have l1 := b1.lt
      have c1_0 : w23.cell? ⟨w6.heap.size, 0, none⟩ = some (.int .i64 C0) := b1.cell rfl
      have c1_1 : w23.cell? ⟨w6.heap.size, 1, none⟩ = some (.slice A4_ ts0.length c4_) := b1.cell rfl
      go_wp2_with fail
      clear l0 c0_0 c0_1 l1 c1_0 c1_1
      refine (heldInt64SS_m w8.heap.size w9.heap.size r1 m_O6 (1) w23 Hm_O6.out O6.out (by omega) (by omega) (by omega)).mono ?_
      rintro e w24 ⟨rfl, hB⟩
      replace b0 := b0.below hB b0.lt
      replace b1 := b1.below hB b1.lt
      replace O1 := Lib.hid (O1.out.to hB)
      replace O2 := Lib.hid (O2.out.to hB)
      replace O3 := Lib.hid (O3.out.to hB)
      replace O4 := Lib.hid (O4.out.to hB)
      replace O5 := Lib.hid (O5.out.to hB)
      replace O6 := Lib.hid (O6.out.to hB)
      replace O7 := Lib.hid (O7.out.to hB)
      replace O8 := Lib.hid (O8.out.to hB)
      replace O9 := Lib.hid (O9.out.to hB)
      replace O10 := Lib.hid (O10.out.to hB)
      replace O11 := Lib.hid (O11.out.to hB)
      have sw24 : w23.heap.size ≤ w24.heap.size := hB.size
      replace hE := Lib.hid (below_to hE.out hB)
      clear hB
      go_wp2_with fail
      go_ret
      exact ⟨rfl, hE.out⟩
end Go.Proofs.Ytenlcakpcbmmdaa

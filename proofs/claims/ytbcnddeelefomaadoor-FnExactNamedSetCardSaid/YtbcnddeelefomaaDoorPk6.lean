/-
  Parts of the proof, in their order: Own3.
-/
import Derived.Test.YtbcnddeelefomaaDoorPk5
import Derived.Laws.Rows
/-
  Words: append of a slice that can be read to a row of the call's own.
-/
namespace Go.Proofs.YtbcnddeelefomaaDoor
open Go Go.RowKit Go.Proofs
set_option linter.unusedVariables false
set_option linter.unusedSimpArgs false
theorem add_off (b o j : Nat) : (⟨b, o, none⟩ : Addr).add j = ⟨b, o + j, none⟩ := by unfold Addr.add; split <;> simp_all
theorem RT.news {w : World} {ad : Addr} {us : List T4} (h : RT w (some ad) us) : ∀ (j : Nat) (u : Value), (tcells us)[j]? = some u → w.cell? (ad.add j) = some u := by
  intro j u hu
  have hj : j < us.length * 4 := by rw [← tcells_length us]; exact (List.getElem?_eq_some_iff.1 hu).1
  have hk : j / 4 < us.length := by omega
  obtain ⟨b, o, e, hb, hc⟩ := h.cellj hk
  injection e with e
  subst e
  have hr : j % 4 < 4 := by omega
  have hc' := hc (j % 4) hr
  have ej : j = j / 4 * 4 + j % 4 := by omega
  rw [ej, tcells_get hk hr] at hu
  rw [add_off, ← hu, ← hc', ej]
  congr 2; omega
theorem RI.news {w : World} {ad : Addr} {us : List Int} (h : RI w (some ad) us) : ∀ (j : Nat) (u : Value), (icells us)[j]? = some u → w.cell? (ad.add j) = some u := by
  intro j u hu
  have hj : j < us.length := by rw [← icells_length us]; exact (List.getElem?_eq_some_iff.1 hu).1
  obtain ⟨b, o, e, hb, hc⟩ := h j hj
  injection e with e
  subst e
  rw [icells_get hj] at hu
  rw [add_off, ← hu, ← hc]
theorem tcells_append (ts us : List T4) : tcells (ts ++ us) = tcells ts ++ tcells us := by simp [tcells]
theorem icells_append (ts us : List Int) : icells (ts ++ us) = icells ts ++ icells us := by simp [icells]
theorem tcells_one {us : List T4} : ∀ u ∈ tcells us, u.oneCell' = true := by
  intro u hu
  simp only [tcells, List.mem_flatMap] at hu
  obtain ⟨t, -, h⟩ := hu
  simp only [T4.arr, List.mem_cons, List.not_mem_nil, or_false] at h
  rcases h with rfl | rfl | rfl | rfl <;> rfl
theorem icells_one {us : List Int} : ∀ u ∈ icells us, u.oneCell' = true := by
  intro u hu
  simp only [icells, List.mem_map] at hu
  obtain ⟨t, -, rfl⟩ := hu
  rfl
theorem own_some {w : World} {base : Nat} {e : TypeId} {size n : Nat} {v : Value} {cells : List Value} (h : w.ownsRow base e size v n cells) (hv : v ≠ .slice none 0 0) : ∃ g c, v = .slice (some ⟨g, 0, none⟩) n c ∧ base ≤ g ∧ n ≤ c := by
  rcases h.2 with ⟨rfl, hn⟩ | ⟨g, cap, cur, rfl, hb, hg, hle, -⟩
  · exact absurd rfl hv
  · exact ⟨g, cap, rfl, hb, hle⟩
theorem OT.one {w : World} {b base : Nat} {E : TypeId} {t : T4} (h : BK w b t.arr E) (hb : base ≤ b) : OT w base E (.slice (some ⟨b, 0, none⟩) 1 1) [t] := by
  have h := OT.of_block h (base := base) (ts := [t]) (cap := 1) hb rfl (Nat.le_refl _) (by omega) (fun k hk j hj => by
    obtain rfl : k = 0 := by simp at hk; omega
    simpa [tk] using t.cell j hj)
  simpa using h
theorem OI.one {w : World} {b base : Nat} {E : TypeId} {x : Int} (h : BK w b #[.int .i64 x] E) (hb : base ≤ b) : OI w base E (.slice (some ⟨b, 0, none⟩) 1 1) [x] := by
  have h := OI.of_block h (base := base) (xs := [x]) (cap := 1) hb rfl (Nat.le_refl _) (by omega) (fun k hk => by
    obtain rfl : k = 0 := by simp at hk; omega
    simp [ik])
  simpa using h
theorem rt_own {w : World} {base : Nat} {E : TypeId} {A : Option Addr} {n c : Nat} {ts : List T4} (h : OT w base E (.slice A n c) ts) (hn : ts.length = n) : RT w A ts := by
  obtain ⟨A', c', e, hr, -⟩ := h.reads
  injection e with e1 e2 e3
  subst e1; exact hr
theorem ri_own {w : World} {base : Nat} {E : TypeId} {A : Option Addr} {n c : Nat} {ts : List Int} (h : OI w base E (.slice A n c) ts) (hn : ts.length = n) : RI w A ts := by
  obtain ⟨A', c', e, hr, -⟩ := h.reads
  injection e with e1 e2 e3
  subst e1; exact hr
theorem new_below (w : World) (o : Obj) : Below w.heap.size w (w.alloc o) := (Below.refl _ _).alloc (Nat.le_refl _) o
section
variable {P : Program} {ops : Array Oper} {rest : List Oper} {o : Oper} {a : Act} {Q : Exit → Act → World → Prop} {K : Act → World → Prop} {W : World}
theorem wp_many (base : Nat) (s x : Operand) (t e : TypeId) (z : Value) (size bytes : Nat)
    (ho : o.op = .call { callee := .builtin .append, args := #[s, x], argTypes := #[t, t] }) (ht : P.underlying t = some (.slice e))
    (hinfo : (P.info? e).map (fun i => (i.zero, i.size, i.bytes)) = some (some z, size, bytes)) (hz : z.cells.size = size) (hsz : 0 < size) (hb0 : 0 < bytes)
    (v : Value) (n : Nat) (cells news : List Value) (hs : a.eval s = v) (ad : Addr) (m c : Nat) (hx : a.eval x = .slice (some ad) m c) (hl : news.length = m * size)
    (hnews : ∀ (j : Nat) (u : Value), news[j]? = some u → W.cell? (ad.add j) = some u) (h1 : ∀ u ∈ news, u.oneCell' = true)
    (HO : W.ownsRow base e size v n cells) (hbase : base ≤ W.heap.size) (hlen : (n + m) * bytes ≤ 140737488355328)
    (h : ∀ v1 w1, w1.ownsRow base e size v1 (n + m) (cells ++ news) → W.grownBy w1 v.ownBlock → (v1 = .slice none 0 0 ↔ v = .slice none 0 0 ∧ m = 0) → (v1.ownBlock = v.ownBlock ∨ ∃ b, v1.ownBlock = some b ∧ W.heap.size ≤ b) → K (a.put o.dst v1) w1) :
    Oper.wp P o a W K Q := by
  obtain ⟨i0, hi, hzz⟩ := Option.map_eq_some_iff.1 hinfo
  simp only [Prod.mk.injEq] at hzz
  obtain ⟨hz0, hz1, hz2⟩ := hzz
  have hle : n + m ≤ 140737488355328 := Nat.le_trans (Nat.le_mul_of_pos_right _ hb0) hlen
  obtain ⟨v', w', hr, h2, h3, h4, h5⟩ := run_append_own_at (P := P) W base t o.type e i0 z size bytes ht hi hz0 hz1 hz2 hz hsz v n cells HO ad m c news hl hnews h1 (by simp only [maxLen]; omega) hlen hbase
  unfold Oper.wp execOp
  simp only [ho, resolve, invoke, builtin, Sem.run_bind, Sem.run_pure, Result.andThen_ok, List.map_toArray, List.map_cons, List.map_nil, hs, hx, hr]
  exact h v' w' h2 h3 h4 (h5.imp id fun e => ⟨_, e, Nat.le_refl _⟩)
theorem app_tiles (base : Nat) (hgd : o.guard = none) (s x : Operand) (t e : TypeId)
    (ho : o.op = .call { callee := .builtin .append, args := #[s, x], argTypes := #[t, t] }) (ht : P.underlying t = some (.slice e))
    (hinfo : (P.info? e).map (fun i => (i.zero, i.size, i.bytes)) = some (some (.agg #[.int .i64 0, .int .i64 0, .int .i64 0, .int .i64 0]), 4, 32))
    (v : Value) (ts us : List T4) (hs : a.eval s = v) {ad : Addr} {m c : Nat} (hx : a.eval x = .slice (some ad) m c) (hm : m = us.length) (hus : RT W (some ad) us)
    (HO : OT W base e v ts) (hv : v ≠ .slice none 0 0) (hbase : base ≤ W.heap.size) (hl : ts.length + us.length ≤ 1000000000000)
    (h : ∀ g n1 c1 w1, n1 = (ts ++ us).length → OT w1 base e (.slice (some ⟨g, 0, none⟩) n1 c1) (ts ++ us) → W.grownBy w1 v.ownBlock → (some g = v.ownBlock ∨ W.heap.size ≤ g) → wpList P ops Q rest (a.put o.dst (.slice (some ⟨g, 0, none⟩) n1 c1)) w1) :
    wpList P ops Q (o :: rest) a W :=
  wpList_plain hgd fun K hK => wp_many base s x t e _ 4 32 ho ht hinfo rfl (by decide) (by decide) v ts.length (tcells ts) (tcells us) hs ad m c hx (by rw [tcells_length, hm]) hus.news tcells_one HO hbase (by rw [hm]; omega)
    fun v1 w1 h2 h3 h4 h5 => by
      have h2' : OT w1 base e v1 (ts ++ us) := by
        unfold OT; rw [List.length_append, tcells_append, ← hm]; exact h2
      obtain ⟨g, c1, e1, hg, hle⟩ := own_some h2' (fun e0 => hv (h4.1 e0).1)
      subst e1
      refine hK _ _ (h g _ c1 w1 rfl h2' h3 ?_)
      rcases h5 with h5 | ⟨b, h5, hb⟩
      · exact .inl h5
      · right
        have : g = b := by simpa [Value.ownBlock] using h5
        omega
theorem step_tiles {E : Prop} (base : Nat) (hgd : o.guard = none) (s x : Operand) (t e : TypeId)
    (ho : o.op = .call { callee := .builtin .append, args := #[s, x], argTypes := #[t, t] }) (ht : P.underlying t = some (.slice e))
    (hinfo : (P.info? e).map (fun i => (i.zero, i.size, i.bytes)) = some (some (.agg #[.int .i64 0, .int .i64 0, .int .i64 0, .int .i64 0]), 4, 32))
    (v : Value) (ts us : List T4) (hs : a.eval s = v) {ad : Addr} {m c : Nat} (hx : a.eval x = .slice (some ad) m c) (hm : m = us.length) (hus : RT W (some ad) us)
    (HO : OT W base e v ts) (hv : v ≠ .slice none 0 0) (hbase : base ≤ W.heap.size) (hl : ts.length + us.length ≤ 1000000000000)
    (h : ∀ g n1 c1 w1, n1 = (ts ++ us).length → OT w1 base e (.slice (some ⟨g, 0, none⟩) n1 c1) (ts ++ us) → W.grownBy w1 v.ownBlock → (some g = v.ownBlock ∨ W.heap.size ≤ g) → K (a.put o.dst (.slice (some ⟨g, 0, none⟩) n1 c1)) w1) :
    if Region.wanted o (yielded ops a.tmps) = true then Oper.wp P o a W K Q else E := by
  have hw : Region.wanted o (yielded ops a.tmps) = true := by simp [Region.wanted, hgd]
  rw [if_pos hw]
  exact wp_many base s x t e _ 4 32 ho ht hinfo rfl (by decide) (by decide) v ts.length (tcells ts) (tcells us) hs ad m c hx (by rw [tcells_length, hm]) hus.news tcells_one HO hbase (by rw [hm]; omega)
    fun v1 w1 h2 h3 h4 h5 => by
      have h2' : OT w1 base e v1 (ts ++ us) := by
        unfold OT; rw [List.length_append, tcells_append, ← hm]; exact h2
      obtain ⟨g, c1, e1, hg, hle⟩ := own_some h2' (fun e0 => hv (h4.1 e0).1)
      subst e1
      refine h g _ c1 w1 rfl h2' h3 ?_
      rcases h5 with h5 | ⟨b, h5, hb⟩
      · exact .inl h5
      · right
        have : g = b := by simpa [Value.ownBlock] using h5
        omega
end
/-- a part of what can be read -/
theorem RT.drop {w : World} {b o : Nat} {ts : List T4} (h : RT w (some ⟨b, o, none⟩) ts) (i : Nat) : RT w (some ⟨b, o + i * 4, none⟩) (ts.drop i) := by
  intro k hk
  rw [List.length_drop] at hk
  obtain ⟨b', o', e, hb, h0, h1, h2, h3⟩ := h (i + k) (by omega)
  injection e with e; injection e with e1 e2; subst e1 e2
  have et : tk (ts.drop i) k = tk ts (i + k) := by simp [tk, List.getD, List.getElem?_drop]
  have eo : o + i * 4 + k * 4 = o + (i + k) * 4 := by omega
  refine ⟨b, _, rfl, hb, ?_, ?_, ?_, ?_⟩ <;> rw [et, eo] <;> assumption
theorem RT.take {w : World} {A : Option Addr} {ts : List T4} (h : RT w A ts) (i : Nat) : RT w A (ts.take i) := by
  intro k hk
  rw [List.length_take] at hk
  have et : tk (ts.take i) k = tk ts k := by simp [tk, List.getD, List.getElem?_take, show k < i by omega]
  rw [et]
  exact h k (by omega)
/-- a result that lies in memory beside a plain one -/
theorem results_ctm {P : Program} {fn : Func} {p u : Tmp} {ty : TypeId} (h : fn.results = #[.cell p ty, .tmp u]) (tmps : Array Value) (w : World) (g : Nat) (t : TypeId) (cs : Array Value) (d : TypeDesc)
    (hp : tmps.getD p undef = .pointer (some ⟨g, 0, none⟩)) (hg : BK w g cs t)
    (hu : P.underlying ty = some d) (hd : (match d with | .struct _ | .array _ _ => true | _ => false) = true) (hi : (P.info? ty).map (·.size) = some cs.size) :
    (results fn tmps).run P w = .ok (.tuple #[.agg cs, tmps.getD u undef]) w := by
  have hp' : tmps[p]?.getD undef = .pointer (some ⟨g, 0, none⟩) := by simpa using hp
  have hg' : w.heap[g]? = some (.cells cs t (0, 0)) := hg
  simp [results, h, hp', asAddr, run_loadVar_row w g t ty cs (0, 0) d hg' hu hd hi]
end Go.Proofs.YtbcnddeelefomaaDoor

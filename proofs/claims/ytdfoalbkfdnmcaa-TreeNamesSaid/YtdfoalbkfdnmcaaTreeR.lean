/- Slices of one's own that begin anywhere in their block; transactions and blocks as cells. -/
import Derived.Test.YtdfoalbkfdnmcaaTreeE
set_option linter.unusedVariables false
set_option linter.unusedSimpArgs false
namespace Go.Np
open Go.RowKit
/-- A slice of n elements (of sz cells each) that lies in a block of its own, wherever it begins. -/
def RowAt (w : World) (e : TypeId) (sz : Nat) (v : Value) (n : Nat) (xs : List Value) : Prop :=
  xs.length = n * sz ∧ ((v = .slice none 0 0 ∧ n = 0) ∨
    ∃ g off cap cur, v = .slice (some ⟨g, off, none⟩) n cap ∧ w.heap[g]? = some (.cells cur e (0, 0)) ∧ n ≤ cap ∧ cap ≤ maxLen ∧ off + cap * sz ≤ cur.size ∧ (cur.toList.drop off).take (n * sz) = xs)
theorem RowAt.of_own {w : World} {base : Nat} {e : TypeId} {sz n : Nat} {v : Value} {xs : List Value} (h : w.ownsRow base e sz v n xs) : RowAt w e sz v n xs := by
  refine ⟨h.1, ?_⟩
  rcases h.2 with h2 | ⟨g, cap, cur, rfl, hb, hh, h3, h4, h5, h6⟩
  · exact .inl h2
  · exact .inr ⟨g, 0, cap, cur, rfl, hh, h3, h4, by omega, by simpa using h6⟩
theorem RowAt.move {w w' : World} {e : TypeId} {sz n : Nat} {v : Value} {xs : List Value} (h : RowAt w e sz v n xs) (hf : ∀ k, v.ownBlock = some k → w'.heap[k]? = w.heap[k]?) : RowAt w' e sz v n xs := by
  refine ⟨h.1, ?_⟩
  rcases h.2 with h2 | ⟨g, off, cap, cur, rfl, hh, r⟩
  · exact .inl h2
  · exact .inr ⟨g, off, cap, cur, rfl, (hf g rfl).trans hh, r⟩
theorem RowAt.lt {w : World} {e : TypeId} {sz n : Nat} {v : Value} {xs : List Value} (h : RowAt w e sz v n xs) : ∀ k ∈ v.ownBlock.toList, k < w.heap.size := by
  intro k hk
  rcases h.2 with ⟨h2, _⟩ | ⟨g, off, cap, cur, rfl, hh, r⟩
  · rw [h2] at hk; simp [Value.ownBlock] at hk
  · simp [Value.ownBlock] at hk
    subst hk
    exact (Array.getElem?_eq_some_iff.1 hh).1
theorem RowAt.fr {w w' : World} {S : List Nat} {e : TypeId} {sz n : Nat} {v : Value} {xs : List Value} (h : RowAt w e sz v n xs) (hf : Fr S w w') (hd : ∀ k ∈ v.ownBlock.toList, k ∉ S) : RowAt w' e sz v n xs :=
  h.move fun k hk => hf.block k (h.lt k (by simp [hk])) (hd k (by simp [hk]))
theorem RowAt.form {w : World} {e : TypeId} {sz n : Nat} {v : Value} {xs : List Value} (h : RowAt w e sz v n xs) : ∃ A cp, v = .slice A n cp ∧ n ≤ cp := by
  rcases h.2 with ⟨h1, h2⟩ | ⟨g, off, cap, cur, rfl, hh, h3, r⟩
  · exact ⟨none, 0, by rw [h1, h2], by omega⟩
  · exact ⟨_, _, rfl, h3⟩
theorem RowAt.ne_obj {w : World} {e t : TypeId} {sz n p : Nat} {v : Value} {xs : List Value} {cs : Array Value} {fz : Nat × Nat} (h : RowAt w e sz v n xs) (hp : w.heap[p]? = some (.cells cs t fz)) (hne : e ≠ t) : p ∉ v.ownBlock.toList := by
  intro hk
  rcases h.2 with ⟨h1, _⟩ | ⟨g, off, cap, cur, h1, h2, _⟩
  · rw [h1] at hk; simp [Value.ownBlock] at hk
  · rw [h1] at hk
    simp [Value.ownBlock] at hk
    subst hk
    rw [hp] at h2; injection h2 with h2; injection h2 with _ h2; exact hne h2.symm
theorem RowAt.ne_map {w : World} {e : TypeId} {sz n p : Nat} {v : Value} {xs : List Value} {es : Array MapEntry} {cl : Nat} (h : RowAt w e sz v n xs) (hp : w.heap[p]? = some (.map es cl)) : p ∉ v.ownBlock.toList := by
  intro hk
  rcases h.2 with ⟨h1, _⟩ | ⟨g, off, cap, cur, h1, h2, _⟩
  · rw [h1] at hk; simp [Value.ownBlock] at hk
  · rw [h1] at hk
    simp [Value.ownBlock] at hk
    subst hk
    rw [hp] at h2; cases h2
theorem RowAt.cell {w : World} {e : TypeId} {sz n cp : Nat} {A : Option Addr} {xs : List Value} (h : RowAt w e sz (.slice A n cp) n xs) (j : Nat) (u : Value) (hu : xs[j]? = some u) : ∃ ad, A = some ad ∧ ad.spot = none ∧ w.cell? (ad.add j) = some u := by
  have hj := (List.getElem?_eq_some_iff.1 hu).1
  have h1 := h.1
  rcases h.2 with ⟨h2, h3⟩ | ⟨g, off, cap, cur, h2, h4, _, _, _, h5⟩
  · subst h3; omega
  · injection h2 with h2 _ _
    refine ⟨_, h2, rfl, ?_⟩
    rw [show (⟨g, off, none⟩ : Addr).add j = ⟨g, off + j, none⟩ from by unfold Addr.add; split <;> simp_all, cell_of h4, ← Array.getElem?_toList]
    rw [← h5, List.getElem?_take] at hu
    split at hu
    · rw [List.getElem?_drop] at hu; exact hu
    · cases hu
/-- 's[1:]'. -/
theorem RowAt.tail {w : World} {e : TypeId} {sz n g off cap : Nat} {xs : List Value} (hsz : 0 < sz) (h : RowAt w e sz (.slice (some ⟨g, off, none⟩) (n + 1) cap) (n + 1) xs) (A : Option Addr) (hA : A = (if cap = 1 then some (⟨g, off, none⟩ : Addr) else some ⟨g, off + sz, none⟩)) :
    RowAt w e sz (.slice A n (cap - 1)) n (xs.drop sz) := by
  have h1 := h.1
  rcases h.2 with ⟨h2, h3⟩ | ⟨g', off', cap', cur, h2, h4, h5, h6, h7, h8⟩
  · cases h3
  · injection h2 with h2 _ h3
    injection h2 with h2
    injection h2 with h2 h9
    subst h2 h3 h9
    have hl : (xs.drop sz).length = n * sz := by rw [List.length_drop, h1, Nat.add_mul]; omega
    refine ⟨hl, .inr ?_⟩
    by_cases hc : cap = 1
    · rw [if_pos hc] at hA
      have hn : n = 0 := by omega
      subst hn
      have : xs.drop sz = [] := List.eq_nil_of_length_eq_zero (by rw [hl]; simp)
      refine ⟨g, off, cap - 1, cur, by rw [hA], h4, by omega, by omega, ?_, by simp [this]⟩
      subst hc; simp at h7 ⊢; omega
    · rw [if_neg hc] at hA
      refine ⟨g, off + sz, cap - 1, cur, by rw [hA], h4, by omega, by omega, ?_, ?_⟩
      · have : cap * sz = (cap - 1) * sz + sz := by rw [← Nat.succ_mul]; congr 1; omega
        omega
      · rw [← h8, List.drop_take, List.drop_drop]
        congr 1
        rw [Nat.add_mul]; omega
section
variable {P : Program}
/-- append with room, wherever the slice begins. -/
theorem run_append_room_off {w : World} (t ty e : TypeId) (i : TypeInfo) (ht : P.underlying t = some (.slice e)) (hi : P.info? e = some i)
    (g off sLen sCap : Nat) (cur : Array Value) (hg : w.heap[g]? = some (.cells cur e (0, 0)))
    (a : Addr) (m c : Nat) (news : List Value) (hl : news.length = m * i.size) (hnews : ∀ j u, news[j]? = some u → w.cell? (a.add j) = some u) (h1 : ∀ u ∈ news, u.oneCell' = true)
    (hroom : sLen + m ≤ sCap) (hfit : off + sLen * i.size + news.length ≤ cur.size) :
    (Builtin.append_ #[t, t] ty #[.slice (some ⟨g, off, none⟩) sLen sCap, .slice (some a) m c]).run P w =
      .ok (.slice (some ⟨g, off, none⟩) (sLen + m) sCap) (w.setRow g (cur.toList.take (off + sLen * i.size) ++ news ++ cur.toList.drop (off + sLen * i.size + news.length)).toArray) := by
  have hf := run_firstCells_some (P := P) w i.size m a m c news hl hnews
  have hst := run_storeCells_at P g (off + sLen * i.size) e news 0 cur w hg (by simpa using hfit) h1
  simp only [Nat.add_zero] at hst
  simp [Builtin.append_, run_underlying ht, sizeOf, typeInfo, hi, Builtin.lenOf, hroom, hf, Addr.add_lit, hst]
theorem fr_setRow {w : World} {g : Nat} {cs : Array Value} : Fr [g] w (w.setRow g cs) :=
  ⟨rfl, rfl, rfl, by simp [World.setRow], fun k _ hk => setRow_other w g k _ (by simpa using hk)⟩
/-- 'append(s, x...)', s a slice in a block of its own. -/
theorem run_appendR (w : World) (t ty e : TypeId) (ht : P.underlying t = some (.slice e)) {z : Value} {size bytes : Nat} (hinfo : (P.info? e).map (fun i => (i.zero, i.size, i.bytes)) = some (some z, size, bytes)) (hz : z.cells.size = size) (hs0 : 0 < size)
    {v : Value} {n : Nat} {xs : List Value} (hown : RowAt w e size v n xs) (ad : Addr) (m c : Nat) (news : List Value) (hl : news.length = m * size) (hnews : ∀ j u, news[j]? = some u → w.cell? (ad.add j) = some u) (h1 : ∀ u ∈ news, u.oneCell' = true)
    (h63 : n + m ≤ maxLen) (hbytes : (n + m) * bytes ≤ 140737488355328) :
    ∃ A' c' w', (Builtin.append_ #[t, t] ty #[v, .slice (some ad) m c]).run P w = .ok (.slice A' (n + m) c') w' ∧ RowAt w' e size (.slice A' (n + m) c') (n + m) (xs ++ news) ∧ Fr v.ownBlock.toList w w' ∧ Fresh v.ownBlock.toList (Value.slice A' (n + m) c').ownBlock.toList w := by
  rcases hown.2 with ⟨rfl, rfl⟩ | ⟨g, off, cap, cur, rfl, hg, hnc, hcm, hcs, htake⟩
  · have hx : xs = [] := List.eq_nil_of_length_eq_zero (by simpa using hown.1)
    subst hx
    obtain ⟨A', c', w', a1, a2, a3, a4⟩ := run_appendS (P := P) w t ty e ht hinfo hz hs0 (World.ownsRow_nil w 0 e size) ad m c news hl hnews h1 h63 hbytes
    exact ⟨A', c', w', a1, RowAt.of_own a2, a3, a4⟩
  · obtain ⟨i, hi, hzz⟩ := Option.map_eq_some_iff.1 hinfo
    simp only [Prod.mk.injEq] at hzz
    obtain ⟨hz0, hz1, hz2⟩ := hzz
    subst hz1 hz2
    have hlen : (xs ++ news).length = (n + m) * i.size := by rw [List.length_append, hown.1, hl, Nat.add_mul]
    have hxl := hown.1
    by_cases hroom : n + m ≤ cap
    · have hfit : off + n * i.size + news.length ≤ cur.size := by
        have : (n + m) * i.size ≤ cap * i.size := Nat.mul_le_mul_right _ hroom
        rw [Nat.add_mul] at this
        rw [hl]; omega
      have hr := run_append_room_off (P := P) t ty e i ht hi g off n cap cur hg ad m c news hl hnews h1 hroom hfit
      refine ⟨_, _, _, hr, ⟨hlen, .inr ⟨g, off, cap, _, rfl, setRow_heap w g cur _ e _ hg, hroom, hcm, ?_, ?_⟩⟩, fr_setRow, fun k hk => .inl hk⟩
      · simp only [List.size_toArray, List.length_append, List.length_take, List.length_drop, Array.length_toList]
        omega
      · simp only []
        have e1 : (cur.toList.take (off + n * i.size) ++ news ++ cur.toList.drop (off + n * i.size + news.length)) = cur.toList.take off ++ (xs ++ news ++ cur.toList.drop (off + n * i.size + news.length)) := by
          rw [List.take_add, htake]; simp
        rw [e1, List.drop_left' (by simp; omega), List.take_left' hlen]
    · have holds : ∀ j u, xs[j]? = some u → w.cell? ((⟨g, off, none⟩ : Addr).add j) = some u := fun j u hu => by
        obtain ⟨ad', e1, _, e2⟩ := hown.cell j u hu
        injection e1 with e1
        rw [e1]; exact e2
      unfold maxLen at h63
      have hr := run_append_grow (P := P) w t ty e i z ht hi hz0 ⟨g, off, none⟩ n cap xs hown.1 holds ad m c news hl hnews (by omega) (by omega) (growslice_fits (by omega) hbytes)
      have hge := grownCap_ge w (n + m) cap e
      have hcm' : grownCap w (n + m) cap e ≤ maxLen := grownCap_le_maxLen w (n + m) cap e (by unfold maxLen; omega)
      refine ⟨_, _, _, hr, ⟨hlen, .inr ⟨w.heap.size, 0, _, _, rfl, heap_alloc_new w.drew _, hge, hcm', ?_, ?_⟩⟩, ((Fr.refl _ w).drew).alloc _, fun k hk => .inr (by simp [Value.ownBlock] at hk; omega)⟩
      · simp only [Array.size_append, List.size_toArray, size_zeroCells, hz, hown.1, hl, ← Nat.add_mul, Nat.zero_add]
        exact Nat.mul_le_mul_right _ (by omega)
      · simp only [Array.toList_append, List.append_assoc, List.drop_zero]
        rw [← List.append_assoc, ← hlen]
        exact List.take_left
section
variable {ops : Array Oper} {rest : List Oper} {o : Oper} {a : Act} {Q : Exit → Act → World → Prop}
theorem st_appendR {w : World} {K : Act → World → Prop} {E : Prop} (hg : o.guard = none) (s x : Operand) (t e : TypeId)
    (ho : o.op = .call { callee := .builtin .append, args := #[s, x], argTypes := #[t, t] })
    (ht : P.underlying t = some (.slice e)) {z : Value} {size bytes : Nat} (hinfo : (P.info? e).map (fun i => (i.zero, i.size, i.bytes)) = some (some z, size, bytes)) (hz : z.cells.size = size) (hs0 : 0 < size)
    {v : Value} {n : Nat} {xs : List Value} (hown : RowAt w e size v n xs) (hs : a.eval s = v) (ad : Addr) (m c : Nat) (news : List Value) (hx : a.eval x = .slice (some ad) m c) (hl : news.length = m * size) (hnews : ∀ j u, news[j]? = some u → w.cell? (ad.add j) = some u) (h1 : ∀ u ∈ news, u.oneCell' = true)
    (h63 : n + m ≤ maxLen) (hbytes : (n + m) * bytes ≤ 140737488355328)
    (h : ∀ A' c' w', RowAt w' e size (.slice A' (n + m) c') (n + m) (xs ++ news) → Fr v.ownBlock.toList w w' → Fresh v.ownBlock.toList (Value.slice A' (n + m) c').ownBlock.toList w → K (a.put o.dst (.slice A' (n + m) c')) w') :
    if Region.wanted o (yielded ops a.tmps) = true then Oper.wp P o a w K Q else E := by
  have hw : Region.wanted o (yielded ops a.tmps) = true := by simp [Region.wanted, hg]
  rw [if_pos hw]
  obtain ⟨A', c', w', hr, h2, h3, h4⟩ := run_appendR (P := P) w t o.type e ht hinfo hz hs0 hown ad m c news hl hnews h1 h63 hbytes
  unfold Oper.wp execOp
  simp only [ho, resolve, invoke, builtin, Sem.run_bind, Sem.run_pure, Result.andThen_ok, List.map_toArray, List.map_cons, List.map_nil, hs, hx, hr]
  exact h A' c' w' h2 h3 h4
end
end
end Go.Np
namespace Go.Np.Try
open Go.RowKit Go.Proofs Go.Proofs.Ytdfoalbkfdnmcaa.PX Go.Proofs.YtdfoalbkfdnmcaaW.PrintWords
/-! ### transactions as cells -/
def cellsT (q : S59) : List Value := [.int .i64 q.f0, .int .i64 q.f1]
def flatT (l : List S59) : List Value := l.flatMap cellsT
theorem flatT_len (l : List S59) : (flatT l).length = l.length * 2 := by
  induction l with
  | nil => rfl
  | cons q l ih => unfold flatT at *; rw [List.flatMap_cons, List.length_append, ih]; simp [cellsT]; omega
theorem flatT_one (l : List S59) : ∀ u ∈ flatT l, u.oneCell' = true := by
  intro u hu
  obtain ⟨q, _, h⟩ := List.mem_flatMap.1 hu
  simp [cellsT] at h
  rcases h with rfl | rfl <;> rfl
theorem flatT_get : ∀ (l : List S59) (j : Nat), (flatT l)[j]? = (l[j / 2]?).bind (fun q => (cellsT q)[j % 2]?) := by
  intro l
  induction l with
  | nil => intro j; rfl
  | cons q l ih =>
    intro j
    unfold flatT at *
    rw [List.flatMap_cons]
    by_cases h : j < 2
    · rw [List.getElem?_append_left (by simpa [cellsT] using h), show j / 2 = 0 by omega, show j % 2 = j by omega]; rfl
    · rw [List.getElem?_append_right (by simp [cellsT]; omega), show (cellsT q).length = 2 from rfl, ih, show j / 2 = (j - 2) / 2 + 1 by omega, show j % 2 = (j - 2) % 2 by omega]; rfl
theorem flatT_cells {w : World} {ad : Addr} {l : List S59} (h : k59.C w (some ad) l.length l) : ∀ j u, (flatT l)[j]? = some u → w.cell? (ad.add j) = some u := by
  intro j u hu
  rw [flatT_get] at hu
  cases hq : l[j / 2]? with
  | none => rw [hq] at hu; cases hu
  | some q =>
    rw [hq] at hu
    have hlt := (List.getElem?_eq_some_iff.1 hq).1
    obtain ⟨ad', e, hc⟩ := h.2.2 (by omega)
    injection e with e
    subst e
    obtain ⟨c, hcl, hK, hcc⟩ := hc (j / 2) q hq
    obtain rfl := k59_open hK
    have := hcc (j % 2) u hu
    rw [show j / 2 * k59.sz + j % 2 = j from by show j / 2 * 2 + j % 2 = j; omega] at this
    exact this
theorem flatT_reps (l : List S59) : Reps (fun q cs => cs = cellsT q) 2 l (flatT l) := by
  induction l with
  | nil => exact Reps.none _ _
  | cons q l ih =>
    have h1 : Reps (fun (q : S59) cs => cs = cellsT q) 2 [q] (cellsT q) := by simpa using (Reps.none (fun (q : S59) cs => cs = cellsT q) 2).snoc (p := q) rfl rfl
    have := Kd.reps_append h1 ih
    simpa [flatT] using this
theorem flatT_C {w : World} {base : Nat} {v : Value} {l : List S59} (h : w.ownsRow base 59 2 v l.length (flatT l)) : ∃ A c, v = .slice A l.length c ∧ l.length ≤ c ∧ k59.C w A l.length l := by
  obtain ⟨A, c, he, hl, hr⟩ := OwnRow.reads (R := fun q cs => cs = cellsT q) ⟨flatT l, h, flatT_reps l⟩
  exact ⟨A, c, he, hl, hr.imp_ (Below.refl _ _) (fun q cs hq => by subst hq; exact k59_mk w q)⟩
/-! ### blocks as cells -/
/-- A block and where its transactions lie. -/
structure BV where
  b : Blk
  A : Option Addr
  c : Nat
def BV.cells (q : BV) : List Value := [.int .i64 q.b.f0, .int .i64 q.b.f1, .int .i64 q.b.f2, .int .i64 q.b.f3, .slice q.A q.b.f4.length q.c]
def BV.tv (q : BV) : Value := .slice q.A q.b.f4.length q.c
def flatB (l : List BV) : List Value := l.flatMap BV.cells
theorem flatB_len (l : List BV) : (flatB l).length = l.length * 5 := by
  induction l with
  | nil => rfl
  | cons q l ih => unfold flatB at *; rw [List.flatMap_cons, List.length_append, ih]; simp [BV.cells]; omega
theorem flatB_one (l : List BV) : ∀ u ∈ flatB l, u.oneCell' = true := by
  intro u hu
  obtain ⟨q, _, h⟩ := List.mem_flatMap.1 hu
  simp [BV.cells] at h
  rcases h with rfl | rfl | rfl | rfl | rfl <;> rfl
theorem flatB_get : ∀ (l : List BV) (j : Nat), (flatB l)[j]? = (l[j / 5]?).bind (fun q => q.cells[j % 5]?) := by
  intro l
  induction l with
  | nil => intro j; rfl
  | cons q l ih =>
    intro j
    unfold flatB at *
    rw [List.flatMap_cons]
    by_cases h : j < 5
    · rw [List.getElem?_append_left (by simpa [BV.cells] using h), show j / 5 = 0 by omega, show j % 5 = j by omega]; rfl
    · rw [List.getElem?_append_right (by simp [BV.cells]; omega), show q.cells.length = 5 from rfl, ih, show j / 5 = (j - 5) / 5 + 1 by omega, show j % 5 = (j - 5) % 5 by omega]; rfl
theorem flatB_append (l m : List BV) : flatB (l ++ m) = flatB l ++ flatB m := by simp [flatB]
theorem flatB_drop (l : List BV) (n : Nat) : (flatB l).drop (n * 5) = flatB (l.drop n) := by
  by_cases h : n ≤ l.length
  · conv => lhs; rw [← List.take_append_drop n l, flatB_append]
    rw [List.drop_left' (by rw [flatB_len]; simp [h])]
  · rw [List.drop_eq_nil_of_le (by rw [flatB_len]; omega), List.drop_eq_nil_of_le (by omega)]; rfl
theorem flatB_take (l : List BV) (n : Nat) : (flatB l).take (n * 5) = flatB (l.take n) := by
  by_cases h : n ≤ l.length
  · conv => lhs; rw [← List.take_append_drop n l, flatB_append]
    rw [List.take_left' (by rw [flatB_len]; simp [h])]
  · rw [List.take_of_length_le (by rw [flatB_len]; omega), List.take_of_length_le (by omega)]
/-- The five cells of one block of a slice. -/
theorem RowAt.blk {w : World} {cp : Nat} {A : Option Addr} {l : List BV} (h : RowAt w 28 5 (.slice A l.length cp) l.length (flatB l)) (j : Nat) (q : BV) (hq : l[j]? = some q) :
    ∃ ad, A = some ad ∧ w.cell? (ad.add (j * 5)) = some (.int .i64 q.b.f0) ∧ w.cell? ⟨(ad.add (j * 5)).block, (ad.add (j * 5)).off + 1, none⟩ = some (.int .i64 q.b.f1) ∧ w.cell? ⟨(ad.add (j * 5)).block, (ad.add (j * 5)).off + 2, none⟩ = some (.int .i64 q.b.f2) ∧
      w.cell? ⟨(ad.add (j * 5)).block, (ad.add (j * 5)).off + 3, none⟩ = some (.int .i64 q.b.f3) ∧ w.cell? ⟨(ad.add (j * 5)).block, (ad.add (j * 5)).off + 4, none⟩ = some (.slice q.A q.b.f4.length q.c) := by
  have g : ∀ i u, q.cells[i]? = some u → ∃ ad, A = some ad ∧ ad.spot = none ∧ w.cell? (ad.add (j * 5 + i)) = some u := fun i u hu => by
    have hi : i < 5 := (List.getElem?_eq_some_iff.1 hu).1
    refine Go.Np.RowAt.cell h (j * 5 + i) u ?_
    rw [flatB_get, show (j * 5 + i) / 5 = j by omega, show (j * 5 + i) % 5 = i by omega, hq]; exact hu
  obtain ⟨ad, rfl, hs, h0⟩ := g 0 _ rfl
  refine ⟨ad, rfl, h0, ?_, ?_, ?_, ?_⟩
  · obtain ⟨ad', e, _, h1⟩ := g 1 _ rfl; injection e with e; subst e; rw [← add_field _ _ 1 (by omega)] at *; exact h1
  · obtain ⟨ad', e, _, h1⟩ := g 2 _ rfl; injection e with e; subst e; rw [add_field _ _ 2 (by omega)] at h1; exact h1
  · obtain ⟨ad', e, _, h1⟩ := g 3 _ rfl; injection e with e; subst e; rw [add_field _ _ 3 (by omega)] at h1; exact h1
  · obtain ⟨ad', e, _, h1⟩ := g 4 _ rfl; injection e with e; subst e; rw [add_field _ _ 4 (by omega)] at h1; exact h1
end Go.Np.Try

/- slices.Delete of one block of a row of one's own. -/
import Derived.Test.YtdfoalbkfdnmcaaTreeI
set_option linter.unusedVariables false
set_option linter.unusedSimpArgs false
namespace Go.Np
open Go.RowKit
theorem RowAt.pre {w : World} {e : TypeId} {sz n c : Nat} {A : Option Addr} {xs : List Value} (h : RowAt w e sz (.slice A n c) n xs) {i : Nat} (hi : i ≤ n) : RowAt w e sz (.slice A i c) i (xs.take (i * sz)) := by
  have h1 := h.1
  have hle : i * sz ≤ n * sz := Nat.mul_le_mul_right _ hi
  refine ⟨by rw [List.length_take, h1]; omega, ?_⟩
  rcases h.2 with ⟨h2, h3⟩ | ⟨g, off, cap, cur, h2, h4, h5, h6, h7, h8⟩
  · injection h2 with a1 _ a3
    subst a1 a3
    exact .inl ⟨by have : i = 0 := by omega
                   rw [this], by omega⟩
  · injection h2 with a1 _ a3
    subst a1 a3
    exact .inr ⟨g, off, c, cur, rfl, h4, by omega, h6, h7, by rw [← h8, List.take_take, Nat.min_eq_left hle]⟩
section
variable {P : Program}
theorem run_appendIn {w : World} (t ty e : TypeId) (ht : P.underlying t = some (.slice e)) {z : Value} {size bytes : Nat} (hinfo : (P.info? e).map (fun i => (i.zero, i.size, i.bytes)) = some (some z, size, bytes))
    {g off n c : Nat} {xs : List Value} (hown : RowAt w e size (.slice (some ⟨g, off, none⟩) n c) n xs) (ad : Addr) (m c' : Nat) (news : List Value) (hl : news.length = m * size) (hnews : ∀ j u, news[j]? = some u → w.cell? (ad.add j) = some u) (h1 : ∀ u ∈ news, u.oneCell' = true)
    (hroom : n + m ≤ c) :
    ∃ w', (Builtin.append_ #[t, t] ty #[.slice (some ⟨g, off, none⟩) n c, .slice (some ad) m c']).run P w = .ok (.slice (some ⟨g, off, none⟩) (n + m) c) w' ∧ RowAt w' e size (.slice (some ⟨g, off, none⟩) (n + m) c) (n + m) (xs ++ news) ∧ Fr [g] w w' ∧ w'.heap.size = w.heap.size := by
  rcases hown.2 with ⟨h0, _⟩ | ⟨g', off', cap, cur, he, hg, hnc, hcm, hcs, htake⟩
  · cases h0
  · injection he with a1 _ a3
    injection a1 with a1
    injection a1 with a1 a2
    subst a1 a2 a3
    obtain ⟨i, hi, hzz⟩ := Option.map_eq_some_iff.1 hinfo
    simp only [Prod.mk.injEq] at hzz
    obtain ⟨hz0, hz1, hz2⟩ := hzz
    subst hz1 hz2
    have hlen : (xs ++ news).length = (n + m) * i.size := by rw [List.length_append, hown.1, hl, Nat.add_mul]
    have hxl := hown.1
    have hfit : off + n * i.size + news.length ≤ cur.size := by
      have : (n + m) * i.size ≤ c * i.size := Nat.mul_le_mul_right _ hroom
      rw [Nat.add_mul] at this
      rw [hl]; omega
    have hr := run_append_room_off (P := P) t ty e i ht hi g off n c cur hg ad m c' news hl hnews h1 hroom hfit
    refine ⟨_, hr, ⟨hlen, .inr ⟨g, off, c, _, rfl, setRow_heap w g cur _ e _ hg, hroom, hcm, ?_, ?_⟩⟩, fr_setRow, by simp [World.setRow]⟩
    · simp only [List.size_toArray, List.length_append, List.length_take, List.length_drop, Array.length_toList]
      omega
    · simp only []
      have e1 : (cur.toList.take (off + n * i.size) ++ news ++ cur.toList.drop (off + n * i.size + news.length)) = cur.toList.take off ++ (xs ++ news ++ cur.toList.drop (off + n * i.size + news.length)) := by
        rw [List.take_add, htake]; simp
      rw [e1, List.drop_left' (by simp; omega), List.take_left' hlen]
theorem oneCell_zeros {zs : Array Value} (h : ∀ u ∈ zs.toList, u.oneCell' = true) (n : Nat) : ∀ u ∈ (Builtin.zeroCells zs n).toList, u.oneCell' = true := by
  intro u hu
  simp only [Builtin.zeroCells, Array.toList_map, List.mem_map, Array.toList_range, List.mem_range] at hu
  obtain ⟨j, hj, rfl⟩ := hu
  have hp : 0 < zs.size := by
    rcases Nat.eq_zero_or_pos zs.size with h0 | h0
    · rw [h0] at hj; omega
    · exact h0
  have hlt := Nat.mod_lt j hp
  rw [getElem!_pos zs (j % zs.size) hlt]
  exact h _ (by simp)
theorem run_clear_row {w : World} (t e : TypeId) (ht : P.underlying t = some (.slice e)) {z : Value} {size : Nat} (hv : ∀ w, (zeroValue e).run P w = .ok z w) (hz : z.cells.size = size) (h1 : ∀ u ∈ z.cells.toList, u.oneCell' = true) {g : Nat} {cur : Array Value} (hg : w.heap[g]? = some (.cells cur e (0, 0))) (o n : Nat) (hn : 0 < n) (hfit : o + n * size ≤ cur.size) :
    ∃ zs : List Value, zs.length = n * size ∧ ∀ (ty : TypeId) (c : Nat), (Builtin.clear_ #[t] ty #[.slice (some ⟨g, o, none⟩) n c]).run P w = .ok (.tuple #[]) (w.setRow g (cur.toList.take o ++ zs ++ cur.toList.drop (o + zs.length)).toArray) := by
  have hl : (Builtin.zeroCells z.cells n).toList.length = n * size := by rw [Array.length_toList, size_zeroCells, hz]
  refine ⟨_, hl, fun ty c => ?_⟩
  have hst := run_storeCells_at P g o e (Builtin.zeroCells z.cells n).toList 0 cur w hg (by rw [hl]; simpa using hfit) (oneCell_zeros h1 n)
  simp only [Nat.add_zero] at hst
  obtain ⟨m, rfl⟩ : ∃ m, n = m + 1 := ⟨n - 1, by omega⟩
  simp [Builtin.clear_, run_underlying ht, hv, hst]
end
section
variable {P : Program} {ops : Array Oper} {o : Oper} {a : Act} {Q : Exit → Act → World → Prop}
theorem st_appendIn {w : World} {K : Act → World → Prop} {E : Prop} (hg : o.guard = none) (s x : Operand) (t e : TypeId)
    (ho : o.op = .call { callee := .builtin .append, args := #[s, x], argTypes := #[t, t] })
    (ht : P.underlying t = some (.slice e)) {z : Value} {size bytes : Nat} (hinfo : (P.info? e).map (fun i => (i.zero, i.size, i.bytes)) = some (some z, size, bytes))
    {g off n c : Nat} {xs : List Value} (hown : RowAt w e size (.slice (some ⟨g, off, none⟩) n c) n xs) (hs : a.eval s = .slice (some ⟨g, off, none⟩) n c) (ad : Addr) (m c' : Nat) (news : List Value) (hx : a.eval x = .slice (some ad) m c') (hl : news.length = m * size) (hnews : ∀ j u, news[j]? = some u → w.cell? (ad.add j) = some u) (h1 : ∀ u ∈ news, u.oneCell' = true)
    (hroom : n + m ≤ c)
    (h : ∀ w', RowAt w' e size (.slice (some ⟨g, off, none⟩) (n + m) c) (n + m) (xs ++ news) → Fr [g] w w' → w'.heap.size = w.heap.size → K (a.put o.dst (.slice (some ⟨g, off, none⟩) (n + m) c)) w') :
    if Region.wanted o (yielded ops a.tmps) = true then Oper.wp P o a w K Q else E := by
  have hw : Region.wanted o (yielded ops a.tmps) = true := by simp [Region.wanted, hg]
  rw [if_pos hw]
  obtain ⟨w', hr, h2, h3, h4⟩ := run_appendIn (P := P) t o.type e ht hinfo hown ad m c' news hl hnews h1 hroom
  unfold Oper.wp execOp
  simp only [ho, resolve, invoke, builtin, Sem.run_bind, Sem.run_pure, Result.andThen_ok, List.map_toArray, List.map_cons, List.map_nil, hs, hx, hr]
  exact h w' h2 h3 h4
end
end Go.Np
namespace Go.Np.Try
open Go.RowKit Go.Proofs Go.Proofs.Ytdfoalbkfdnmcaa.PX Go.Proofs.YtdfoalbkfdnmcaaW.PrintWords
theorem zeroBl (w : World) : (zeroValue 28).run Try.prog w = .ok (.agg #[.int .i64 0, .int .i64 0, .int .i64 0, .int .i64 0, .slice none 0 0]) w := by kernel_rfl
set_option maxHeartbeats 4000000 in
set_option maxRecDepth 100000 in
theorem delete_blk {w : World} {g c i k : Nat} {l : List BV} (h : RowAt w 28 5 (.slice (some ⟨g, 0, none⟩) (i + 1 + k) c) (i + 1 + k) (flatB l)) (hl : l.length = i + 1 + k) (hsm : i + 1 + k ≤ 100000) :
    Calls Try.prog 66 #[.slice (some ⟨g, 0, none⟩) (i + 1 + k) c, .int .i64 i, .int .i64 ((i : Int) + 1)] w fun e w' => e = .returned (.slice (some ⟨g, 0, none⟩) (i + k) c) ∧ RowAt w' 28 5 (.slice (some ⟨g, 0, none⟩) (i + k) c) (i + k) (flatB (l.eraseIdx i)) ∧ Fr [g] w w' := by
  refine calls_k fun R hR => ?_
  have hc : i + 1 + k ≤ c := by
    rcases h.2 with ⟨h2, _⟩ | ⟨g', off', cap', cur, h2, h4, h5, _⟩
    · cases h2
    · injection h2 with a1 _ a3
      subst a3; exact h5
  have hcm : c ≤ 9223372036854775807 := by
    rcases h.2 with ⟨h2, _⟩ | ⟨g', off', cap', cur, h2, h4, h5, h6, _⟩
    · cases h2
    · injection h2 with a1 _ a3
      subst a3; unfold maxLen at h6; omega
  have herase : l.eraseIdx i = l.take i ++ l.drop (i + 1) := List.eraseIdx_eq_take_drop_succ l i
  have HPRE : Hid (RowAt w.drew 28 5 (.slice (some ⟨g, 0, none⟩) i c) i (flatB (l.take i))) := by
    have := (h.fr ((Fr.refl [] w).drew) (by simp)).pre (i := i) (by omega)
    rw [flatB_take] at this
    exact this
  obtain ⟨A1, hA, hsrc⟩ : ∃ A1 : Addr, (if c = i + 1 then some (⟨g, 0, none⟩ : Addr) else some ⟨g, (i + 1) * 5, none⟩) = some A1 ∧ Hid (∀ t u, (flatB (l.drop (i + 1)))[t]? = some u → w.drew.cell? (A1.add t) = some u) := by
    by_cases h0 : c = i + 1
    · refine ⟨⟨g, 0, none⟩, by simp [h0], fun t u hu => ?_⟩
      have : l.drop (i + 1) = [] := List.drop_eq_nil_of_le (by omega)
      rw [this] at hu
      simp [flatB] at hu
    · refine ⟨⟨g, (i + 1) * 5, none⟩, by simp [h0], fun t u hu => ?_⟩
      have hu2 : (flatB l)[(i + 1) * 5 + t]? = some u := by rw [← List.getElem?_drop, flatB_drop]; exact hu
      obtain ⟨ad, e, _, hcl⟩ := h.cell _ _ hu2
      injection e with e
      subst e
      have e1 : (⟨g, 0, none⟩ : Addr).add ((i + 1) * 5 + t) = (⟨g, (i + 1) * 5, none⟩ : Addr).add t := by simp only [Addr.add_mid, Nat.zero_add]
      rw [e1] at hcl
      exact hcl
  have s1 : Hid ((flatB (l.drop (i + 1))).length = k * 5) := by
    have : (l.drop (i + 1)).length = k := by rw [List.length_drop, hl]; omega
    unfold Hid
    rw [flatB_len, this]
  have s2 : Hid (∀ u ∈ flatB (l.drop (i + 1)), u.oneCell' = true) := flatB_one _
  have hroom : i + k ≤ c := by omega
  have hic : i ≤ c := by omega
  have hjc : i + 1 ≤ c := by omega
  have HE := Lib.hid herase
  have e1 : 0 ≤ (i : Int) + 1 := by omega
  have e2 : (i : Int) + 1 ≤ (i : Int) + 1 + (k : Int) := by omega
  clear h herase hl
  go_enter Try.func66, Try.ntmps66
  go_upto_region 5 with (fail)
  have hne : c ≠ i + k := by omega
  have hsub : i + 1 + k - (i + k) = 1 := by omega
  go_region_law (first
    | (refine st_appendIn rfl (.tmp 22) (.tmp 25) 22 28 rfl Try.underlying22 info28 HPRE.out (by simp [Act.eval, Act.put]) A1 k (c - (i + 1)) (flatB (l.drop (i + 1))) (by simp [Act.eval, Act.put]) s1.out hsrc.out s2.out hroom ?_; intro w6 hr6 hF6 hs6))
  rw [← flatB_append, ← HE.out] at hr6
  obtain ⟨cur, hg6, hcs6, ht6⟩ : ∃ cur, w6.heap[g]? = some (.cells cur 28 (0, 0)) ∧ c * 5 ≤ cur.size ∧ cur.toList.take ((i + k) * 5) = flatB (l.eraseIdx i) := by
    rcases hr6.2 with ⟨h2, _⟩ | ⟨g', off', cap', cur, h2, h4, h5, h6, h7, h8⟩
    · cases h2
    · injection h2 with a1 _ a3
      injection a1 with a1
      injection a1 with a1 a2
      subst a1 a2 a3
      exact ⟨cur, h4, by omega, by simpa using h8⟩
  obtain ⟨zs, hzl, hcl⟩ := run_clear_row (P := Try.prog) 22 28 Try.underlying22 zeroBl (size := 5) rfl (by simp [Value.cells, Value.oneCell']) hg6 ((i + k) * 5) 1 (by omega) (by omega)
  have hfin : RowAt (w6.setRow g (cur.toList.take ((i + k) * 5) ++ zs ++ cur.toList.drop ((i + k) * 5 + zs.length)).toArray) 28 5 (.slice (some ⟨g, 0, none⟩) (i + k) c) (i + k) (flatB (l.eraseIdx i)) ∧ Fr [g] w (w6.setRow g (cur.toList.take ((i + k) * 5) ++ zs ++ cur.toList.drop ((i + k) * 5 + zs.length)).toArray) := by
    refine ⟨⟨hr6.1, .inr ⟨g, 0, c, _, rfl, setRow_heap w6 g cur _ _ _ hg6, by omega, by unfold maxLen; omega, ?_, ?_⟩⟩, ?_⟩
    · simp only [List.size_toArray, List.length_append, List.length_take, List.length_drop, Array.length_toList, hzl]
      omega
    · simp only [List.drop_zero, List.append_assoc]
      rw [List.take_append_of_le_length (by rw [List.length_take, Array.length_toList]; omega), List.take_take, Nat.min_self]
      exact ht6
    · exact ((((Fr.refl [g] w).drew).trans hF6 (fun x hx => .inl hx))).trans fr_setRow (fun x hx => .inl hx)
  have HFIN := Lib.hid hfin
  clear hr6 hF6 hs6 hg6 hcs6 ht6 hzl hfin
  go_wp2
  have hf := HFIN.out
  simp only [List.append_assoc] at hf
  exact hR.out _ _ ⟨rfl, hf⟩
end Go.Np.Try

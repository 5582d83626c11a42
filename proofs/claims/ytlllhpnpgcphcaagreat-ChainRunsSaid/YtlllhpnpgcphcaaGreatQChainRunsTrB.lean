/- What ChainRuns needs. -/
import Derived.Test.YtlllhpnpgcphcaaGreatQChainRunsTrA
set_option linter.unusedVariables false
set_option linter.unusedSimpArgs false
namespace Go.Np.Tryz
open Go.RowKit Go.Proofs Go.Proofs.YtlllhpnpgcphcaaGreat.PX Go.Proofs.YtlllhpnpgcphcaaGreatW.PrintWords
def idxP (t : Tr) : Int := match t.wait.findIdx? t.ready with
  | none => -1
  | some i => i
set_option maxHeartbeats 4000000 in
set_option maxRecDepth 100000 in
theorem index_calls {X : Nat → Prop} {w : World} {p b : Nat} {t : Tr} {A : Option Addr} {c : Nat} {ds : List (BV × Kn)} {qs : List BV} (h : TrIn X w p t b (.slice A qs.length c) ds qs) (hl : qs.length ≤ 100000) :
    Calls Tryz.prog 95 #[.slice A qs.length c, .func (.func 72) #[.pointer (some ⟨p, 0, none⟩)] #[]] w fun e w' => e = .returned (.int .i64 (idxP t)) ∧ Fr [] w w' := by
  refine calls_k fun R hR => ?_
  have HH := Lib.hid h
  have hqs := h.hqs
  have hno : ∀ i, i < qs.length → (∀ j, j < i → ∀ q, qs[j]? = some q → t.ready q.b = false) → ∀ q, qs[i]? = some q → t.ready q.b = true → idxP t = i := by
    intro i hi hp q hq hr
    have : t.wait.findIdx? t.ready = some i := by
      rw [List.findIdx?_eq_some_iff_getElem, ← hqs]
      refine ⟨by simpa using hi, ?_, ?_⟩
      · have := (List.getElem?_eq_some_iff.1 hq).2
        simp [this, hr]
      · intro j hj
        have := hp j hj _ (List.getElem?_eq_getElem (by omega))
        simpa using this
    unfold idxP
    rw [this]
  have hnone : (∀ j, j < qs.length → ∀ q, qs[j]? = some q → t.ready q.b = false) → idxP t = -1 := by
    intro hp
    have : t.wait.findIdx? t.ready = none := by
      rw [List.findIdx?_eq_none_iff, ← hqs]
      intro x hx
      obtain ⟨q, hq, rfl⟩ := List.mem_map.1 hx
      obtain ⟨j, hj⟩ := List.mem_iff_getElem?.1 hq
      exact hp j (List.getElem?_eq_some_iff.1 hj).1 q hj
    unfold idxP
    rw [this]
  have HNO := Lib.hid hno
  have HNONE := Lib.hid hnone
  clear h hqs hno hnone
  go_enter Tryz.func95, Tryz.ntmps95
  go_upto_region 2 with (fail)
  go_loopg [8] qs.length (fun gn i wr => ∃ (m j : Nat), m = gn ∧ m + j = qs.length ∧ i = .int .i64 j ∧ Hid (∀ k, k < j → ∀ q, qs[k]? = some q → t.ready q.b = false) ∧ Hid (Fr [] w wr))
  case atStart => exact ⟨_, 0, rfl, rfl, rfl, fun k hk => absurd hk (Nat.not_lt_zero _), Fr.refl _ _⟩
  case round =>
    obtain ⟨m, j, rfl, hj, rfl, HP, HF⟩ := hrel
    by_cases hlt : j < qs.length
    · have hr := HH.out.fr0 HF.out
      obtain ⟨q, hq⟩ : ∃ q, qs[j]? = some q := ⟨_, List.getElem?_eq_getElem hlt⟩
      obtain ⟨ad, rfl, c0, c1, c2, c3, c4⟩ := Go.Np.Tryz.RowAt.blk hr.hv j q hq
      have HRD := Lib.hid (ready_calls ⟨_, _, _, _, hr⟩ q.b q.A q.c)
      simp only [blkV] at HRD
      have HQ := Lib.hid hq
      clear hr hq
      cases hb : t.ready q.b with
      | true =>
        rw [HNO.out j hlt HP.out q HQ.out hb] at hR
        rw [hb] at HRD
        clear hb
        go_wp2_with (go_at_call 72; refine HRD.out.mono ?_; rintro e w1 ⟨rfl, hF1⟩; have HF1 := Lib.hid hF1; clear hF1)
        exact hR.out _ _ ⟨rfl, HF.out.trans HF1.out (by simp)⟩
      | false =>
        rw [hb] at HRD
        have HB := Lib.hid hb
        clear hb
        go_wp2_with (go_at_call 72; refine HRD.out.mono ?_; rintro e w1 ⟨rfl, hF1⟩; have HF1 := Lib.hid hF1; clear hF1 c0 c1 c2 c3 c4)
        obtain ⟨gm, rfl⟩ : ∃ gm, m = gm + 1 := ⟨m - 1, by omega⟩
        go_roundg gm
        case rel =>
          refine ⟨gm, j + 1, rfl, by omega, by go_num, ?_, HF.out.trans HF1.out (by simp)⟩
          intro k hk r hr
          by_cases hkj : k = j
          · subst hkj
            have := HQ.out
            rw [this] at hr
            injection hr with hr
            rw [← hr]; exact HB.out
          · exact HP.out k (by omega) r hr
        case measure => omega
    · obtain rfl : j = qs.length := by omega
      rw [HNONE.out HP.out] at hR
      go_wp2
      exact hR.out _ _ ⟨rfl, HF.out⟩
end Go.Np.Tryz
set_option linter.unusedVariables false
set_option linter.unusedSimpArgs false
namespace Go.Np
open Go.RowKit
theorem RowAt.pre {w : World} {e : TypeId} {sz n c : Nat} {A : Option Addr} {xs : List Value} (h : RowAt w e sz (.slice A n c) n xs) {i : Nat} (hi : i ≤ n) : RowAt w e sz (.slice A i c) i (xs.take (i * sz)) := by
  have h1 := h.1
  have hle : i * sz ≤ n * sz := Nat.mul_le_mul_right _ hi
  refine ⟨by rw [List.length_take, h1]; omega, ?_⟩
  rcases h.2 with ⟨h2, h3⟩ | ⟨g, off, cap, cur, h2, h4, h5, h6, h7, h8⟩
  · injection h2 with a1 _ a3
    subst a1 a3
    exact .inl ⟨by have : i = 0 := by omega
                   rw [this], by omega⟩
  · injection h2 with a1 _ a3
    subst a1 a3
    exact .inr ⟨g, off, c, cur, rfl, h4, by omega, h6, h7, by rw [← h8, List.take_take, Nat.min_eq_left hle]⟩
section
variable {P : Program}
theorem run_appendIn {w : World} (t ty e : TypeId) (ht : P.underlying t = some (.slice e)) {z : Value} {size bytes : Nat} (hinfo : (P.info? e).map (fun i => (i.zero, i.size, i.bytes)) = some (some z, size, bytes))
    {g off n c : Nat} {xs : List Value} (hown : RowAt w e size (.slice (some ⟨g, off, none⟩) n c) n xs) (ad : Addr) (m c' : Nat) (news : List Value) (hl : news.length = m * size) (hnews : ∀ j u, news[j]? = some u → w.cell? (ad.add j) = some u) (h1 : ∀ u ∈ news, u.oneCell' = true)
    (hroom : n + m ≤ c) :
    ∃ w', (Builtin.append_ #[t, t] ty #[.slice (some ⟨g, off, none⟩) n c, .slice (some ad) m c']).run P w = .ok (.slice (some ⟨g, off, none⟩) (n + m) c) w' ∧ RowAt w' e size (.slice (some ⟨g, off, none⟩) (n + m) c) (n + m) (xs ++ news) ∧ Fr [g] w w' ∧ w'.heap.size = w.heap.size := by
  rcases hown.2 with ⟨h0, _⟩ | ⟨g', off', cap, cur, he, hg, hnc, hcm, hcs, htake⟩
  · cases h0
  · injection he with a1 _ a3
    injection a1 with a1
    injection a1 with a1 a2
    subst a1 a2 a3
    obtain ⟨i, hi, hzz⟩ := Option.map_eq_some_iff.1 hinfo
    simp only [Prod.mk.injEq] at hzz
    obtain ⟨hz0, hz1, hz2⟩ := hzz
    subst hz1 hz2
    have hlen : (xs ++ news).length = (n + m) * i.size := by rw [List.length_append, hown.1, hl, Nat.add_mul]
    have hxl := hown.1
    have hfit : off + n * i.size + news.length ≤ cur.size := by
      have : (n + m) * i.size ≤ c * i.size := Nat.mul_le_mul_right _ hroom
      rw [Nat.add_mul] at this
      rw [hl]; omega
    have hr := run_append_room_off (P := P) t ty e i ht hi g off n c cur hg ad m c' news hl hnews h1 hroom hfit
    refine ⟨_, hr, ⟨hlen, .inr ⟨g, off, c, _, rfl, setRow_heap w g cur _ e _ hg, hroom, hcm, ?_, ?_⟩⟩, fr_setRow, by simp [World.setRow]⟩
    · simp only [List.size_toArray, List.length_append, List.length_take, List.length_drop, Array.length_toList]
      omega
    · simp only []
      have e1 : (cur.toList.take (off + n * i.size) ++ news ++ cur.toList.drop (off + n * i.size + news.length)) = cur.toList.take off ++ (xs ++ news ++ cur.toList.drop (off + n * i.size + news.length)) := by
        rw [List.take_add, htake]; simp
      rw [e1, List.drop_left' (by simp; omega), List.take_left' hlen]
theorem oneCell_zeros {zs : Array Value} (h : ∀ u ∈ zs.toList, u.oneCell' = true) (n : Nat) : ∀ u ∈ (Builtin.zeroCells zs n).toList, u.oneCell' = true := by
  intro u hu
  simp only [Builtin.zeroCells, Array.toList_map, List.mem_map, Array.toList_range, List.mem_range] at hu
  obtain ⟨j, hj, rfl⟩ := hu
  have hp : 0 < zs.size := by
    rcases Nat.eq_zero_or_pos zs.size with h0 | h0
    · rw [h0] at hj; omega
    · exact h0
  have hlt := Nat.mod_lt j hp
  rw [getElem!_pos zs (j % zs.size) hlt]
  exact h _ (by simp)
theorem run_clear_row {w : World} (t e : TypeId) (ht : P.underlying t = some (.slice e)) {z : Value} {size : Nat} (hv : ∀ w, (zeroValue e).run P w = .ok z w) (hz : z.cells.size = size) (h1 : ∀ u ∈ z.cells.toList, u.oneCell' = true) {g : Nat} {cur : Array Value} (hg : w.heap[g]? = some (.cells cur e (0, 0))) (o n : Nat) (hn : 0 < n) (hfit : o + n * size ≤ cur.size) :
    ∃ zs : List Value, zs.length = n * size ∧ ∀ (ty : TypeId) (c : Nat), (Builtin.clear_ #[t] ty #[.slice (some ⟨g, o, none⟩) n c]).run P w = .ok (.tuple #[]) (w.setRow g (cur.toList.take o ++ zs ++ cur.toList.drop (o + zs.length)).toArray) := by
  have hl : (Builtin.zeroCells z.cells n).toList.length = n * size := by rw [Array.length_toList, size_zeroCells, hz]
  refine ⟨_, hl, fun ty c => ?_⟩
  have hst := run_storeCells_at P g o e (Builtin.zeroCells z.cells n).toList 0 cur w hg (by rw [hl]; simpa using hfit) (oneCell_zeros h1 n)
  simp only [Nat.add_zero] at hst
  obtain ⟨m, rfl⟩ : ∃ m, n = m + 1 := ⟨n - 1, by omega⟩
  simp [Builtin.clear_, run_underlying ht, hv, hst]
end
section
variable {P : Program} {ops : Array Oper} {o : Oper} {a : Act} {Q : Exit → Act → World → Prop}
theorem st_appendIn {w : World} {K : Act → World → Prop} {E : Prop} (hg : o.guard = none) (s x : Operand) (t e : TypeId)
    (ho : o.op = .call { callee := .builtin .append, args := #[s, x], argTypes := #[t, t] })
    (ht : P.underlying t = some (.slice e)) {z : Value} {size bytes : Nat} (hinfo : (P.info? e).map (fun i => (i.zero, i.size, i.bytes)) = some (some z, size, bytes))
    {g off n c : Nat} {xs : List Value} (hown : RowAt w e size (.slice (some ⟨g, off, none⟩) n c) n xs) (hs : a.eval s = .slice (some ⟨g, off, none⟩) n c) (ad : Addr) (m c' : Nat) (news : List Value) (hx : a.eval x = .slice (some ad) m c') (hl : news.length = m * size) (hnews : ∀ j u, news[j]? = some u → w.cell? (ad.add j) = some u) (h1 : ∀ u ∈ news, u.oneCell' = true)
    (hroom : n + m ≤ c)
    (h : ∀ w', RowAt w' e size (.slice (some ⟨g, off, none⟩) (n + m) c) (n + m) (xs ++ news) → Fr [g] w w' → w'.heap.size = w.heap.size → K (a.put o.dst (.slice (some ⟨g, off, none⟩) (n + m) c)) w') :
    if Region.wanted o (yielded ops a.tmps) = true then Oper.wp P o a w K Q else E := by
  have hw : Region.wanted o (yielded ops a.tmps) = true := by simp [Region.wanted, hg]
  rw [if_pos hw]
  obtain ⟨w', hr, h2, h3, h4⟩ := run_appendIn (P := P) t o.type e ht hinfo hown ad m c' news hl hnews h1 hroom
  unfold Oper.wp execOp
  simp only [ho, resolve, invoke, builtin, Sem.run_bind, Sem.run_pure, Result.andThen_ok, List.map_toArray, List.map_cons, List.map_nil, hs, hx, hr]
  exact h w' h2 h3 h4
end
end Go.Np
namespace Go.Np.Tryz
open Go.RowKit Go.Proofs Go.Proofs.YtlllhpnpgcphcaaGreat.PX Go.Proofs.YtlllhpnpgcphcaaGreatW.PrintWords
theorem zeroBl (w : World) : (zeroValue 35).run Tryz.prog w = .ok (.agg #[.int .i64 0, .int .i64 0, .int .i64 0, .int .i64 0, .slice none 0 0]) w := by kernel_rfl
set_option maxHeartbeats 4000000 in
set_option maxRecDepth 100000 in
theorem delete_blk {w : World} {g c i k : Nat} {l : List BV} (h : RowAt w 35 5 (.slice (some ⟨g, 0, none⟩) (i + 1 + k) c) (i + 1 + k) (flatB l)) (hl : l.length = i + 1 + k) (hsm : i + 1 + k ≤ 100000) :
    Calls Tryz.prog 96 #[.slice (some ⟨g, 0, none⟩) (i + 1 + k) c, .int .i64 i, .int .i64 ((i : Int) + 1)] w fun e w' => e = .returned (.slice (some ⟨g, 0, none⟩) (i + k) c) ∧ RowAt w' 35 5 (.slice (some ⟨g, 0, none⟩) (i + k) c) (i + k) (flatB (l.eraseIdx i)) ∧ Fr [g] w w' := by
  refine calls_k fun R hR => ?_
  have hc : i + 1 + k ≤ c := by
    rcases h.2 with ⟨h2, _⟩ | ⟨g', off', cap', cur, h2, h4, h5, _⟩
    · cases h2
    · injection h2 with a1 _ a3
      subst a3; exact h5
  have hcm : c ≤ 9223372036854775807 := by
    rcases h.2 with ⟨h2, _⟩ | ⟨g', off', cap', cur, h2, h4, h5, h6, _⟩
    · cases h2
    · injection h2 with a1 _ a3
      subst a3; unfold maxLen at h6; omega
  have herase : l.eraseIdx i = l.take i ++ l.drop (i + 1) := List.eraseIdx_eq_take_drop_succ l i
  have HPRE : Hid (RowAt w.drew 35 5 (.slice (some ⟨g, 0, none⟩) i c) i (flatB (l.take i))) := by
    have := (h.fr ((Fr.refl [] w).drew) (by simp)).pre (i := i) (by omega)
    rw [flatB_take] at this
    exact this
  obtain ⟨A1, hA, hsrc⟩ : ∃ A1 : Addr, (if c = i + 1 then some (⟨g, 0, none⟩ : Addr) else some ⟨g, (i + 1) * 5, none⟩) = some A1 ∧ Hid (∀ t u, (flatB (l.drop (i + 1)))[t]? = some u → w.drew.cell? (A1.add t) = some u) := by
    by_cases h0 : c = i + 1
    · refine ⟨⟨g, 0, none⟩, by simp [h0], fun t u hu => ?_⟩
      have : l.drop (i + 1) = [] := List.drop_eq_nil_of_le (by omega)
      rw [this] at hu
      simp [flatB] at hu
    · refine ⟨⟨g, (i + 1) * 5, none⟩, by simp [h0], fun t u hu => ?_⟩
      have hu2 : (flatB l)[(i + 1) * 5 + t]? = some u := by rw [← List.getElem?_drop, flatB_drop]; exact hu
      obtain ⟨ad, e, _, hcl⟩ := h.cell _ _ hu2
      injection e with e
      subst e
      have e1 : (⟨g, 0, none⟩ : Addr).add ((i + 1) * 5 + t) = (⟨g, (i + 1) * 5, none⟩ : Addr).add t := by simp only [Addr.add_mid, Nat.zero_add]
      rw [e1] at hcl
      exact hcl
  have s1 : Hid ((flatB (l.drop (i + 1))).length = k * 5) := by
    have : (l.drop (i + 1)).length = k := by rw [List.length_drop, hl]; omega
    unfold Hid
    rw [flatB_len, this]
  have s2 : Hid (∀ u ∈ flatB (l.drop (i + 1)), u.oneCell' = true) := flatB_one _
  have hroom : i + k ≤ c := by omega
  have hic : i ≤ c := by omega
  have hjc : i + 1 ≤ c := by omega
  have HE := Lib.hid herase
  have e1 : 0 ≤ (i : Int) + 1 := by omega
  have e2 : (i : Int) + 1 ≤ (i : Int) + 1 + (k : Int) := by omega
  clear h herase hl
  go_enter Tryz.func96, Tryz.ntmps96
  go_upto_region 5 with (fail)
  have hne : c ≠ i + k := by omega
  have hsub : i + 1 + k - (i + k) = 1 := by omega
  go_region_law (first
    | (refine st_appendIn rfl (.tmp 22) (.tmp 25) 28 35 rfl Tryz.underlying28 info35 HPRE.out (by simp [Act.eval, Act.put]) A1 k (c - (i + 1)) (flatB (l.drop (i + 1))) (by simp [Act.eval, Act.put]) s1.out hsrc.out s2.out hroom ?_; intro w6 hr6 hF6 hs6))
  rw [← flatB_append, ← HE.out] at hr6
  obtain ⟨cur, hg6, hcs6, ht6⟩ : ∃ cur, w6.heap[g]? = some (.cells cur 35 (0, 0)) ∧ c * 5 ≤ cur.size ∧ cur.toList.take ((i + k) * 5) = flatB (l.eraseIdx i) := by
    rcases hr6.2 with ⟨h2, _⟩ | ⟨g', off', cap', cur, h2, h4, h5, h6, h7, h8⟩
    · cases h2
    · injection h2 with a1 _ a3
      injection a1 with a1
      injection a1 with a1 a2
      subst a1 a2 a3
      exact ⟨cur, h4, by omega, by simpa using h8⟩
  obtain ⟨zs, hzl, hcl⟩ := run_clear_row (P := Tryz.prog) 28 35 Tryz.underlying28 zeroBl (size := 5) rfl (by simp [Value.cells, Value.oneCell']) hg6 ((i + k) * 5) 1 (by omega) (by omega)
  have hfin : RowAt (w6.setRow g (cur.toList.take ((i + k) * 5) ++ zs ++ cur.toList.drop ((i + k) * 5 + zs.length)).toArray) 35 5 (.slice (some ⟨g, 0, none⟩) (i + k) c) (i + k) (flatB (l.eraseIdx i)) ∧ Fr [g] w (w6.setRow g (cur.toList.take ((i + k) * 5) ++ zs ++ cur.toList.drop ((i + k) * 5 + zs.length)).toArray) := by
    refine ⟨⟨hr6.1, .inr ⟨g, 0, c, _, rfl, setRow_heap w6 g cur _ _ _ hg6, by omega, by unfold maxLen; omega, ?_, ?_⟩⟩, ?_⟩
    · simp only [List.size_toArray, List.length_append, List.length_take, List.length_drop, Array.length_toList, hzl]
      omega
    · simp only [List.drop_zero, List.append_assoc]
      rw [List.take_append_of_le_length (by rw [List.length_take, Array.length_toList]; omega), List.take_take, Nat.min_self]
      exact ht6
    · exact ((((Fr.refl [g] w).drew).trans hF6 (fun x hx => .inl hx))).trans fr_setRow (fun x hx => .inl hx)
  have HFIN := Lib.hid hfin
  clear hr6 hF6 hs6 hg6 hcs6 ht6 hzl hfin
  go_wp2
  have hf := HFIN.out
  simp only [List.append_assoc] at hf
  exact hR.out _ _ ⟨rfl, hf⟩
end Go.Np.Tryz
set_option linter.unusedVariables false
set_option linter.unusedSimpArgs false
namespace Go.Np
open Go.RowKit
def put5 (w : World) (b : Nat) (u0 u1 u2 u3 u4 : Value) : World := (((((w.setCell ⟨b, 0, none⟩ u0).setCell ⟨b, 1, none⟩ u1).setCell ⟨b, 2, none⟩ u2).setCell ⟨b, 3, none⟩ u3).setCell ⟨b, 4, none⟩ u4)
theorem put5_fr {S : List Nat} {w0 w : World} {b : Nat} (h : Fr S w0 w) (hb : b ∈ S ∨ w0.heap.size ≤ b) (u0 u1 u2 u3 u4 : Value) : Fr S w0 (put5 w b u0 u1 u2 u3 u4) :=
  ((((h.setCell hb _).setCell hb _).setCell hb _).setCell hb _).setCell hb _
theorem put5_heap {w : World} {b : Nat} {x0 x1 x2 x3 x4 : Value} {t : TypeId} (h : w.heap[b]? = some (.cells #[x0, x1, x2, x3, x4] t (0, 0))) (u0 u1 u2 u3 u4 : Value) :
    (put5 w b u0 u1 u2 u3 u4).heap[b]? = some (.cells #[u0, u1, u2, u3, u4] t (0, 0)) := five_put h u0 u1 u2 u3 u4
end Go.Np
namespace Go.Np.Tryz
open Go.RowKit Go.Proofs Go.Proofs.YtlllhpnpgcphcaaGreat.PX Go.Proofs.YtlllhpnpgcphcaaGreatW.PrintWords
theorem TrIn.txs {X : Nat → Prop} {w w' : World} {p b : Nat} {t : Tr} {v : Value} {ds : List (BV × Kn)} {qs : List BV} (h : TrIn X w p t b v ds qs) (hf : Fr (p :: v.ownBlock.toList) w w') {q : BV} (hq : TxsAt X w q) : TxsAt X w' q := hq.fr hf (fun k hk hm => by
    rcases List.mem_cons.1 hm with hm | hm
    · subst hm; exact hq.ne h.hp (by decide) hk
    · obtain ⟨cur, hc⟩ := h.hv.obj k hm
      exact hq.ne hc (by decide) hk)
set_option maxHeartbeats 4000000 in
set_option maxRecDepth 100000 in
theorem take_none {X : Nat → Prop} {w : World} {p : Nat} {t : Tr} (h : TrAt X w p t) (hl : t.wait.length ≤ 100000) (hn : t.wait.findIdx? t.ready = none) :
    Calls Tryz.prog 75 #[.pointer (some ⟨p, 1, none⟩), .func (.func 72) #[.pointer (some ⟨p, 0, none⟩)] #[]] w fun e w' => e = .returned (.tuple #[.agg #[.int .i64 0, .int .i64 0, .int .i64 0, .int .i64 0, .slice none 0 0], .bool false]) ∧ Fr [] w w' := by
  obtain ⟨b, v, ds, qs, h⟩ := h
  obtain ⟨A, c, rfl, hc⟩ := h.hv.form
  refine calls_k fun R hR => ?_
  obtain ⟨W, hW⟩ : ∃ W, W = w.alloc (.cells #[.int .i64 0, .int .i64 0, .int .i64 0, .int .i64 0, .slice none 0 0] 35) := ⟨_, rfl⟩
  obtain ⟨g, hg⟩ : ∃ g, g = w.heap.size := ⟨_, rfl⟩
  have hF : Fr [] w W := by rw [hW]; exact (Fr.refl _ _).alloc _
  have hbl : W.heap[g]? = some (.cells #[.int .i64 0, .int .i64 0, .int .i64 0, .int .i64 0, .slice none 0 0] 35 (0, 0)) := by rw [hW, hg]; exact heap_alloc_new _ _
  have h1 := h.fr0 hF
  have hc1 := cell_of h1.hp 1
  simp at hc1
  have hlq : qs.length ≤ 100000 := by have := congrArg List.length h.hqs; simp at this; omega
  have HI := Lib.hid (index_calls h1 hlq)
  have hidx : idxP t = -1 := by unfold idxP; rw [hn]
  rw [hidx] at HI
  have HB := Lib.hid hbl
  have HF := Lib.hid hF
  have hgw : w.heap.size ≤ g := Nat.le_of_eq hg.symm
  clear h h1 hbl hF hn hidx hl hlq
  go_enter Tryz.func75, Tryz.ntmps75
  go_upto_region 1 with (fail)
  rw [← hW, ← hg]
  clear hW hg
  go_wp2_with (go_at_call 95; refine HI.out.mono ?_; rintro e w1 ⟨rfl, h3⟩; have hb2 := (h3.block _ (Array.getElem?_eq_some_iff.1 HB.out).1 (by simp)).trans HB.out; have f0 := cell_of hb2 0; have f1 := cell_of hb2 1; have f2 := cell_of hb2 2; have f3 := cell_of hb2 3; have f4 := cell_of hb2 4; simp at f0 f1 f2 f3 f4; have z0 := froz_of hb2 0; have z1 := froz_of hb2 1; have z2 := froz_of hb2 2; have z3 := froz_of hb2 3; have z4 := froz_of hb2 4; have HB2 := Lib.hid hb2; have H3 := Lib.hid h3; clear hb2 h3 hc1)
  have hb3 := put5_heap HB2.out (.int .i64 0) (.int .i64 0) (.int .i64 0) (.int .i64 0) (.slice none 0 0)
  have hf3 := put5_fr (HF.out.trans H3.out (by simp)) (.inr hgw) (.int .i64 0) (.int .i64 0) (.int .i64 0) (.int .i64 0) (.slice none 0 0)
  unfold put5 at hb3 hf3
  refine bodyPost_ret (results_ct rfl _ _ g 35 _ (0, 0) _ rfl hb3 Tryz.underlying35 rfl (by kernel_rfl)) rfl ?_
  refine hR.out _ _ ⟨by simp, ?_⟩
  exact hf3
set_option maxHeartbeats 4000000 in
set_option maxRecDepth 100000 in
theorem take_some {X : Nat → Prop} {w : World} {p i : Nat} {t : Tr} (h : TrAt X w p t) (hl : t.wait.length ≤ 100000) (hn : t.wait.findIdx? t.ready = some i) (hXw : ∀ k, X k → k < w.heap.size) :
    Calls Tryz.prog 75 #[.pointer (some ⟨p, 1, none⟩), .func (.func 72) #[.pointer (some ⟨p, 0, none⟩)] #[]] w fun e w' => ∃ q : BV, e = .returned (.tuple #[blkV q.b q.A q.c, .bool true]) ∧ t.wait[i]? = some q.b ∧ TxsAt X w' q ∧ TrAt X w' p ⟨t.known, t.wait.eraseIdx i⟩ ∧ FrX X w w' := by
  obtain ⟨b, v, ds, qs, h⟩ := h
  obtain ⟨A, c, rfl, hc⟩ := h.hv.form
  refine calls_k fun R hR => ?_
  have hiw : i < t.wait.length := by
    rw [List.findIdx?_eq_some_iff_getElem] at hn
    exact hn.1
  have hlen : qs.length = t.wait.length := by have := congrArg List.length h.hqs; simpa using this
  have hil : i < qs.length := by omega
  obtain ⟨q, hq⟩ : ∃ q, qs[i]? = some q := ⟨_, List.getElem?_eq_getElem hil⟩
  have hwq : t.wait[i]? = some q.b := by rw [← h.hqs, List.getElem?_map, hq]; rfl
  obtain ⟨k, HK⟩ : ∃ k, Hid (qs.length = i + 1 + k) := ⟨qs.length - (i + 1), by unfold Hid; omega⟩
  obtain ⟨W, hW⟩ : ∃ W, W = w.alloc (.cells #[.int .i64 0, .int .i64 0, .int .i64 0, .int .i64 0, .slice none 0 0] 35) := ⟨_, rfl⟩
  obtain ⟨g, hg⟩ : ∃ g, g = w.heap.size := ⟨_, rfl⟩
  have hF : Fr [] w W := by rw [hW]; exact (Fr.refl _ _).alloc _
  have hbl : W.heap[g]? = some (.cells #[.int .i64 0, .int .i64 0, .int .i64 0, .int .i64 0, .slice none 0 0] 35 (0, 0)) := by rw [hW, hg]; exact heap_alloc_new _ _
  have h1 := h.fr0 hF
  have hc1 := cell_of h1.hp 1
  simp at hc1
  have hlq : qs.length ≤ 100000 := by omega
  have HI := Lib.hid (index_calls h1 hlq)
  have hidx : idxP t = i := by unfold idxP; rw [hn]
  rw [hidx] at HI
  have HB := Lib.hid hbl
  have HF := Lib.hid hF
  have HH := Lib.hid h
  have HWQ := Lib.hid hwq
  have HQ := Lib.hid hq
  have hgw : w.heap.size ≤ g := Nat.le_of_eq hg.symm
  have hgp : p < g := by rw [hg]; exact h.plt
  have hltI : (i : Int) < (qs.length : Int) := by omega
  clear h h1 hbl hF hn hidx hl hiw hlen hwq hq hil
  go_enter Tryz.func75, Tryz.ntmps75
  go_upto_region 1 with (fail)
  rw [← hW, ← hg]
  clear hW hg
  go_upto_region 4 with (go_at_call 95; refine HI.out.mono ?_; rintro e w1 ⟨rfl, h3⟩; have hb2 := (h3.block _ (Array.getElem?_eq_some_iff.1 HB.out).1 (by simp)).trans HB.out; have f0 := cell_of hb2 0; have f1 := cell_of hb2 1; have f2 := cell_of hb2 2; have f3 := cell_of hb2 3; have f4 := cell_of hb2 4; simp at f0 f1 f2 f3 f4; have z0 := froz_of hb2 0; have z1 := froz_of hb2 1; have z2 := froz_of hb2 2; have z3 := froz_of hb2 3; have z4 := froz_of hb2 4; have hc2 := cellF h3 hc1; have HB2 := Lib.hid hb2; have H3 := Lib.hid h3; clear hb2 h3 hc1)
  have hr1 := HH.out.fr0 (HF.out.trans H3.out (by simp))
  obtain ⟨ad, rfl, c0, c1, c2, c3, c4⟩ := Go.Np.Tryz.RowAt.blk hr1.hv i q HQ.out
  obtain ⟨W2, hW2⟩ : ∃ W2, W2 = put5 w1 g (.int .i64 q.b.f0) (.int .i64 q.b.f1) (.int .i64 q.b.f2) (.int .i64 q.b.f3) (.slice q.A q.b.f4.length q.c) := ⟨_, rfl⟩
  have hbl2 : W2.heap[g]? = some (.cells #[.int .i64 q.b.f0, .int .i64 q.b.f1, .int .i64 q.b.f2, .int .i64 q.b.f3, .slice q.A q.b.f4.length q.c] 35 (0, 0)) := by rw [hW2]; exact put5_heap HB2.out _ _ _ _ _
  have hF2 : Fr [] w W2 := by rw [hW2]; exact put5_fr (HF.out.trans H3.out (by simp)) (.inr hgw) _ _ _ _ _
  have h2 := HH.out.fr0 hF2
  have d1 := cell_of h2.hp 1
  simp at d1
  have HCL := Lib.hid (clone_blk qs h2.hv hlq)
  have HF2 := Lib.hid hF2
  have HBL2 := Lib.hid hbl2
  have HH2 := Lib.hid h2
  unfold put5 at hW2
  clear hr1 hbl2 hF2 h2
  go_upto_region 5 with (fail)
  rw [← hW2]
  clear hW2 c0 c1 c2 c3 c4 f0 f1 f2 f3 f4 z0 z1 z2 z3 z4 hc2
  have hgs := (Array.getElem?_eq_some_iff.1 HBL2.out).1
  have hk1 := HK.out
  have HSM : Hid (i + 1 + k ≤ 100000) := by unfold Hid; omega
  clear hk1
  go_upto_region 6 with (first
    | (go_at_call 97; refine HCL.out.mono ?_; rintro e w3 ⟨A3, cc3, rfl, ho3, hn3, hF3⟩
       obtain ⟨g3, rfl, hg3⟩ : ∃ g3, A3 = some ⟨g3, 0, none⟩ ∧ W2.heap.size ≤ g3 := by
         have hk1 := HK.out
         rcases ho3.2 with ⟨h5, h6⟩ | ⟨g3, cap, cur, h5, _⟩
         · omega
         · injection h5 with h5 _ _
           subst h5
           exact ⟨g3, rfl, hn3 g3 (by simp [Value.ownBlock])⟩
       have hdel := delete_blk (i := i) (k := k) (by have := RowAt.of_own ho3; rw [HK.out] at this; exact this) HK.out HSM.out
       rw [← HK.out] at hdel
       have HD := Lib.hid hdel
       have HF3 := Lib.hid hF3
       clear hF3 hn3 ho3 hdel)
    | (go_at_call 96; refine HD.out.mono ?_; rintro e w4 ⟨rfl, hr4, hF4⟩
       have hps : p < W2.heap.size := by omega
       have hp4 := (hF4.block p (Nat.lt_of_lt_of_le hps HF3.out.size) (by simp; omega)).trans ((HF3.out.block p hps (by simp)).trans HH2.out.hp)
       have n1 := cell_of hp4 1
       have y1 := froz_of hp4 1
       simp at n1
       have HP4 := Lib.hid hp4
       have HF4 := Lib.hid hF4
       have HR4 := Lib.hid hr4
       clear hp4 hF4 hr4 hps))
  obtain ⟨W5, hW5⟩ : ∃ W5, W5 = w4.setCell ⟨p, 1, none⟩ (.slice (some ⟨g3, 0, none⟩) (i + k) cc3) := ⟨_, rfl⟩
  have hbl5 : W5.heap[g]? = some (.cells #[.int .i64 q.b.f0, .int .i64 q.b.f1, .int .i64 q.b.f2, .int .i64 q.b.f3, .slice q.A q.b.f4.length q.c] 35 (0, 0)) := by
    rw [hW5]
    refine (set_far w4 (a := ⟨p, 1, none⟩) (by show g ≠ p; omega) _).trans ?_
    exact (HF4.out.block g (Nat.lt_of_lt_of_le hgs HF3.out.size) (by simp; omega)).trans ((HF3.out.block g hgs (by simp)).trans HBL2.out)
  have hp5 : W5.heap[p]? = some (.cells #[.map (some b), .slice (some ⟨g3, 0, none⟩) (i + k) cc3] 88 (0, 0)) := by
    have := obj_set HP4.out 1 (.slice (some ⟨g3, 0, none⟩) (i + k) cc3)
    rw [hW5]; simpa using this
  have hF5 : Fr (p :: (Value.slice (some ad) qs.length c).ownBlock.toList) w W5 := by
    rw [hW5]
    refine Fr.setCell ?_ (.inl (by simp)) _
    have h23 : Fr [] w w3 := HF2.out.trans HF3.out (by simp)
    exact ((h23.mono (by simp)).trans HF4.out (fun x hx => .inr (by simp at hx; subst hx; exact Nat.le_trans HF2.out.size hg3)))
  have hr5 : RowAt W5 35 5 (.slice (some ⟨g3, 0, none⟩) (i + k) cc3) (i + k) (flatB (qs.eraseIdx i)) := by
    rw [hW5]
    exact HR4.out.fr ((Fr.refl [p] w4).setCell (p := ⟨p, 1, none⟩) (.inl (by simp)) _) (fun k' hk' hm => HR4.out.ne_obj HP4.out (by decide) (by simp at hm; rw [← hm]; exact hk'))
  have f0 := cell_of hbl5 0
  have f1 := cell_of hbl5 1
  have f2 := cell_of hbl5 2
  have f3 := cell_of hbl5 3
  have f4 := cell_of hbl5 4
  simp at f0 f1 f2 f3 f4
  have z0 := froz_of hbl5 0
  have z1 := froz_of hbl5 1
  have z2 := froz_of hbl5 2
  have z3 := froz_of hbl5 3
  have z4 := froz_of hbl5 4
  have HBL5 := Lib.hid hbl5
  have HP5 := Lib.hid hp5
  have HF5 := Lib.hid hF5
  have HR5 := Lib.hid hr5
  clear hbl5 hp5 hF5 hr5
  rw [← hW5]
  clear hW5 n1 y1 d1
  go_wp2
  have hb6 := put5_heap HBL5.out (.int .i64 q.b.f0) (.int .i64 q.b.f1) (.int .i64 q.b.f2) (.int .i64 q.b.f3) (.slice q.A q.b.f4.length q.c)
  have hf6 := put5_fr HF5.out (.inr hgw) (.int .i64 q.b.f0) (.int .i64 q.b.f1) (.int .i64 q.b.f2) (.int .i64 q.b.f3) (.slice q.A q.b.f4.length q.c)
  have hf56 := put5_fr (b := g) (Fr.refl [g] W5) (.inl (by simp)) (.int .i64 q.b.f0) (.int .i64 q.b.f1) (.int .i64 q.b.f2) (.int .i64 q.b.f3) (.slice q.A q.b.f4.length q.c)
  unfold put5 at hb6 hf6 hf56
  refine bodyPost_ret (results_ct rfl _ _ g 35 _ (0, 0) _ rfl hb6 Tryz.underlying35 rfl (by kernel_rfl)) rfl ?_
  have hlen6 : (qs.eraseIdx i).length = i + k := by
    have hk1 := HK.out
    rw [List.length_eraseIdx]
    rw [if_pos (by omega)]; omega
  have hg3g : g3 ≠ g := by omega
  have hp6 := (hf56.block p (by have := (Array.getElem?_eq_some_iff.1 HP5.out).1; exact this) (by simp; omega)).trans HP5.out
  have hr6 := HR5.out.fr hf56 (fun k' hk' hm => by simp [Value.ownBlock] at hk' hm; omega)
  have hset := HH.out.setQ (qs' := qs.eraseIdx i) hf6 hp6 (by rw [hlen6]; exact hr6) (fun r hr => HH.out.hq r (List.mem_of_mem_eraseIdx hr)) (fun k' hk' hx => by
    have h7 := hXw k' hx
    simp [Value.ownBlock] at hk'
    have := HF2.out.size
    omega)
  have hwe : (qs.eraseIdx i).map (·.b) = t.wait.eraseIdx i := by rw [← HH.out.hqs, List.eraseIdx_eq_take_drop_succ, List.eraseIdx_eq_take_drop_succ, List.map_append, List.map_take, List.map_drop]
  rw [hwe] at hset
  refine hR.out _ _ ⟨q, by simp [blkV], HWQ.out, HH.out.txs hf6 (HH.out.hq q (List.mem_of_getElem? HQ.out)), ⟨_, _, _, _, hset⟩, ⟨_, hf6, ?_⟩⟩
  intro k' hk'
  rcases List.mem_cons.1 hk' with h1 | h1
  · rw [h1]; exact HH.out.hX.1
  · exact HH.out.hX.2.2 k' h1
end Go.Np.Tryz
set_option linter.unusedVariables false
set_option linter.unusedSimpArgs false
namespace Go.Np.Tryz
open Go.RowKit Go.Proofs Go.Proofs.YtlllhpnpgcphcaaGreat.PX Go.Proofs.YtlllhpnpgcphcaaGreatW.PrintWords
structure Tr.Good (t : Tr) : Prop where
  ok : t.Ok
  wl : t.wait.length ≤ 16
  short : ∀ e ∈ t.known, e.way.length ≤ t.known.length
theorem Tr.Good.path {t : Tr} (h : t.Good) (n : Int) : (t.path n).length ≤ t.known.length := by
  unfold Tr.path
  cases hf : t.find n with
  | none => simp
  | some e => exact h.short e (Tr.find_some hf).1
theorem Tr.Good.path400 {t : Tr} (h : t.Good) (n : Int) : (t.path n).length ≤ 400 := Nat.le_trans (h.path n) h.ok.few
theorem Tr.find_known {t s : Tr} (h : t.known = s.known) (n : Int) : t.find n = s.find n := by unfold Tr.find; rw [h]
theorem Tr.has_known {t s : Tr} (h : t.known = s.known) (n : Int) : t.has n = s.has n := by unfold Tr.has; rw [Tr.find_known h]
theorem Tr.path_known {t s : Tr} (h : t.known = s.known) (n : Int) : t.path n = s.path n := by unfold Tr.path; rw [Tr.find_known h]
theorem Tr.ready_known {t s : Tr} (h : t.known = s.known) (b : Blk) : t.ready b = s.ready b := by unfold Tr.ready; rw [Tr.has_known h]
theorem Tr.Good.wait {t : Tr} (h : t.Good) (l : List Blk) (hn : (l.map nameB).Nodup) (hd : ∀ b ∈ l, nameB b ≠ 0 ∧ nameB b ∉ t.known.map (·.name)) (hl : l.length ≤ 16) : (⟨t.known, l⟩ : Tr).Good := by
  have hk : (⟨t.known, l⟩ : Tr).known = t.known := rfl
  refine ⟨⟨?_, ?_, fun b hb => (hd b hb).1, h.ok.few⟩, hl, h.short⟩
  · have h1 := h.ok.nodup
    rw [List.nodup_append] at h1 ⊢
    refine ⟨h1.1, hn, fun x hx y hy => ?_⟩
    obtain ⟨b, hb, rfl⟩ := List.mem_map.1 hy
    intro he
    exact (hd b hb).2 (he ▸ hx)
  · intro e he
    obtain ⟨a1, a2, a3, a4⟩ := h.ok.known e he
    exact ⟨a1, a2, a3.imp id (fun x => by rw [Tr.has_known hk]; exact x), by rw [Tr.path_known hk]; exact a4⟩
theorem Tr.Good.waits {t : Tr} (h : t.Good) : (t.wait.map nameB).Nodup ∧ ∀ b ∈ t.wait, nameB b ≠ 0 ∧ nameB b ∉ t.known.map (·.name) := by
  have h1 := h.ok.nodup
  rw [List.nodup_append] at h1
  exact ⟨h1.2.1, fun b hb => ⟨h.ok.wait b hb, fun hm => h1.2.2 _ hm _ (List.mem_map.2 ⟨b, hb, rfl⟩) rfl⟩⟩
theorem Tr.Good.erase {t : Tr} (h : t.Good) (i : Nat) : (⟨t.known, t.wait.eraseIdx i⟩ : Tr).Good := by
  obtain ⟨h1, h2⟩ := h.waits
  refine h.wait _ ((h1.sublist ((List.eraseIdx_sublist _ _).map _))) (fun b hb => h2 b (List.mem_of_mem_eraseIdx hb)) (Nat.le_trans (List.length_eraseIdx_le _ _) h.wl)
theorem Tr.Good.push {t : Tr} (h : t.Good) {b : Blk} (hb : nameB b ≠ 0) (hk : t.has (nameB b) = false) (hw : nameB b ∉ t.wait.map nameB) : (⟨t.known, (t.wait ++ [b]).drop (t.wait.length + 1 - 16)⟩ : Tr).Good := by
  obtain ⟨h1, h2⟩ := h.waits
  have hk' : nameB b ∉ t.known.map (·.name) := by rw [← Tr.has_iff, hk]; simp
  refine h.wait _ (List.Nodup.sublist ((List.drop_sublist _ _).map _) ?_) (fun c hc => ?_) ?_
  · rw [List.map_append, List.nodup_append]
    refine ⟨h1, by simp, fun x hx y hy => ?_⟩
    simp at hy
    subst hy
    intro he; subst he; exact hw hx
  · rcases List.mem_append.1 (List.mem_of_mem_drop hc) with hc | hc
    · exact h2 c hc
    · have : c = b := by simpa using hc
      rw [this]; exact ⟨hb, hk'⟩
  · have := h.wl
    rw [List.length_drop, List.length_append]
    simp only [List.length_cons, List.length_nil]
    omega
theorem Tr.Good.grow {t : Tr} (h : t.Good) {b : Blk} (hn : nameB b ≠ 0) (hr : t.ready b = true) (hk : t.has (nameB b) = false) (hw : nameB b ∉ t.wait.map nameB) (hm : t.room = true) : (t.grow b).Good := by
  have hm' : t.known.length < 400 := by simpa [Tr.room] using hm
  refine ⟨h.ok.grow hn hr hk hw hm', h.wl, fun e he => ?_⟩
  have hl : (t.grow b).known.length = t.known.length + 1 := by simp [Tr.grow]
  rw [hl]
  have he' : e ∈ t.known ∨ e = ⟨nameB b, b, t.path b.f3 ++ [nameB b]⟩ := by simpa [Tr.grow] using he
  rcases he' with he' | rfl
  · exact Nat.le_succ_of_le (h.short e he')
  · have := h.path b.f3
    simp; omega
theorem Tr.Good.taken {t : Tr} (h : t.Good) {i : Nat} {b : Blk} (hb : t.wait[i]? = some b) : nameB b ≠ 0 ∧ t.has (nameB b) = false ∧ nameB b ∉ (t.wait.eraseIdx i).map nameB := by
  obtain ⟨h1, h2⟩ := h.waits
  have hm := List.mem_of_getElem? hb
  refine ⟨(h2 b hm).1, ?_, ?_⟩
  · rw [← Bool.not_eq_true, Tr.has_iff]; exact (h2 b hm).2
  · intro hc
    have hi := (List.getElem?_eq_some_iff.1 hb).1
    have e : t.wait = t.wait.take i ++ b :: t.wait.drop (i + 1) := by
      conv => lhs; rw [← List.take_append_drop i t.wait]
      rw [List.drop_eq_getElem_cons hi, (List.getElem?_eq_some_iff.1 hb).2]
    rw [List.eraseIdx_eq_take_drop_succ] at hc
    rw [e, List.map_append, List.map_cons, List.nodup_append] at h1
    obtain ⟨n1, n2, n3⟩ := h1
    rw [List.map_append, List.mem_append] at hc
    rcases hc with hc | hc
    · exact n3 _ hc (nameB b) (by simp) rfl
    · exact (List.nodup_cons.1 n2).1 hc
theorem Tr.settle_none {k : Nat} {t : Tr} {out : List Int} (h : t.wait.findIdx? t.ready = none) : Tr.settle (k + 1) t out = (t, out) := by
  unfold Tr.settle; rw [h]
theorem Tr.settle_some {k i : Nat} {t : Tr} {out : List Int} {b : Blk} (h : t.wait.findIdx? t.ready = some i) (hb : t.wait[i]? = some b) : Tr.settle (k + 1) t out =
    if (⟨t.known, t.wait.eraseIdx i⟩ : Tr).room then Tr.settle k ((⟨t.known, t.wait.eraseIdx i⟩ : Tr).grow b) (out ++ [nameB b]) else Tr.settle k ⟨t.known, t.wait.eraseIdx i⟩ out := by
  conv => lhs; unfold Tr.settle
  rw [h]
  simp only [List.getD_eq_getElem?_getD, hb, Option.getD_some]
theorem Tr.ready_at {t : Tr} {i : Nat} {b : Blk} (h : t.wait.findIdx? t.ready = some i) (hb : t.wait[i]? = some b) : t.ready b = true := by
  rw [List.findIdx?_eq_some_iff_getElem] at h
  obtain ⟨hi, h1, _⟩ := h
  rw [(List.getElem?_eq_some_iff.1 hb).2] at h1
  exact h1
theorem Tr.settle_good : ∀ (k : Nat) (t : Tr) (out : List Int), t.Good → (Tr.settle k t out).1.Good
  | 0, t, out, h => h
  | k + 1, t, out, h => by
    cases hf : t.wait.findIdx? t.ready with
    | none => rw [Tr.settle_none hf]; exact h
    | some i =>
      have hi : i < t.wait.length := (List.findIdx?_eq_some_iff_getElem.1 hf).1
      have hb := List.getElem?_eq_getElem hi
      rw [Tr.settle_some hf hb]
      obtain ⟨a1, a2, a3⟩ := h.taken hb
      have he := h.erase i
      split
      · rename_i hr
        exact Tr.settle_good k _ _ (he.grow a1 ((Tr.ready_known (s := t) rfl _).trans (Tr.ready_at hf hb)) ((Tr.has_known (s := t) rfl _).trans a2) a3 hr)
      · exact Tr.settle_good k _ _ he
theorem Tr.add_good {t : Tr} (h : t.Good) (b : Blk) : (t.add b).1.Good := by
  unfold Tr.add
  split
  · exact h
  · rename_i h0
    have h0' : nameB b ≠ 0 ∧ t.has (nameB b) = false ∧ nameB b ∉ t.wait.map nameB := by
      refine ⟨fun e => h0 (.inl e), ?_, fun e => h0 (.inr (.inr e))⟩
      rw [← Bool.not_eq_true]; exact fun e => h0 (.inr (.inl e))
    split
    · exact h.push h0'.1 h0'.2.1 h0'.2.2
    · rename_i hr
      split
      · exact h
      · rename_i hm
        exact Tr.settle_good _ _ _ (h.grow h0'.1 (by simpa using hr) h0'.2.1 h0'.2.2 (by simpa using hm))
theorem Tr.empty_good : (⟨[], []⟩ : Tr).Good := ⟨⟨by simp, by simp, by simp, by simp⟩, by simp, by simp⟩
theorem index_ev (l : List Int) (x : Int) (hl : l.length < 1000000000) : ∀ (n j : Nat), j + n = l.length → (∀ i, i < j → l.getD i 0 ≠ x) → ∀ k, n + 1 ≤ k → ∃ r, slices_Index_int_int.l0 k l x (l.length : Int) (j : Int) = some r ∧ (r ≥ 0 ↔ x ∈ l)
  | 0, j, hj, hp, k, hk => by
    obtain ⟨k, rfl⟩ : ∃ j, k = j + 1 := ⟨k - 1, by omega⟩
    unfold slices_Index_int_int.l0
    rw [if_neg (by omega)]
    refine ⟨_, rfl, ⟨fun h => absurd h (by decide), fun h => ?_⟩⟩
    obtain ⟨i, hi, he⟩ := List.mem_iff_getElem.1 h
    exact absurd (by simp [List.getD_eq_getElem?_getD, hi, he]) (hp i (by omega))
  | n + 1, j, hj, hp, k, hk => by
    obtain ⟨k, rfl⟩ : ∃ j, k = j + 1 := ⟨k - 1, by omega⟩
    unfold slices_Index_int_int.l0
    rw [if_pos (by omega), if_pos (by omega), if_pos (by omega)]
    have hrd : rd l (j : Int) = l.getD j 0 := by simp [rd]
    rw [hrd]
    by_cases h : x = l.getD j 0
    · rw [if_pos h]
      refine ⟨_, rfl, ⟨fun _ => ?_, fun _ => by omega⟩⟩
      rw [h, List.getD_eq_getElem?_getD, List.getElem?_eq_getElem (show j < l.length by omega)]
      exact List.getElem_mem _
    · rw [if_neg h, wr_in _ (by omega)]
      exact index_ev l x hl n (j + 1) (by omega) (fun i hi => by
        by_cases he : i = j
        · subst he; exact fun e => h e.symm
        · exact hp i (by omega)) k (by omega)
theorem contains_calls {w : World} {v : Value} {l : List Int} (x : Int) (h : SlI w v l) (hl : l.length < 1000000000) :
    Calls Tryz.prog 39 #[v, .int .i64 x] w fun e w' => e = .returned (.bool (decide (x ∈ l))) ∧ Fr [] w w' := by
  obtain ⟨A, c, rfl, hc, hC⟩ := h
  obtain ⟨r, h1, h2⟩ := index_ev l x hl l.length 0 (by omega) (by simp) (l.length + 1) (by omega)
  have hf : slices_Contains_int_int.f (l.length + 1) l x = some (decide (x ∈ l)) := by
    unfold slices_Contains_int_int.f slices_Index_int_int.f
    rw [show slices_Index_int_int.l0 (l.length + 1) l x (l.length : Int) 0 = some r from h1]
    simp only [Option.bind_some, h2]
  refine (slices_Contains_int_int.calls (l.length + 1) A c l x _ w hC hc hf).mono ?_
  rintro e w' ⟨rfl, hd⟩
  exact ⟨rfl, Fr.of_below [] hd.below⟩
end Go.Np.Tryz
set_option linter.unusedVariables false
set_option linter.unusedSimpArgs false
namespace Go.Np.Tryz
open Go.RowKit Go.Proofs Go.Proofs.YtlllhpnpgcphcaaGreat.PX Go.Proofs.YtlllhpnpgcphcaaGreatW.PrintWords
def AddRes (X : Nat → Prop) (w : World) (p : Nat) (t : Tr) (b : Blk) (e : Ending) (w' : World) : Prop := ∃ v, e = .returned (.tuple #[v, .bool (t.add b).2.2]) ∧ OwnI w.heap.size w' v (t.add b).2.1 ∧ TrAt X w' p (t.add b).1 ∧ FrX X w w'
theorem AddRes.same {X : Nat → Prop} {w w' : World} {p : Nat} {t : Tr} {b : Blk} (h : TrAt X w p t) (hF : Fr [] w w') (ha : t.add b = (t, [], false)) : AddRes X w p t b (.returned (.tuple #[.slice none 0 0, .bool false])) w' := by
  unfold AddRes
  rw [ha]
  exact ⟨_, rfl, OwnI.nil _ _, h.fr hF, .of0 hF⟩
theorem Tr.add_refused {t : Tr} {b : Blk} (h : nameB b = 0 ∨ t.has (nameB b) = true ∨ nameB b ∈ t.wait.map nameB) : t.add b = (t, [], false) := by unfold Tr.add; rw [if_pos h]
set_option maxHeartbeats 4000000 in
set_option maxRecDepth 100000 in
theorem add_zero {X : Nat → Prop} {w : World} {p : Nat} {t : Tr} (h : TrAt X w p t) (hG : t.Good) (q : BV) (hC : k67.C w q.A q.b.f4.length q.b.f4) (hc : q.b.f4.length ≤ q.c) (hXw : ∀ k, X k → k < w.heap.size) (h0 : nameB q.b = 0) :
    Calls Tryz.prog 45 #[.pointer (some ⟨p, 0, none⟩), blkV q.b q.A q.c] w fun e w' => AddRes X w p t q.b e w' := by
  unfold blkV
  refine calls_k fun R hR => ?_
  obtain ⟨W, hW⟩ : ∃ W, W = w.alloc (.cells #[.int .i64 q.b.f0, .int .i64 q.b.f1, .int .i64 q.b.f2, .int .i64 q.b.f3, .slice q.A q.b.f4.length q.c] 35) := ⟨_, rfl⟩
  obtain ⟨g, hg⟩ : ∃ g, g = w.heap.size := ⟨_, rfl⟩
  have hF : Fr [] w W := by rw [hW]; exact (Fr.refl _ _).alloc _
  have hsz : W.heap.size = g + 1 := by rw [hW, hg]; simp
  have hbl : W.heap[g]? = some (.cells #[.int .i64 q.b.f0, .int .i64 q.b.f1, .int .i64 q.b.f2, .int .i64 q.b.f3, .slice q.A q.b.f4.length q.c] 35 (0, 0)) := by rw [hW, hg]; exact heap_alloc_new _ _
  have e0 := cell_of hbl 0
  have e1 := cell_of hbl 1
  have e2 := cell_of hbl 2
  have e3 := cell_of hbl 3
  have e4 := cell_of hbl 4
  simp at e0 e1 e2 e3 e4
  have hC1 := Kd.C_below hC hF.below
  have HN := Lib.hid (name_calls q.b q.A q.c hC1 hc)
  simp only [blkV] at HN
  have HT1 := Lib.hid (h.fr hF)
  have HF := Lib.hid hF
  have HBL := Lib.hid hbl
  have HC1 := Lib.hid hC1
  have hwl : t.wait.length ≤ 100000 := Nat.le_trans hG.wl (by decide)
  have hgw : w.heap.size ≤ g := Nat.le_of_eq hg.symm
  have HA := Lib.hid (Tr.add_refused (t := t) (.inl h0))
  rw [h0] at HN
  have HH := Lib.hid h
  clear h hC hG hF hbl hC1 h0
  go_enter Tryz.func45, Tryz.ntmps45
  go_upto_region 1 with (fail)
  rw [← hW, ← hg]
  clear hW hg
  go_wp2_with (go_at_call 70; refine HN.out.mono ?_; rintro e w2 ⟨rfl, hB2⟩)
  exact hR.out _ _ (AddRes.same HH.out (HF.out.trans (Fr.of_below [] hB2) (by simp)) HA.out)
set_option maxHeartbeats 4000000 in
set_option maxRecDepth 100000 in
theorem add_has {X : Nat → Prop} {w : World} {p : Nat} {t : Tr} (h : TrAt X w p t) (hG : t.Good) (q : BV) (hC : k67.C w q.A q.b.f4.length q.b.f4) (hc : q.b.f4.length ≤ q.c) (hXw : ∀ k, X k → k < w.heap.size) (h0 : nameB q.b ≠ 0) (h1 : t.has (nameB q.b) = true) :
    Calls Tryz.prog 45 #[.pointer (some ⟨p, 0, none⟩), blkV q.b q.A q.c] w fun e w' => AddRes X w p t q.b e w' := by
  unfold blkV
  refine calls_k fun R hR => ?_
  obtain ⟨W, hW⟩ : ∃ W, W = w.alloc (.cells #[.int .i64 q.b.f0, .int .i64 q.b.f1, .int .i64 q.b.f2, .int .i64 q.b.f3, .slice q.A q.b.f4.length q.c] 35) := ⟨_, rfl⟩
  obtain ⟨g, hg⟩ : ∃ g, g = w.heap.size := ⟨_, rfl⟩
  have hF : Fr [] w W := by rw [hW]; exact (Fr.refl _ _).alloc _
  have hsz : W.heap.size = g + 1 := by rw [hW, hg]; simp
  have hbl : W.heap[g]? = some (.cells #[.int .i64 q.b.f0, .int .i64 q.b.f1, .int .i64 q.b.f2, .int .i64 q.b.f3, .slice q.A q.b.f4.length q.c] 35 (0, 0)) := by rw [hW, hg]; exact heap_alloc_new _ _
  have e0 := cell_of hbl 0
  have e1 := cell_of hbl 1
  have e2 := cell_of hbl 2
  have e3 := cell_of hbl 3
  have e4 := cell_of hbl 4
  simp at e0 e1 e2 e3 e4
  have hC1 := Kd.C_below hC hF.below
  have HN := Lib.hid (name_calls q.b q.A q.c hC1 hc)
  simp only [blkV] at HN
  have HT1 := Lib.hid (h.fr hF)
  have HF := Lib.hid hF
  have HBL := Lib.hid hbl
  have HC1 := Lib.hid hC1
  have hwl : t.wait.length ≤ 100000 := Nat.le_trans hG.wl (by decide)
  have hgw : w.heap.size ≤ g := Nat.le_of_eq hg.symm
  have HA := Lib.hid (Tr.add_refused (t := t) (.inr (.inl h1)))
  have HH0 := Lib.hid h
  have h0b : (nameB q.b == 0) = false := by simpa using h0
  have HAS : Hid (∀ W, Fr [] w W → Calls Tryz.prog 61 #[.pointer (some ⟨p, 0, none⟩), .int .i64 (nameB q.b)] W fun e w' => e = .returned (.bool true) ∧ Fr [] W w') := by
    intro W hW
    have := has_calls (h.fr hW) (nameB q.b)
    rw [h1] at this
    exact this
  clear h hC hG hF hbl hC1 h0 h1
  go_enter Tryz.func45, Tryz.ntmps45
  go_upto_region 1 with (fail)
  rw [← hW, ← hg]
  clear hW hg
  go_wp2_with (first
    | (go_at_call 70; refine HN.out.mono ?_; rintro e w2 ⟨rfl, hB2⟩
       have HF2 := Lib.hid (HF.out.trans (Fr.of_below [] hB2) (by simp))
       clear hB2)
    | (go_at_call 61; refine (HAS.out _ HF2.out).mono ?_; rintro e w3 ⟨rfl, hF3⟩))
  exact hR.out _ _ (AddRes.same HH0.out (HF2.out.trans hF3 (by simp)) HA.out)
set_option maxHeartbeats 4000000 in
set_option maxRecDepth 100000 in
theorem add_waits {X : Nat → Prop} {w : World} {p : Nat} {t : Tr} (h : TrAt X w p t) (hG : t.Good) (q : BV) (hC : k67.C w q.A q.b.f4.length q.b.f4) (hc : q.b.f4.length ≤ q.c) (hXw : ∀ k, X k → k < w.heap.size) (h0 : nameB q.b ≠ 0) (h1 : t.has (nameB q.b) = false) (h2 : nameB q.b ∈ t.wait.map nameB) :
    Calls Tryz.prog 45 #[.pointer (some ⟨p, 0, none⟩), blkV q.b q.A q.c] w fun e w' => AddRes X w p t q.b e w' := by
  unfold blkV
  refine calls_k fun R hR => ?_
  obtain ⟨W, hW⟩ : ∃ W, W = w.alloc (.cells #[.int .i64 q.b.f0, .int .i64 q.b.f1, .int .i64 q.b.f2, .int .i64 q.b.f3, .slice q.A q.b.f4.length q.c] 35) := ⟨_, rfl⟩
  obtain ⟨g, hg⟩ : ∃ g, g = w.heap.size := ⟨_, rfl⟩
  have hF : Fr [] w W := by rw [hW]; exact (Fr.refl _ _).alloc _
  have hsz : W.heap.size = g + 1 := by rw [hW, hg]; simp
  have hbl : W.heap[g]? = some (.cells #[.int .i64 q.b.f0, .int .i64 q.b.f1, .int .i64 q.b.f2, .int .i64 q.b.f3, .slice q.A q.b.f4.length q.c] 35 (0, 0)) := by rw [hW, hg]; exact heap_alloc_new _ _
  have e0 := cell_of hbl 0
  have e1 := cell_of hbl 1
  have e2 := cell_of hbl 2
  have e3 := cell_of hbl 3
  have e4 := cell_of hbl 4
  simp at e0 e1 e2 e3 e4
  have hC1 := Kd.C_below hC hF.below
  have HN := Lib.hid (name_calls q.b q.A q.c hC1 hc)
  simp only [blkV] at HN
  have HT1 := Lib.hid (h.fr hF)
  have HF := Lib.hid hF
  have HBL := Lib.hid hbl
  have HC1 := Lib.hid hC1
  have hwl : t.wait.length ≤ 100000 := Nat.le_trans hG.wl (by decide)
  have hgw : w.heap.size ≤ g := Nat.le_of_eq hg.symm
  have HA := Lib.hid (Tr.add_refused (t := t) (.inr (.inr h2)))
  have HH0 := Lib.hid h
  have h0b : (nameB q.b == 0) = false := by simpa using h0
  have h1d : Hid (t.has (nameB q.b) = false) := h1
  have h2d : Hid (decide (nameB q.b ∈ t.wait.map nameB) = true) := decide_eq_true h2
  clear h hC hG hF hbl hC1 h0 h1 h2
  go_enter Tryz.func45, Tryz.ntmps45
  go_upto_region 1 with (fail)
  rw [← hW, ← hg]
  clear hW hg
  go_wp2_with (first
    | (go_at_call 70; refine HN.out.mono ?_; rintro e w2 ⟨rfl, hB2⟩
       have hF2 := Fr.of_below [] hB2
       have HH := Lib.hid (has_calls (HT1.out.fr hF2) (nameB q.b))
       have HF2 := Lib.hid hF2
       clear hF2 hB2 HN)
    | (go_at_call 61; rw [h1d.out] at HH; refine HH.out.mono ?_; rintro e w3 ⟨rfl, hF3⟩
       have hF13 := HF2.out.trans hF3 (by simp)
       have HWA := Lib.hid (waiting_calls (HT1.out.fr hF13) hwl)
       have HF3 := Lib.hid hF13
       clear hF3 hF13 HH)
    | (go_at_call 71; refine HWA.out.mono ?_; rintro e w4 ⟨v4, rfl, hO4, hF4⟩
       have hF14 := HF3.out.trans hF4 (by simp)
       have HCO := Lib.hid (contains_calls (nameB q.b) hO4.sl (by rw [List.length_map]; omega))
       have HF4 := Lib.hid hF14
       clear hF4 hF14 HWA hO4)
    | (go_at_call 39; rw [h2d.out] at HCO; refine HCO.out.mono ?_; rintro e w5 ⟨rfl, hF5⟩
       have HF5 := Lib.hid (HF4.out.trans hF5 (by simp))
       clear hF5 HCO))
  exact hR.out _ _ (AddRes.same HH0.out (HF.out.trans HF5.out (by simp)) HA.out)
theorem Tr.add_new {t : Tr} {b : Blk} (h0 : nameB b ≠ 0) (h1 : t.has (nameB b) = false) (h2 : nameB b ∉ t.wait.map nameB) : t.add b = (if t.ready b = false then (⟨t.known, (t.wait ++ [b]).drop (t.wait.length + 1 - 16)⟩, [], true)
  else if t.room = false then (t, [], false)
  else
    let r := Tr.settle (t.wait.length + 1) (t.grow b) [nameB b]
    (r.1, r.2, true)) := by
  unfold Tr.add
  rw [if_neg]
  rintro (h | h | h)
  · exact h0 h
  · rw [h1] at h; cases h
  · exact h2 h
set_option maxHeartbeats 4000000 in
set_option maxRecDepth 100000 in
theorem add_orphan {X : Nat → Prop} {w : World} {p : Nat} {t : Tr} (h : TrAt X w p t) (hG : t.Good) (q : BV) (hC : k67.C w q.A q.b.f4.length q.b.f4) (hc : q.b.f4.length ≤ q.c) (hXw : ∀ k, X k → k < w.heap.size) (h0 : nameB q.b ≠ 0) (h1 : t.has (nameB q.b) = false) (h2 : nameB q.b ∉ t.wait.map nameB) (hr : t.ready q.b = false) :
    Calls Tryz.prog 45 #[.pointer (some ⟨p, 0, none⟩), blkV q.b q.A q.c] w fun e w' => AddRes X w p t q.b e w' := by
  unfold blkV
  refine calls_k fun R hR => ?_
  obtain ⟨W, hW⟩ : ∃ W, W = w.alloc (.cells #[.int .i64 q.b.f0, .int .i64 q.b.f1, .int .i64 q.b.f2, .int .i64 q.b.f3, .slice q.A q.b.f4.length q.c] 35) := ⟨_, rfl⟩
  obtain ⟨g, hg⟩ : ∃ g, g = w.heap.size := ⟨_, rfl⟩
  have hF : Fr [] w W := by rw [hW]; exact (Fr.refl _ _).alloc _
  have hsz : W.heap.size = g + 1 := by rw [hW, hg]; simp
  have hbl : W.heap[g]? = some (.cells #[.int .i64 q.b.f0, .int .i64 q.b.f1, .int .i64 q.b.f2, .int .i64 q.b.f3, .slice q.A q.b.f4.length q.c] 35 (0, 0)) := by rw [hW, hg]; exact heap_alloc_new _ _
  have e0 := cell_of hbl 0
  have e1 := cell_of hbl 1
  have e2 := cell_of hbl 2
  have e3 := cell_of hbl 3
  have e4 := cell_of hbl 4
  simp at e0 e1 e2 e3 e4
  have hC1 := Kd.C_below hC hF.below
  have HN := Lib.hid (name_calls q.b q.A q.c hC1 hc)
  simp only [blkV] at HN
  have HT1 := Lib.hid (h.fr hF)
  have HF := Lib.hid hF
  have HBL := Lib.hid hbl
  have HC1 := Lib.hid hC1
  have hwl : t.wait.length ≤ 100000 := Nat.le_trans hG.wl (by decide)
  have hgw : w.heap.size ≤ g := Nat.le_of_eq hg.symm
  have hl3 : q.b.f4.length ≤ 8796093022208 := by
    have hr := (nameB_pos h0).1
    simp only [rightB, okTxs, unlikeB, Bool.and_eq_true, decide_eq_true_eq] at hr
    omega
  have HH0 := Lib.hid h
  have h0b : (nameB q.b == 0) = false := by simpa using h0
  have h1d : Hid (t.has (nameB q.b) = false) := h1
  have h2d : Hid (decide (nameB q.b ∈ t.wait.map nameB) = false) := decide_eq_false h2
  have H0 := Lib.hid h0
  have H1 := Lib.hid h1
  have H2 := Lib.hid h2
  have HG := Lib.hid hG
  have HADD := Lib.hid (Tr.add_new h0 h1 h2)
  clear h hC hG hF hbl hC1 h0 h1 h2
  have HR0 := Lib.hid hr
  have hadd := HADD.out
  rw [if_pos hr] at hadd
  unfold AddRes at hR
  rw [hadd] at hR
  clear hr hadd
  go_enter Tryz.func45, Tryz.ntmps45
  go_upto_region 1 with (fail)
  rw [← hW, ← hg]
  clear hW hg
  go_upto_region 4 with (first
    | (go_at_call 70; refine HN.out.mono ?_; rintro e w2 ⟨rfl, hB2⟩
       have hF2 := Fr.of_below [] hB2
       have HH := Lib.hid (has_calls (HT1.out.fr hF2) (nameB q.b))
       have HF2 := Lib.hid hF2
       clear hF2 hB2 HN)
    | (go_at_call 61; rw [h1d.out] at HH; refine HH.out.mono ?_; rintro e w3 ⟨rfl, hF3⟩
       have hF13 := HF2.out.trans hF3 (by simp)
       have HWA := Lib.hid (waiting_calls (HT1.out.fr hF13) hwl)
       have HF3 := Lib.hid hF13
       clear hF3 hF13 HH)
    | (go_at_call 71; refine HWA.out.mono ?_; rintro e w4 ⟨v4, rfl, hO4, hF4⟩
       have hF14 := HF3.out.trans hF4 (by simp)
       have HCO := Lib.hid (contains_calls (nameB q.b) hO4.sl (by rw [List.length_map]; omega))
       have HF4 := Lib.hid hF14
       clear hF4 hF14 HWA hO4)
    | (go_at_call 39; rw [h2d.out] at HCO; refine HCO.out.mono ?_; rintro e w5 ⟨rfl, hF5⟩
       have HF5 := Lib.hid (HF4.out.trans hF5 (by simp))
       clear hF5 HCO))
  replace e0 := cellF HF5.out e0
  replace e1 := cellF HF5.out e1
  replace e2 := cellF HF5.out e2
  replace e3 := cellF HF5.out e3
  replace e4 := cellF HF5.out e4
  have hbl5 := (HF5.out.block g (by omega) (by simp)).trans HBL.out
  have z0 := froz_of hbl5 0
  have z1 := froz_of hbl5 1
  have z2 := froz_of hbl5 2
  have z3 := froz_of hbl5 3
  have z4 := froz_of hbl5 4
  have HCP := Lib.hid (copy_calls q (Kd.C_below HC1.out HF5.out.below) hl3)
  simp only [blkV] at HCP
  have hsz5 := HF5.out.size
  have HB5 := Lib.hid hbl5
  clear hbl5 h1d h2d h0b
  go_upto_region 5 with (first
    | (go_at_call 15; refine HCP.out.mono ?_; rintro e w6 ⟨A6, c6, rfl, hr6, hn6, hF6⟩
       simp only [blkV]
       have hbl6 := (hF6.block g (by omega) (by simp)).trans HB5.out
       replace e0 := cellF hF6 e0
       replace e1 := cellF hF6 e1
       replace e2 := cellF hF6 e2
       replace e3 := cellF hF6 e3
       replace e4 := cellF hF6 e4
       replace z0 := froz_of hbl6 0
       replace z1 := froz_of hbl6 1
       replace z2 := froz_of hbl6 2
       replace z3 := froz_of hbl6 3
       replace z4 := froz_of hbl6 4
       have HR6 := Lib.hid hr6
       have HN6 := Lib.hid hn6
       have HF6 := Lib.hid hF6
       have HB6 := Lib.hid hbl6
       clear hr6 hn6 hF6 hbl6 HCP))
  obtain ⟨W7, hW7⟩ : ∃ W7, W7 = put5 w6 g (.int .i64 q.b.f0) (.int .i64 q.b.f1) (.int .i64 q.b.f2) (.int .i64 q.b.f3) (.slice A6 q.b.f4.length c6) := ⟨_, rfl⟩
  have hbl7 : W7.heap[g]? = some (.cells #[.int .i64 q.b.f0, .int .i64 q.b.f1, .int .i64 q.b.f2, .int .i64 q.b.f3, .slice A6 q.b.f4.length c6] 35 (0, 0)) := by rw [hW7]; exact put5_heap HB6.out _ _ _ _ _
  have hF7 : Fr [] w W7 := by rw [hW7]; exact put5_fr ((HF.out.trans HF5.out (by simp)).trans HF6.out (by simp)) (.inr hgw) _ _ _ _ _
  have hF67 : Fr [g] w6 W7 := by rw [hW7]; exact put5_fr (b := g) (Fr.refl [g] w6) (.inl (by simp)) _ _ _ _ _
  have hT7 : TxsAt (fun k => X k ∨ k = g) W7 ⟨q.b, A6, c6⟩ := by
    refine ⟨row_fr HR6.out hF67 (fun k hk hm => ?_), fun k hk hx => ?_⟩
    · have := HN6.out k hk
      simp at hm; omega
    · have := HN6.out k hk
      rcases hx with hx | hx
      · have := hXw k hx; omega
      · omega
  have hA7 : TrAt (fun k => X k ∨ k = g) W7 p t := (HH0.out.grow (fun k hx hl => by rcases hx with hx | hx; exact hx; omega)).fr hF7
  have hX7 : ∀ k, (X k ∨ k = g) → k < W7.heap.size := fun k hx => by
    have hs7 := (Array.getElem?_eq_some_iff.1 hbl7).1
    have hs8 := hF7.size
    rcases hx with hx | hx
    · have := hXw k hx; omega
    · omega
  have d0 := cell_of hbl7 0
  have d1 := cell_of hbl7 1
  have d2 := cell_of hbl7 2
  have d3 := cell_of hbl7 3
  have d4 := cell_of hbl7 4
  simp at d0 d1 d2 d3 d4
  have HRD := Lib.hid (ready_calls hA7 q.b A6 c6)
  simp only [blkV] at HRD
  have HB7 := Lib.hid hbl7
  have HF7 := Lib.hid hF7
  have HT7 := Lib.hid hT7
  have HA7 := Lib.hid hA7
  have HX7 := Lib.hid hX7
  unfold put5 at hW7
  rw [← hW7]
  clear hbl7 hF7 hF67 hT7 hA7 hX7 hW7 e0 e1 e2 e3 e4 z0 z1 z2 z3 z4
  go_upto_region 6 with (first
    | (go_at_call 72; rw [HR0.out] at HRD; refine HRD.out.mono ?_; rintro e w8 ⟨rfl, hF8⟩
       replace d0 := cellF hF8 d0
       replace d1 := cellF hF8 d1
       replace d2 := cellF hF8 d2
       replace d3 := cellF hF8 d3
       replace d4 := cellF hF8 d4
       have HF8 := Lib.hid hF8
       clear hF8 HRD))
  have HFD : Hid (Fr [] W7 w8.drew) := HF8.out.drew
  have hSD : w8.drew.cell? ⟨g, 0, none⟩ = some (.int .i64 q.b.f0) ∧ w8.drew.cell? ⟨g, 1, none⟩ = some (.int .i64 q.b.f1) ∧ w8.drew.cell? ⟨g, 2, none⟩ = some (.int .i64 q.b.f2) ∧ w8.drew.cell? ⟨g, 3, none⟩ = some (.int .i64 q.b.f3) ∧ w8.drew.cell? ⟨g, 4, none⟩ = some (.slice A6 q.b.f4.length c6) := ⟨d0, d1, d2, d3, d4⟩
  have HP : Hid (Calls Tryz.prog 73 #[.pointer (some ⟨p, 1, none⟩), .agg #[.int .i64 q.b.f0, .int .i64 q.b.f1, .int .i64 q.b.f2, .int .i64 q.b.f3, .slice A6 q.b.f4.length c6], .int .i64 16] w8.drew fun e w' => e = .returned (.tuple #[]) ∧ (TrAt X w' p ⟨t.known, (t.wait ++ [q.b]).drop (t.wait.length + 1 - 16)⟩ ∧ FrX X w w') ∧ (w'.cell? ⟨g, 0, none⟩ = some (.int .i64 q.b.f0) ∧ w'.cell? ⟨g, 1, none⟩ = some (.int .i64 q.b.f1) ∧ w'.cell? ⟨g, 2, none⟩ = some (.int .i64 q.b.f2) ∧ w'.cell? ⟨g, 3, none⟩ = some (.int .i64 q.b.f3) ∧ w'.cell? ⟨g, 4, none⟩ = some (.slice A6 q.b.f4.length c6))) := by
    obtain ⟨b, v, ds, qs, hin⟩ := HA7.out.fr HFD.out
    have hl16 : qs.length ≤ 16 := by have := congrArg List.length hin.hqs; simp at this; rw [this]; exact HG.out.wl
    refine (push_calls hin ⟨q.b, A6, c6⟩ (HT7.out.fr HFD.out (by simp)) hl16 (fun k hx => Nat.lt_of_lt_of_le (HX7.out k hx) HFD.out.size)).mono ?_
    rintro e w' ⟨rfl, h8, h9⟩
    have hb : w'.heap[g]? = _ := (h9.block (k := g) (Nat.lt_of_lt_of_le (HX7.out g (.inr rfl)) HFD.out.size) (.inr rfl)).trans ((HFD.out.block g (HX7.out g (.inr rfl)) (by simp)).trans HB7.out)
    have x0 := cell_of hb 0
    have x1 := cell_of hb 1
    have x2 := cell_of hb 2
    have x3 := cell_of hb 3
    have x4 := cell_of hb 4
    simp at x0 x1 x2 x3 x4
    exact ⟨rfl, ⟨h8.grow (fun k hx _ => .inl hx), (FrX.of0 (HF7.out.trans HFD.out (by simp))).trans (h9.weak (fun k hx => .inl hx))⟩, x0, x1, x2, x3, x4⟩
  go_region_held3 (fun W' => W'.cell? ⟨g, 0, none⟩ = some (.int .i64 q.b.f0) ∧ W'.cell? ⟨g, 1, none⟩ = some (.int .i64 q.b.f1) ∧ W'.cell? ⟨g, 2, none⟩ = some (.int .i64 q.b.f2) ∧ W'.cell? ⟨g, 3, none⟩ = some (.int .i64 q.b.f3) ∧ W'.cell? ⟨g, 4, none⟩ = some (.slice A6 q.b.f4.length c6))
    (assumption)
    (first
      | (go_at_call 73; refine HP.out.mono ?_; rintro e w9 ⟨rfl, hA9, hS9⟩; have HA9 := Lib.hid hA9; clear hA9))
  all_goals (go_wp2; exact hR.out _ _ ⟨_, rfl, OwnI.nil _ _, HA9.out.1, HA9.out.2⟩)
set_option maxHeartbeats 4000000 in
set_option maxRecDepth 100000 in
theorem add_full {X : Nat → Prop} {w : World} {p : Nat} {t : Tr} (h : TrAt X w p t) (hG : t.Good) (q : BV) (hC : k67.C w q.A q.b.f4.length q.b.f4) (hc : q.b.f4.length ≤ q.c) (hXw : ∀ k, X k → k < w.heap.size) (h0 : nameB q.b ≠ 0) (h1 : t.has (nameB q.b) = false) (h2 : nameB q.b ∉ t.wait.map nameB) (hr : t.ready q.b = true) (hm : t.room = false) :
    Calls Tryz.prog 45 #[.pointer (some ⟨p, 0, none⟩), blkV q.b q.A q.c] w fun e w' => AddRes X w p t q.b e w' := by
  unfold blkV
  refine calls_k fun R hR => ?_
  obtain ⟨W, hW⟩ : ∃ W, W = w.alloc (.cells #[.int .i64 q.b.f0, .int .i64 q.b.f1, .int .i64 q.b.f2, .int .i64 q.b.f3, .slice q.A q.b.f4.length q.c] 35) := ⟨_, rfl⟩
  obtain ⟨g, hg⟩ : ∃ g, g = w.heap.size := ⟨_, rfl⟩
  have hF : Fr [] w W := by rw [hW]; exact (Fr.refl _ _).alloc _
  have hsz : W.heap.size = g + 1 := by rw [hW, hg]; simp
  have hbl : W.heap[g]? = some (.cells #[.int .i64 q.b.f0, .int .i64 q.b.f1, .int .i64 q.b.f2, .int .i64 q.b.f3, .slice q.A q.b.f4.length q.c] 35 (0, 0)) := by rw [hW, hg]; exact heap_alloc_new _ _
  have e0 := cell_of hbl 0
  have e1 := cell_of hbl 1
  have e2 := cell_of hbl 2
  have e3 := cell_of hbl 3
  have e4 := cell_of hbl 4
  simp at e0 e1 e2 e3 e4
  have hC1 := Kd.C_below hC hF.below
  have HN := Lib.hid (name_calls q.b q.A q.c hC1 hc)
  simp only [blkV] at HN
  have HT1 := Lib.hid (h.fr hF)
  have HF := Lib.hid hF
  have HBL := Lib.hid hbl
  have HC1 := Lib.hid hC1
  have hwl : t.wait.length ≤ 100000 := Nat.le_trans hG.wl (by decide)
  have hgw : w.heap.size ≤ g := Nat.le_of_eq hg.symm
  have hl3 : q.b.f4.length ≤ 8796093022208 := by
    have hr := (nameB_pos h0).1
    simp only [rightB, okTxs, unlikeB, Bool.and_eq_true, decide_eq_true_eq] at hr
    omega
  have HH0 := Lib.hid h
  have h0b : (nameB q.b == 0) = false := by simpa using h0
  have h1d : Hid (t.has (nameB q.b) = false) := h1
  have h2d : Hid (decide (nameB q.b ∈ t.wait.map nameB) = false) := decide_eq_false h2
  have H0 := Lib.hid h0
  have H1 := Lib.hid h1
  have H2 := Lib.hid h2
  have HG := Lib.hid hG
  have HADD := Lib.hid (Tr.add_new h0 h1 h2)
  clear h hC hG hF hbl hC1 h0 h1 h2
  have HR0 := Lib.hid hr
  have HM := Lib.hid hm
  have hadd := HADD.out
  rw [if_neg (by simp [hr]), if_pos hm] at hadd
  clear hr hm
  go_enter Tryz.func45, Tryz.ntmps45
  go_upto_region 1 with (fail)
  rw [← hW, ← hg]
  clear hW hg
  go_upto_region 4 with (first
    | (go_at_call 70; refine HN.out.mono ?_; rintro e w2 ⟨rfl, hB2⟩
       have hF2 := Fr.of_below [] hB2
       have HH := Lib.hid (has_calls (HT1.out.fr hF2) (nameB q.b))
       have HF2 := Lib.hid hF2
       clear hF2 hB2 HN)
    | (go_at_call 61; rw [h1d.out] at HH; refine HH.out.mono ?_; rintro e w3 ⟨rfl, hF3⟩
       have hF13 := HF2.out.trans hF3 (by simp)
       have HWA := Lib.hid (waiting_calls (HT1.out.fr hF13) hwl)
       have HF3 := Lib.hid hF13
       clear hF3 hF13 HH)
    | (go_at_call 71; refine HWA.out.mono ?_; rintro e w4 ⟨v4, rfl, hO4, hF4⟩
       have hF14 := HF3.out.trans hF4 (by simp)
       have HCO := Lib.hid (contains_calls (nameB q.b) hO4.sl (by rw [List.length_map]; omega))
       have HF4 := Lib.hid hF14
       clear hF4 hF14 HWA hO4)
    | (go_at_call 39; rw [h2d.out] at HCO; refine HCO.out.mono ?_; rintro e w5 ⟨rfl, hF5⟩
       have HF5 := Lib.hid (HF4.out.trans hF5 (by simp))
       clear hF5 HCO))
  replace e0 := cellF HF5.out e0
  replace e1 := cellF HF5.out e1
  replace e2 := cellF HF5.out e2
  replace e3 := cellF HF5.out e3
  replace e4 := cellF HF5.out e4
  have hbl5 := (HF5.out.block g (by omega) (by simp)).trans HBL.out
  have z0 := froz_of hbl5 0
  have z1 := froz_of hbl5 1
  have z2 := froz_of hbl5 2
  have z3 := froz_of hbl5 3
  have z4 := froz_of hbl5 4
  have HCP := Lib.hid (copy_calls q (Kd.C_below HC1.out HF5.out.below) hl3)
  simp only [blkV] at HCP
  have hsz5 := HF5.out.size
  have HB5 := Lib.hid hbl5
  clear hbl5 h1d h2d h0b
  go_upto_region 5 with (first
    | (go_at_call 15; refine HCP.out.mono ?_; rintro e w6 ⟨A6, c6, rfl, hr6, hn6, hF6⟩
       simp only [blkV]
       have hbl6 := (hF6.block g (by omega) (by simp)).trans HB5.out
       replace e0 := cellF hF6 e0
       replace e1 := cellF hF6 e1
       replace e2 := cellF hF6 e2
       replace e3 := cellF hF6 e3
       replace e4 := cellF hF6 e4
       replace z0 := froz_of hbl6 0
       replace z1 := froz_of hbl6 1
       replace z2 := froz_of hbl6 2
       replace z3 := froz_of hbl6 3
       replace z4 := froz_of hbl6 4
       have HR6 := Lib.hid hr6
       have HN6 := Lib.hid hn6
       have HF6 := Lib.hid hF6
       have HB6 := Lib.hid hbl6
       clear hr6 hn6 hF6 hbl6 HCP))
  obtain ⟨W7, hW7⟩ : ∃ W7, W7 = put5 w6 g (.int .i64 q.b.f0) (.int .i64 q.b.f1) (.int .i64 q.b.f2) (.int .i64 q.b.f3) (.slice A6 q.b.f4.length c6) := ⟨_, rfl⟩
  have hbl7 : W7.heap[g]? = some (.cells #[.int .i64 q.b.f0, .int .i64 q.b.f1, .int .i64 q.b.f2, .int .i64 q.b.f3, .slice A6 q.b.f4.length c6] 35 (0, 0)) := by rw [hW7]; exact put5_heap HB6.out _ _ _ _ _
  have hF7 : Fr [] w W7 := by rw [hW7]; exact put5_fr ((HF.out.trans HF5.out (by simp)).trans HF6.out (by simp)) (.inr hgw) _ _ _ _ _
  have hF67 : Fr [g] w6 W7 := by rw [hW7]; exact put5_fr (b := g) (Fr.refl [g] w6) (.inl (by simp)) _ _ _ _ _
  have hT7 : TxsAt (fun k => X k ∨ k = g) W7 ⟨q.b, A6, c6⟩ := by
    refine ⟨row_fr HR6.out hF67 (fun k hk hm => ?_), fun k hk hx => ?_⟩
    · have := HN6.out k hk
      simp at hm; omega
    · have := HN6.out k hk
      rcases hx with hx | hx
      · have := hXw k hx; omega
      · omega
  have hA7 : TrAt (fun k => X k ∨ k = g) W7 p t := (HH0.out.grow (fun k hx hl => by rcases hx with hx | hx; exact hx; omega)).fr hF7
  have hX7 : ∀ k, (X k ∨ k = g) → k < W7.heap.size := fun k hx => by
    have hs7 := (Array.getElem?_eq_some_iff.1 hbl7).1
    have hs8 := hF7.size
    rcases hx with hx | hx
    · have := hXw k hx; omega
    · omega
  have d0 := cell_of hbl7 0
  have d1 := cell_of hbl7 1
  have d2 := cell_of hbl7 2
  have d3 := cell_of hbl7 3
  have d4 := cell_of hbl7 4
  simp at d0 d1 d2 d3 d4
  have HRD := Lib.hid (ready_calls hA7 q.b A6 c6)
  simp only [blkV] at HRD
  have HB7 := Lib.hid hbl7
  have HF7 := Lib.hid hF7
  have HT7 := Lib.hid hT7
  have HA7 := Lib.hid hA7
  have HX7 := Lib.hid hX7
  unfold put5 at hW7
  rw [← hW7]
  clear hbl7 hF7 hF67 hT7 hA7 hX7 hW7 e0 e1 e2 e3 e4 z0 z1 z2 z3 z4
  go_upto_region 8 with (first
    | (go_at_call 72; rw [HR0.out] at HRD; refine HRD.out.mono ?_; rintro e w8 ⟨rfl, hF8⟩
       replace d0 := cellF hF8 d0
       replace d1 := cellF hF8 d1
       replace d2 := cellF hF8 d2
       replace d3 := cellF hF8 d3
       replace d4 := cellF hF8 d4
       have HF8 := Lib.hid hF8
       clear hF8 HRD))
  have HGR := Lib.hid (grow_full (HA7.out.fr HF8.out) ⟨q.b, A6, c6⟩ HM.out)
  simp only [blkV] at HGR
  go_wp2_with (go_at_call 74; refine HGR.out.mono ?_; rintro e w9 ⟨rfl, hF9⟩)
  exact hR.out _ _ (AddRes.same HH0.out ((HF7.out.trans HF8.out (by simp)).trans hF9 (by simp)) hadd)
end Go.Np.Tryz
set_option linter.unusedVariables false
set_option linter.unusedSimpArgs false
namespace Go.Np.Tryz
open Go.RowKit Go.Proofs Go.Proofs.YtlllhpnpgcphcaaGreat.PX Go.Proofs.YtlllhpnpgcphcaaGreatW.PrintWords
theorem OwnI.frX {base : Nat} {X : Nat → Prop} {w w' : World} {v : Value} {l : List Int} (h : OwnI base w v l) (hf : FrX X w w') (hb : ∀ k ∈ v.ownBlock.toList, X k) : OwnI base w' v l := by
  obtain ⟨S, h1, h2⟩ := hf
  exact h.fr h1 (fun k hk hm => h2 k hm (hb k hk))
theorem OwnI.one (w : World) (x : Int) : OwnI w.heap.size (w.alloc (.cells #[.int .i64 x] 3)) (.slice (some ⟨w.heap.size, 0, none⟩) 1 1) [x] :=
  ⟨⟨rfl, .inr ⟨w.heap.size, 1, #[.int .i64 x], rfl, Nat.zero_le _, heap_alloc_new w _, Nat.le_refl _, by decide, rfl, rfl⟩⟩, fun k hk => by simp [Value.ownBlock] at hk; omega⟩
theorem OwnI.lt {base : Nat} {w : World} {v : Value} {l : List Int} (h : OwnI base w v l) : ∀ k ∈ v.ownBlock.toList, k < w.heap.size := fun k hk => row_lt h.1 k hk
set_option maxHeartbeats 4000000 in
set_option maxRecDepth 100000 in
theorem add_grown {X : Nat → Prop} {w : World} {p : Nat} {t : Tr} (h : TrAt X w p t) (hG : t.Good) (q : BV) (hC : k67.C w q.A q.b.f4.length q.b.f4) (hc : q.b.f4.length ≤ q.c) (hXw : ∀ k, X k → k < w.heap.size) (h0 : nameB q.b ≠ 0) (h1 : t.has (nameB q.b) = false) (h2 : nameB q.b ∉ t.wait.map nameB) (hr : t.ready q.b = true) (hm : t.room = true) :
    Calls Tryz.prog 45 #[.pointer (some ⟨p, 0, none⟩), blkV q.b q.A q.c] w fun e w' => AddRes X w p t q.b e w' := by
  unfold blkV
  refine calls_k fun R hR => ?_
  obtain ⟨W, hW⟩ : ∃ W, W = w.alloc (.cells #[.int .i64 q.b.f0, .int .i64 q.b.f1, .int .i64 q.b.f2, .int .i64 q.b.f3, .slice q.A q.b.f4.length q.c] 35) := ⟨_, rfl⟩
  obtain ⟨g, hg⟩ : ∃ g, g = w.heap.size := ⟨_, rfl⟩
  have hF : Fr [] w W := by rw [hW]; exact (Fr.refl _ _).alloc _
  have hsz : W.heap.size = g + 1 := by rw [hW, hg]; simp
  have hbl : W.heap[g]? = some (.cells #[.int .i64 q.b.f0, .int .i64 q.b.f1, .int .i64 q.b.f2, .int .i64 q.b.f3, .slice q.A q.b.f4.length q.c] 35 (0, 0)) := by rw [hW, hg]; exact heap_alloc_new _ _
  have e0 := cell_of hbl 0
  have e1 := cell_of hbl 1
  have e2 := cell_of hbl 2
  have e3 := cell_of hbl 3
  have e4 := cell_of hbl 4
  simp at e0 e1 e2 e3 e4
  have hC1 := Kd.C_below hC hF.below
  have HN := Lib.hid (name_calls q.b q.A q.c hC1 hc)
  simp only [blkV] at HN
  have HT1 := Lib.hid (h.fr hF)
  have HF := Lib.hid hF
  have HBL := Lib.hid hbl
  have HC1 := Lib.hid hC1
  have hwl : t.wait.length ≤ 100000 := Nat.le_trans hG.wl (by decide)
  have hgw : w.heap.size ≤ g := Nat.le_of_eq hg.symm
  have hl3 : q.b.f4.length ≤ 8796093022208 := by
    have hr := (nameB_pos h0).1
    simp only [rightB, okTxs, unlikeB, Bool.and_eq_true, decide_eq_true_eq] at hr
    omega
  have HH0 := Lib.hid h
  have h0b : (nameB q.b == 0) = false := by simpa using h0
  have h1d : Hid (t.has (nameB q.b) = false) := h1
  have h2d : Hid (decide (nameB q.b ∈ t.wait.map nameB) = false) := decide_eq_false h2
  have H0 := Lib.hid h0
  have H1 := Lib.hid h1
  have H2 := Lib.hid h2
  have HG := Lib.hid hG
  have HADD := Lib.hid (Tr.add_new h0 h1 h2)
  clear h hC hG hF hbl hC1 h0 h1 h2
  have HR0 := Lib.hid hr
  have HM := Lib.hid hm
  have hadd := HADD.out
  rw [if_neg (by simp [hr]), if_neg (by simp [hm])] at hadd
  obtain ⟨RES, hRES⟩ : ∃ RES, RES = Tr.settle (t.wait.length + 1) (t.grow q.b) [nameB q.b] := ⟨_, rfl⟩
  simp only [← hRES] at hadd
  unfold AddRes at hR
  rw [hadd] at hR
  have HRES := Lib.hid hRES
  clear hr hm hadd hRES HADD
  go_enter Tryz.func45, Tryz.ntmps45
  go_upto_region 1 with (fail)
  rw [← hW, ← hg]
  clear hW hg
  go_upto_region 4 with (first
    | (go_at_call 70; refine HN.out.mono ?_; rintro e w2 ⟨rfl, hB2⟩
       have hF2 := Fr.of_below [] hB2
       have HH := Lib.hid (has_calls (HT1.out.fr hF2) (nameB q.b))
       have HF2 := Lib.hid hF2
       clear hF2 hB2 HN)
    | (go_at_call 61; rw [h1d.out] at HH; refine HH.out.mono ?_; rintro e w3 ⟨rfl, hF3⟩
       have hF13 := HF2.out.trans hF3 (by simp)
       have HWA := Lib.hid (waiting_calls (HT1.out.fr hF13) hwl)
       have HF3 := Lib.hid hF13
       clear hF3 hF13 HH)
    | (go_at_call 71; refine HWA.out.mono ?_; rintro e w4 ⟨v4, rfl, hO4, hF4⟩
       have hF14 := HF3.out.trans hF4 (by simp)
       have HCO := Lib.hid (contains_calls (nameB q.b) hO4.sl (by rw [List.length_map]; omega))
       have HF4 := Lib.hid hF14
       clear hF4 hF14 HWA hO4)
    | (go_at_call 39; rw [h2d.out] at HCO; refine HCO.out.mono ?_; rintro e w5 ⟨rfl, hF5⟩
       have HF5 := Lib.hid (HF4.out.trans hF5 (by simp))
       clear hF5 HCO))
  replace e0 := cellF HF5.out e0
  replace e1 := cellF HF5.out e1
  replace e2 := cellF HF5.out e2
  replace e3 := cellF HF5.out e3
  replace e4 := cellF HF5.out e4
  have hbl5 := (HF5.out.block g (by omega) (by simp)).trans HBL.out
  have z0 := froz_of hbl5 0
  have z1 := froz_of hbl5 1
  have z2 := froz_of hbl5 2
  have z3 := froz_of hbl5 3
  have z4 := froz_of hbl5 4
  have HCP := Lib.hid (copy_calls q (Kd.C_below HC1.out HF5.out.below) hl3)
  simp only [blkV] at HCP
  have hsz5 := HF5.out.size
  have HB5 := Lib.hid hbl5
  clear hbl5 h1d h2d h0b
  go_upto_region 5 with (first
    | (go_at_call 15; refine HCP.out.mono ?_; rintro e w6 ⟨A6, c6, rfl, hr6, hn6, hF6⟩
       simp only [blkV]
       have hbl6 := (hF6.block g (by omega) (by simp)).trans HB5.out
       replace e0 := cellF hF6 e0
       replace e1 := cellF hF6 e1
       replace e2 := cellF hF6 e2
       replace e3 := cellF hF6 e3
       replace e4 := cellF hF6 e4
       replace z0 := froz_of hbl6 0
       replace z1 := froz_of hbl6 1
       replace z2 := froz_of hbl6 2
       replace z3 := froz_of hbl6 3
       replace z4 := froz_of hbl6 4
       have HR6 := Lib.hid hr6
       have HN6 := Lib.hid hn6
       have HF6 := Lib.hid hF6
       have HB6 := Lib.hid hbl6
       clear hr6 hn6 hF6 hbl6 HCP))
  obtain ⟨W7, hW7⟩ : ∃ W7, W7 = put5 w6 g (.int .i64 q.b.f0) (.int .i64 q.b.f1) (.int .i64 q.b.f2) (.int .i64 q.b.f3) (.slice A6 q.b.f4.length c6) := ⟨_, rfl⟩
  have hbl7 : W7.heap[g]? = some (.cells #[.int .i64 q.b.f0, .int .i64 q.b.f1, .int .i64 q.b.f2, .int .i64 q.b.f3, .slice A6 q.b.f4.length c6] 35 (0, 0)) := by rw [hW7]; exact put5_heap HB6.out _ _ _ _ _
  have hF7 : Fr [] w W7 := by rw [hW7]; exact put5_fr ((HF.out.trans HF5.out (by simp)).trans HF6.out (by simp)) (.inr hgw) _ _ _ _ _
  have hF67 : Fr [g] w6 W7 := by rw [hW7]; exact put5_fr (b := g) (Fr.refl [g] w6) (.inl (by simp)) _ _ _ _ _
  have hT7 : TxsAt (fun k => X k ∨ k = g) W7 ⟨q.b, A6, c6⟩ := by
    refine ⟨row_fr HR6.out hF67 (fun k hk hm => ?_), fun k hk hx => ?_⟩
    · have := HN6.out k hk
      simp at hm; omega
    · have := HN6.out k hk
      rcases hx with hx | hx
      · have := hXw k hx; omega
      · omega
  have hA7 : TrAt (fun k => X k ∨ k = g) W7 p t := (HH0.out.grow (fun k hx hl => by rcases hx with hx | hx; exact hx; omega)).fr hF7
  have hX7 : ∀ k, (X k ∨ k = g) → k < W7.heap.size := fun k hx => by
    have hs7 := (Array.getElem?_eq_some_iff.1 hbl7).1
    have hs8 := hF7.size
    rcases hx with hx | hx
    · have := hXw k hx; omega
    · omega
  have d0 := cell_of hbl7 0
  have d1 := cell_of hbl7 1
  have d2 := cell_of hbl7 2
  have d3 := cell_of hbl7 3
  have d4 := cell_of hbl7 4
  simp at d0 d1 d2 d3 d4
  have HRD := Lib.hid (ready_calls hA7 q.b A6 c6)
  simp only [blkV] at HRD
  have HB7 := Lib.hid hbl7
  have HF7 := Lib.hid hF7
  have HT7 := Lib.hid hT7
  have HA7 := Lib.hid hA7
  have HX7 := Lib.hid hX7
  unfold put5 at hW7
  rw [← hW7]
  clear hbl7 hF7 hF67 hT7 hA7 hX7 hW7 e0 e1 e2 e3 e4 z0 z1 z2 z3 z4
  have h1g : t.has (nameB q.b) = false := by
    have := HH0
    exact H1.out
  go_upto_region 8 with (first
    | (go_at_call 72; rw [HR0.out] at HRD; refine HRD.out.mono ?_; rintro e w8 ⟨rfl, hF8⟩
       replace d0 := cellF hF8 d0
       replace d1 := cellF hF8 d1
       replace d2 := cellF hF8 d2
       replace d3 := cellF hF8 d3
       replace d4 := cellF hF8 d4
       have HF8 := Lib.hid hF8
       clear hF8 HRD))
  have HGR := Lib.hid (grow_calls (HA7.out.fr HF8.out) HG.out.ok ⟨q.b, A6, c6⟩ (HT7.out.fr HF8.out (by simp)) HM.out HR0.out h1g (Nat.le_trans (HG.out.path400 _) (by decide)))
  simp only [blkV] at HGR
  clear h1g
  go_upto_region 11 with (first
    | (go_at_call 74; refine HGR.out.mono ?_; rintro e w9 ⟨rfl, hA9, hF9, hT9⟩
       have HA9 := Lib.hid hA9
       have HF9 := Lib.hid hF9
       clear hA9 hF9 hT9 HGR d0 d1 d2 d3 d4))
  obtain ⟨W10, hW10⟩ : ∃ W10, W10 = w9.alloc (.cells #[.int .i64 (nameB q.b)] 3) := ⟨_, rfl⟩
  have hO10 : OwnI w9.heap.size W10 (.slice (some ⟨w9.heap.size, 0, none⟩) 1 1) [nameB q.b] := by rw [hW10]; exact OwnI.one w9 _
  have hF10 : Fr [] w9 W10 := by rw [hW10]; exact (Fr.refl _ _).alloc _
  have hA10 := HA9.out.later hF10 (by simp)
  have hX10 : FrX X w W10 := ((FrX.of0 (HF7.out.trans HF8.out (by simp))).trans (HF9.out.weak (fun k hx => .inl hx))).trans (.of0 hF10)
  have hs9 : W7.heap.size ≤ w9.heap.size := Nat.le_trans HF8.out.size HF9.out.size
  have hs7 := HF7.out.size
  have hgood := HG.out.grow H0.out HR0.out H1.out H2.out HM.out
  have hst : ∃ (D : Option Addr) (cp : Nat) (Xj : Nat → Prop), (.slice (some ⟨w9.heap.size, 0, none⟩) 1 1 : Value) = .slice D ([nameB q.b] : List Int).length cp ∧ OwnI w.heap.size W10 (.slice D ([nameB q.b] : List Int).length cp) [nameB q.b] ∧ TrAt Xj W10 p (t.grow q.b) ∧ (∀ k, X k → Xj k) ∧ (∀ k ∈ (Value.slice D ([nameB q.b] : List Int).length cp).ownBlock.toList, Xj k) ∧ (∀ k, Xj k → k < W10.heap.size) := by
    refine ⟨some ⟨w9.heap.size, 0, none⟩, 1, _, rfl, ⟨hO10.1, fun k hk => ?_⟩, hA10, fun k hx => .inl (.inl hx), fun k hk => ?_, fun k hx => ?_⟩
    · have := hO10.2 k hk; omega
    · have h5 := hO10.2 k hk
      have h6 := hO10.lt k hk
      exact .inr ⟨h5, h6⟩
    · have := hF10.size
      rcases hx with hx | hx
      · have := HX7.out k hx; omega
      · exact hx.2
  obtain ⟨D0, cp0, X0, hD0, hst⟩ := hst
  have HST := Lib.hid hst
  have HX10 := Lib.hid hX10
  have HGOOD := Lib.hid hgood
  have HLEN : Hid (([nameB q.b] : List Int).length + (t.grow q.b).wait.length ≤ 17) := by have := HG.out.wl; unfold Hid; simp [Tr.grow]; omega
  have HD0 := Lib.hid hD0
  rw [← hW10]
  clear hW10 hO10 hF10 hA10 hX10 hgood hst hD0
  go_loopg [7] (t.wait.length + 1) (fun gn o wr => ∃ (m : Nat) (tj : Tr) (l : List Int) (D : Option Addr) (cp : Nat) (Xj : Nat → Prop), m = gn ∧ o = .slice D l.length cp ∧ Hid (tj.wait.length + 1 ≤ m) ∧ Hid (Tr.settle m tj l = RES) ∧ Hid tj.Good ∧ Hid (l.length + tj.wait.length ≤ 17) ∧
    Hid (OwnI w.heap.size wr (.slice D l.length cp) l ∧ TrAt Xj wr p tj ∧ (∀ k, X k → Xj k) ∧ (∀ k ∈ (Value.slice D l.length cp).ownBlock.toList, Xj k) ∧ (∀ k, Xj k → k < wr.heap.size)) ∧ Hid (FrX X w wr))
  case atStart => exact ⟨_, t.grow q.b, [nameB q.b], D0, cp0, X0, rfl, HD0.out, Nat.le_refl _, HRES.out.symm, HGOOD, HLEN, HST, HX10⟩
  case round =>
    obtain ⟨m, tj, l, D, cp, Xj, rfl, rfl, HMW, HSE, HGJ, HLJ, HSJ, HFJ⟩ := hrel
    clear HST HX10 HGOOD HLEN HD0 HA9 HF9 HB7 HF7 HT7 HA7 HX7 HF8 HB6 HN6 HR6 HF6 HB5 HF5 HF4 HF3 HF2 HT1 HF HBL HC1 HRES
    have hwj : tj.wait.length ≤ 100000 := Nat.le_trans HGJ.out.wl (by decide)
    cases hf : tj.wait.findIdx? tj.ready with
    | none =>
      obtain ⟨m', rfl⟩ : ∃ m', m = m' + 1 := ⟨m - 1, by have := HMW.out; omega⟩
      have hres := HSE.out
      rw [Tr.settle_none hf] at hres
      rw [← hres] at hR
      have HTK := Lib.hid (take_none HSJ.out.2.1 hwj hf)
      clear hres hf HSE
      go_wp2_with (first
        | (go_at_call 75; refine HTK.out.mono ?_; rintro e w1 ⟨rfl, hF1⟩
           have HF1 := Lib.hid (hF1.alloc (.cells #[.int .i64 0, .int .i64 0, .int .i64 0, .int .i64 0, .slice none 0 0] 35))
           clear hF1 HTK))
      exact hR.out _ _ ⟨_, rfl, HSJ.out.1.fr HF1.out (by simp), (HSJ.out.2.1.fr HF1.out).grow (fun k hx _ => HSJ.out.2.2.1 k hx), HFJ.out.trans (.of0 HF1.out)⟩
    | some i =>
      have HTK := Lib.hid (take_some HSJ.out.2.1 hwj hf HSJ.out.2.2.2.2)
      have HFI := Lib.hid hf
      clear hf
      go_upto_region 12 with (first
        | (go_at_call 75; refine HTK.out.mono ?_; rintro e w1 ⟨q2, rfl, hwi, hT1, hA1, hF1⟩
           simp only [blkV]
           have HWI := Lib.hid hwi
           have HT1 := Lib.hid hT1
           have HA1 := Lib.hid hA1
           have HF1 := Lib.hid hF1
           clear hwi hT1 hA1 hF1 HTK))
      obtain ⟨W2, hW2⟩ : ∃ W2, W2 = w1.alloc (.cells #[.int .i64 q2.b.f0, .int .i64 q2.b.f1, .int .i64 q2.b.f2, .int .i64 q2.b.f3, .slice q2.A q2.b.f4.length q2.c] 35) := ⟨_, rfl⟩
      obtain ⟨g2, hg2⟩ : ∃ g2, g2 = w1.heap.size := ⟨_, rfl⟩
      have hF2 : Fr [] w1 W2 := by rw [hW2]; exact (Fr.refl _ _).alloc _
      have hs2 : W2.heap.size = g2 + 1 := by rw [hW2, hg2]; simp
      have hbl2 : W2.heap[g2]? = some (.cells #[.int .i64 q2.b.f0, .int .i64 q2.b.f1, .int .i64 q2.b.f2, .int .i64 q2.b.f3, .slice q2.A q2.b.f4.length q2.c] 35 (0, 0)) := by rw [hW2, hg2]; exact heap_alloc_new _ _
      have i0 := cell_of hbl2 0
      have i1 := cell_of hbl2 1
      have i2 := cell_of hbl2 2
      have i3 := cell_of hbl2 3
      have i4 := cell_of hbl2 4
      simp at i0 i1 i2 i3 i4
      have hA2 : TrAt (fun k => Xj k ∨ k = g2) W2 p ⟨tj.known, tj.wait.eraseIdx i⟩ := (HA1.out.grow (fun k hx hl => by rcases hx with hx | hx; exact hx; omega)).fr hF2
      have hT2 : TxsAt (fun k => Xj k ∨ k = g2) W2 q2 := (HT1.out.grow (fun k hx hl => by rcases hx with hx | hx; exact hx; omega)).fr hF2 (by simp)
      have hwi := HWI.out
      obtain ⟨hn0, hn1, hn2⟩ := HGJ.out.taken hwi
      have hrd := Tr.ready_at HFI.out hwi
      have hge := HGJ.out.erase i
      have hse := HSE.out
      obtain ⟨m', rfl⟩ : ∃ m', m = m' + 1 := ⟨m - 1, by have := HMW.out; omega⟩
      rw [Tr.settle_some HFI.out hwi] at hse
      have hil : i < tj.wait.length := (List.getElem?_eq_some_iff.1 hwi).1
      have hel : (tj.wait.eraseIdx i).length = tj.wait.length - 1 := by rw [List.length_eraseIdx, if_pos hil]
      have HEL := Lib.hid hel
      have HIL := Lib.hid hil
      have HGE := Lib.hid hge
      have hs12 : w1.heap.size ≤ W2.heap.size := hF2.size
      have HF2' := Lib.hid hF2
      have HFW := Lib.hid (HFJ.out.trans ((HF1.out.weak (fun k hx => HSJ.out.2.2.1 k hx)).trans (.of0 hF2)))
      have hO2 : OwnI w.heap.size W2 (.slice D l.length cp) l := (HSJ.out.1.frX HF1.out HSJ.out.2.2.2.1).fr hF2 (by simp)
      have HO2 := Lib.hid hO2
      have HXJ := Lib.hid HSJ.out.2.2.1
      have HXD := Lib.hid HSJ.out.2.2.2.1
      have hsr := HF1.out.size
      have HXB : Hid (∀ k, Xj k → k < w1.heap.size) := fun k hx => Nat.lt_of_lt_of_le (HSJ.out.2.2.2.2 k hx) hsr
      rw [← hW2, ← hg2]
      have hs2' : g2 < W2.heap.size := by omega
      clear hW2 hF2 hwi hel hil hge hO2 HSJ HSE HFJ HFI HWI hwj hg2 hs2
      go_upto_region 14 with (fail)
      by_cases hm : (⟨tj.known, tj.wait.eraseIdx i⟩ : Tr).room = true
      · rw [if_pos hm] at hse
        have HGC := Lib.hid (grow_calls hA2 HGE.out.ok q2 hT2 hm ((Tr.ready_known (s := tj) rfl _).trans hrd) ((Tr.has_known (s := tj) rfl _).trans hn1) (Nat.le_trans (HGE.out.path400 _) (by decide)))
        simp only [blkV] at HGC
        have HGG := Lib.hid (HGE.out.grow hn0 ((Tr.ready_known (s := tj) rfl _).trans hrd) ((Tr.has_known (s := tj) rfl _).trans hn1) hn2 hm)
        have HSE' := Lib.hid hse
        have HBL2 := Lib.hid hbl2
        have hb63 : l.length < maxLen := by have := HLJ.out; unfold maxLen; omega
        have hb8 : (l.length + 1) * 8 ≤ 140737488355328 := by have := HLJ.out; omega
        clear hA2 hT2 hm hrd hn1 hn0 hn2 hse hbl2
        go_wp2_with (first
          | (go_at_call 74; refine HGC.out.mono ?_; rintro e w3 ⟨rfl, hA3, hF3, hT3⟩
             have hb3 : w3.heap[g2]? = _ := (hF3.block (k := g2) (by omega) (.inr rfl)).trans HBL2.out
             replace i0 := cell_of hb3 0
             replace i1 := cell_of hb3 1
             replace i2 := cell_of hb3 2
             replace i3 := cell_of hb3 3
             replace i4 := cell_of hb3 4
             simp at i0 i1 i2 i3 i4
             have HNM := Lib.hid (name_calls q2.b q2.A q2.c hT3.C.2 hT3.C.1)
             simp only [blkV] at HNM
             have HA3 := Lib.hid hA3
             have HF3 := Lib.hid hF3
             clear hA3 hF3 hT3 hb3 HGC HBL2)
          | (go_at_call 70; refine HNM.out.mono ?_; rintro e w4 ⟨rfl, hB4⟩
             have hF4 := Fr.of_below [] hB4
             have hO4 := (HO2.out.frX HF3.out (fun k hk => .inl (HXD.out k hk))).fr hF4 (by simp)
             have hrow4 := hO4.1
             have HF4 := Lib.hid hF4
             have HO4 := Lib.hid hO4
             clear hF4 hO4 hB4 HNM i0 i1 i2 i3 i4)
          | (at_builtin; refine wp_append1 rfl _ _ 22 3 rfl Tryz.underlying22 infoI rfl (by decide) hrow4 rfl [.int .i64 (nameB q2.b)] rfl rfl (by simp [Value.oneCell']) hb63 hb8 ?_; intro A5 c5 w5 hr5 hF5 hN5
             have HR5 := Lib.hid hr5
             have HF5' := Lib.hid hF5
             have HN5 := Lib.hid hN5
             clear hr5 hF5 hN5 hrow4))
        have hA4 := (HA3.out.fr HF4.out).later HF5'.out (fun k hk => .inl (.inl (HXD.out k hk)))
        have hs4 := HF4.out.size
        have hs5 := HF5'.out.size
        have hs3 := HF3.out.size
        have hsw : w.heap.size ≤ W2.heap.size := HFW.out.size
        have hO5 : OwnI w.heap.size w5 (.slice A5 (l ++ [nameB q2.b]).length c5) (l ++ [nameB q2.b]) := by
          refine ⟨?_, fun k hk => ?_⟩
          · have := HR5.out
            simpa using this
          · rcases HN5.out k (by simpa using hk) with h1 | h1
            · exact HO4.out.2 k h1
            · omega
        have hX5 : FrX X w w5 := (HFW.out.trans ((HF3.out.weak (fun k hx => .inl (HXJ.out k hx))).trans (.of0 HF4.out))).trans ⟨_, HF5'.out, fun k hk hx => by
          have := HO4.out.2 k hk
          have := hXw k hx
          omega⟩
        have hl1 : (l ++ [nameB q2.b]).length = l.length + 1 := by simp
        go_roundg m'
        case rel =>
          refine ⟨m', _, l ++ [nameB q2.b], A5, c5, _, rfl, by rw [hl1], ?_, HSE'.out, HGG.out, ?_, ⟨hO5, hA4, fun k hx => .inl (.inl (HXJ.out k hx)), fun k hk => ?_, fun k hx => ?_⟩, hX5⟩
          · have := HMW.out
            have := HEL.out
            have := HIL.out
            show (tj.wait.eraseIdx i).length + 1 ≤ m'
            omega
          · have := HLJ.out
            have := HEL.out
            have := HIL.out
            show (l ++ [nameB q2.b]).length + (tj.wait.eraseIdx i).length ≤ 17
            omega
          · rcases HN5.out k (by simpa using hk) with h1 | h1
            · exact .inl (.inl (HXD.out k h1))
            · exact .inr ⟨h1, hO5.lt k hk⟩
          · rcases hx with (hx | hx) | hx
            · have := HXB.out k hx; omega
            · omega
            · exact hx.2
        case measure => omega
      · rw [if_neg hm] at hse
        have HGF := Lib.hid (grow_full hA2 q2 (by simpa using hm))
        simp only [blkV] at HGF
        have HSE' := Lib.hid hse
        clear hA2 hT2 hm hrd hn1 hn0 hn2 hse hbl2
        go_wp2_with (first
          | (go_at_call 74; refine HGF.out.mono ?_; rintro e w3 ⟨rfl, hF3⟩
             have HF3 := Lib.hid hF3
             clear hF3 HGF))
        have hs3 := HF3.out.size
        go_roundg m'
        case rel =>
          refine ⟨m', _, l, D, cp, Xj, rfl, rfl, ?_, HSE'.out, HGE.out, ?_, ⟨HO2.out.fr HF3.out (by simp), HA1.out.fr (HF2'.out.trans HF3.out (by simp)), HXJ.out, HXD.out, fun k hx => ?_⟩, HFW.out.trans (.of0 HF3.out)⟩
          · have := HMW.out
            have := HEL.out
            have := HIL.out
            show (tj.wait.eraseIdx i).length + 1 ≤ m'
            omega
          · have := HLJ.out
            have := HEL.out
            have := HIL.out
            show l.length + (tj.wait.eraseIdx i).length ≤ 17
            omega
          · have := HXB.out k hx; omega
        case measure => omega
theorem add_calls {X : Nat → Prop} {w : World} {p : Nat} {t : Tr} (h : TrAt X w p t) (hG : t.Good) (q : BV) (hC : k67.C w q.A q.b.f4.length q.b.f4) (hc : q.b.f4.length ≤ q.c) (hXw : ∀ k, X k → k < w.heap.size) :
    Calls Tryz.prog 45 #[.pointer (some ⟨p, 0, none⟩), blkV q.b q.A q.c] w fun e w' => AddRes X w p t q.b e w' := by
  by_cases h0 : nameB q.b = 0
  · exact add_zero h hG q hC hc hXw h0
  cases h1 : t.has (nameB q.b) with
  | true => exact add_has h hG q hC hc hXw h0 h1
  | false =>
    by_cases h2 : nameB q.b ∈ t.wait.map nameB
    · exact add_waits h hG q hC hc hXw h0 h1 h2
    cases hr : t.ready q.b with
    | false => exact add_orphan h hG q hC hc hXw h0 h1 h2 hr
    | true =>
      cases hm : t.room with
      | false => exact add_full h hG q hC hc hXw h0 h1 h2 hr hm
      | true => exact add_grown h hG q hC hc hXw h0 h1 h2 hr hm
end Go.Np.Tryz

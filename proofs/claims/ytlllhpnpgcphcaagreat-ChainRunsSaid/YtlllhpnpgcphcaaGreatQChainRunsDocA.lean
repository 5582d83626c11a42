/- What ChainRuns needs. -/
import Derived.Test.YtlllhpnpgcphcaaGreatQChainRunsTrC
import Derived.Test.YtlllhpnpgcphcaaGreatQChainRunsPXx13
import Derived.Test.YtlllhpnpgcphcaaGreatQChainRunsPXx14
import Derived.Deep.SlicePairs
import Derived.SizedLaws
set_option linter.unusedVariables false
set_option linter.unusedSimpArgs false
namespace Go.Np.Tryz
open Go.RowKit Go.Proofs Go.ChangeShapes Go.WideShapes Go.Proofs.YtlllhpnpgcphcaaGreat.PX Go.Proofs.YtlllhpnpgcphcaaGreatW.PrintWords
theorem cells59 : Tryz.prog.cellsOf 67 = 2 := by kernel_rfl
set_option maxRecDepth 100000 in
theorem two_ints {H : Type} {enc : TypeId × Value → H} {W : World} {base : Nat} {sp : Nat → Bool} {held : Bool} {n : Nat} {cs : List Value} {x : DataW H × List MemPlace} (hl : cs.length = 2)
    (h : DataW.trod enc Tryz.prog W base sp held n 67 cs = some x) : ∃ q : S67, cs = [.int .i64 q.f0, .int .i64 q.f1] := by
  obtain ⟨xs, m, _, _, _, hxl, hf⟩ := DataW.trod_struct Tryz.underlying67 h
  have hc : Tryz.prog.cellsOf 3 = 1 := by kernel_rfl
  match cs, hl with
  | [v0, v1], _ =>
    match xs, hxl with
    | [y0, y1], _ =>
      have h0 := hf 0 _ rfl
      have h1 := hf 1 _ rfl
      simp [hc] at h0 h1
      obtain ⟨a, ea, _, wa⟩ := DataW.trod_int Tryz.underlying3 h0
      obtain ⟨b, eb, _, wb⟩ := DataW.trod_int Tryz.underlying3 h1
      simp at ea eb
      subst ea eb
      exact ⟨⟨a, b⟩, rfl⟩
theorem rows_C {α : Type} (d : Kd α) (z : α) {W : World} {ad : Addr} {n : Nat} {F : α → Prop} (hm : n ≤ maxLen) (each : ∀ j, j < n → ∃ (q : α), F q ∧ ∃ (cs : List Value), cs.length = d.sz ∧ d.K W q cs ∧ ∀ i u, cs[i]? = some u → W.cell? (ad.add (j * d.sz + i)) = some u) :
    ∃ l : List α, l.length = n ∧ d.C W (some ad) n l ∧ ∀ q ∈ l, F q := by
  have hq : ∃ f : Nat → α, ∀ j, j < n → F (f j) ∧ ∃ cs : List Value, cs.length = d.sz ∧ d.K W (f j) cs ∧ ∀ i u, cs[i]? = some u → W.cell? (ad.add (j * d.sz + i)) = some u :=
    ⟨fun j => if h : j < n then Classical.choose (each j h) else z, fun j hj => by simp only [dif_pos hj]; exact Classical.choose_spec (each j hj)⟩
  obtain ⟨f, hf⟩ := hq
  refine ⟨(List.range n).map f, by simp, ⟨by simp, hm, fun _ => ⟨ad, rfl, fun j p hp => ?_⟩⟩, fun q hq => by
    obtain ⟨j, hj, rfl⟩ := List.mem_map.1 hq
    exact (hf j (by simpa using hj)).1⟩
  have hj : j < n := by simpa using (List.getElem?_eq_some_iff.1 hp).1
  have hpf : p = f j := by simpa [hj] using hp.symm
  subst hpf
  exact (hf j hj).2
set_option maxRecDepth 100000 in
theorem open_txs {H : Type} {enc : TypeId × Value → H} {W : World} {base : Nat} {sp : Nat → Bool} {held : Bool} {n : Nat} {v : Value} {x : DataW H × List MemPlace}
    (h : DataW.trod enc Tryz.prog W base sp held n 33 [v] = some x) : ∃ (A : Option Addr) (c : Nat) (l : List S67), v = .slice A l.length c ∧ l.length ≤ c ∧ k67.C W A l.length l ∧ (l.length = 0 ∨ ∃ m ∈ x.1.weights Tryz.prog 33, l.length * 16 ≤ m) := by
  rcases Go.Deep.open_slice Tryz.underlying33 h with ⟨hcs, _⟩ | ⟨ad, len, cap, m, k, D, Pl, hcs, _, hlc, hcm, hm, hxx, hx⟩
  · simp at hcs
    subst hcs
    exact ⟨none, 0, [], rfl, Nat.le_refl _, ⟨rfl, Nat.zero_le _, fun h => absurd h (Nat.lt_irrefl 0)⟩, .inl rfl⟩
  · simp at hcs
    subst hcs
    have hlm : len ≤ m := by rw [hm]; split <;> omega
    obtain ⟨l, hl, hC, _⟩ := rows_C k67 z67 (F := fun _ => True) (W := W) (ad := ad) (n := len) (by omega) (fun j hj => by
      obtain ⟨cs', h1, h2⟩ := hx j (by omega)
      rw [cells59] at h1
      obtain ⟨_, hlen, hcell⟩ := World.cells?_some h1
      obtain ⟨q, rfl⟩ := two_ints hlen h2
      refine ⟨q, trivial, _, rfl, k67_mk W q, fun i u hu => ?_⟩
      have hi : i < 2 := by simpa using (List.getElem?_eq_some_iff.1 hu).1
      have := hcell i (by omega)
      rw [Go.Deep.add_add] at this
      exact this.trans hu)
    subst hl
    refine ⟨some ad, cap, l, rfl, hlc, hC, .inr ⟨_, by rw [hxx]; simp only [DataW.weights, Tryz.underlying33]; exact .head _, ?_⟩⟩
    have hb : Tryz.prog.bytesOf 67 = 16 := by kernel_rfl
    rw [hb]
    simp only [List.length_map, List.length_range]
    omega
set_option maxRecDepth 100000 in
theorem open_cells {H : Type} {enc : TypeId × Value → H} {W : World} {base : Nat} {sp : Nat → Bool} {held : Bool} {n : Nat} {cs : List Value} {x : DataW H × List MemPlace} (hl : cs.length = 5)
    (h : DataW.trod enc Tryz.prog W base sp held n 35 cs = some x) : ∃ q : S35, k35.K W q cs ∧ (q.f4.length = 0 ∨ ∃ m ∈ x.1.weights Tryz.prog 35, q.f4.length * 16 ≤ m) := by
  obtain ⟨xs, m, _, hxx, _, hxl, hf⟩ := DataW.trod_struct Tryz.underlying35 h
  have hc : Tryz.prog.cellsOf 3 = 1 := by kernel_rfl
  have hc2 : Tryz.prog.cellsOf 33 = 1 := by kernel_rfl
  match cs, hl with
  | [v0, v1, v2, v3, v4], _ =>
    match xs, hxl with
    | [y0, y1, y2, y3, y4], _ =>
      have h0 := hf 0 _ rfl
      have h1 := hf 1 _ rfl
      have h2 := hf 2 _ rfl
      have h3 := hf 3 _ rfl
      have h4 := hf 4 _ rfl
      simp [hc, hc2] at h0 h1 h2 h3 h4
      obtain ⟨a, ea, _, wa⟩ := DataW.trod_int Tryz.underlying3 h0
      obtain ⟨b, eb, _, wb⟩ := DataW.trod_int Tryz.underlying3 h1
      obtain ⟨c, ec, _, wc⟩ := DataW.trod_int Tryz.underlying3 h2
      obtain ⟨d, ed, _, wd⟩ := DataW.trod_int Tryz.underlying3 h3
      obtain ⟨A, cp, l, e4, hl4, hC4, hsz4⟩ := open_txs h4
      simp at ea eb ec ed
      subst ea eb ec ed e4
      refine ⟨⟨a, b, c, d, l⟩, k35_mk W ⟨a, b, c, d, l⟩ hl4 hC4, hsz4.imp id (fun ⟨m', h1, h2⟩ => ⟨m', ?_, h2⟩)⟩
      rw [hxx]
      simp only [DataW.weights, Tryz.underlying35, List.map_cons, List.map_nil, DataW.weightsEach, List.mem_append]
      simp [h1]
theorem weights_all {H : Type} {P : Program} {e : TypeId} {d : DataW H} {n : Nat} : ∀ {ds : List (DataW H)}, d ∈ ds → n ∈ d.weights P e → n ∈ DataW.weightsAll P e ds
  | [], h, _ => by cases h
  | d0 :: ds, h, hn => by
    simp only [DataW.weightsAll, List.mem_append]
    rcases List.mem_cons.1 h with rfl | h
    · exact .inl hn
    · exact .inr (weights_all h hn)
theorem blocks_at {W : World} {A : Option Addr} {n : Nat} {l : List Blk} (h : k35.C W A n l) (j : Nat) (hj : j < n) : ∃ (ad : Addr) (q : BV), l[j]? = some q.b ∧ A = some ad ∧ W.cell? (ad.add (j * 5)) = some (.int .i64 q.b.f0) ∧ W.cell? ⟨(ad.add (j * 5)).block, (ad.add (j * 5)).off + 1, none⟩ = some (.int .i64 q.b.f1) ∧ W.cell? ⟨(ad.add (j * 5)).block, (ad.add (j * 5)).off + 2, none⟩ = some (.int .i64 q.b.f2) ∧
      W.cell? ⟨(ad.add (j * 5)).block, (ad.add (j * 5)).off + 3, none⟩ = some (.int .i64 q.b.f3) ∧ W.cell? ⟨(ad.add (j * 5)).block, (ad.add (j * 5)).off + 4, none⟩ = some (.slice q.A q.b.f4.length q.c) ∧ q.b.f4.length ≤ q.c ∧ k67.C W q.A q.b.f4.length q.b.f4 := by
  obtain ⟨ad, A4, c4, e, h0, h1, h2, h3, h4, h5, h6⟩ := at_T35 h (j : Int) (by omega) (by omega)
  have hlen : l.length = n := h.1
  have hb : l[j]? = some (rd_T35 l (j : Int)) := by
    simp [rd_T35, List.getD_eq_getElem?_getD, List.getElem?_eq_getElem (show j < l.length by omega)]
  refine ⟨ad, ⟨rd_T35 l (j : Int), A4, c4⟩, hb, e, ?_, ?_, ?_, ?_, ?_, h5, h6⟩
  · simpa using h0
  · simpa using h1
  · simpa using h2
  · simpa using h3
  · simpa using h4
end Go.Np.Tryz
set_option linter.unusedVariables false
set_option linter.unusedSimpArgs false
namespace Go.Np.Tryz
open Go.Proofs Go.Proofs.YtlllhpnpgcphcaaGreat.PX
theorem Tr.mem_names {t : Tr} {n : Int} : n ∈ t.names ↔ t.has n = true := by
  unfold Tr.names
  rw [uniq_mem, Tr.has_iff]
theorem Tr.high_has {t : Tr} {n : Int} (hO : t.Ok) (h : t.has n = true) : t.high n = ((t.path n).length : Int) := by
  unfold Tr.high
  rw [if_neg (fun e => by rw [e, hO.no_zero] at h; cases h), if_pos h]
theorem Tr.high_pos {t : Tr} {n : Int} (hO : t.Ok) (h : t.has n = true) : 1 ≤ t.high n := by
  rw [Tr.high_has hO h]
  unfold Tr.has at h
  obtain ⟨e, he⟩ := Option.isSome_iff_exists.1 h
  rw [hO.path_has he]
  simp; omega
def Tr.better (t : Tr) (u y : Int) : Prop := t.high y < t.high u ∨ (t.high y = t.high u ∧ u ≤ y)
theorem Tr.better.trans {t : Tr} {a b c : Int} (h : t.better a b) (k : t.better b c) : t.better a c := by
  unfold Tr.better at *; omega
theorem Tr.better.refl (t : Tr) (a : Int) : t.better a a := .inr ⟨rfl, Int.le_refl _⟩
theorem Tr.low_better (t : Tr) (m y : Int) : (t.low m y = m ∨ t.low m y = y) ∧ t.better (t.low m y) m ∧ t.better (t.low m y) y := by
  unfold Tr.low
  by_cases h : t.cmp y m < 0
  · rw [if_pos h]
    rw [Tr.cmp_neg] at h
    refine ⟨.inr rfl, ?_, Tr.better.refl t y⟩
    unfold Tr.better; omega
  · rw [if_neg h]
    rw [Tr.cmp_neg] at h
    refine ⟨.inl rfl, Tr.better.refl t m, ?_⟩
    unfold Tr.better; omega
theorem Tr.fold_low (t : Tr) : ∀ (l : List Int) (x : Int), (l.foldl t.low x = x ∨ l.foldl t.low x ∈ l) ∧ t.better (l.foldl t.low x) x ∧ ∀ y ∈ l, t.better (l.foldl t.low x) y
  | [], x => ⟨.inl rfl, Tr.better.refl t x, by simp⟩
  | z :: l, x => by
    obtain ⟨h1, h2, h3⟩ := Tr.fold_low t l (t.low x z)
    obtain ⟨k1, k2, k3⟩ := t.low_better x z
    refine ⟨?_, h2.trans k2, ?_⟩
    · simp only [List.foldl_cons, List.mem_cons]
      rcases h1 with h1 | h1
      · rw [h1]; rcases k1 with k1 | k1
        · exact .inl k1
        · exact .inr (.inl k1)
      · exact .inr (.inr h1)
    · intro y hy
      rcases List.mem_cons.1 hy with rfl | hy
      · exact h2.trans k3
      · exact h3 y hy
theorem Tr.tip_spec {t : Tr} (h : t.names ≠ []) : t.tip ∈ t.names ∧ ∀ y ∈ t.names, t.better t.tip y := by
  unfold Tr.tip
  cases hn : t.names with
  | nil => exact absurd hn h
  | cons x l =>
    obtain ⟨h1, h2, h3⟩ := t.fold_low l x
    refine ⟨?_, ?_⟩
    · rcases h1 with h1 | h1
      · show l.foldl t.low x ∈ x :: l
        rw [h1]; simp
      · exact List.mem_cons_of_mem _ h1
    · intro y hy
      rcases List.mem_cons.1 hy with rfl | hy
      · exact h2
      · exact h3 y hy
theorem Tr.tip_empty {t : Tr} (h : t.names = []) : t.tip = 0 := by unfold Tr.tip; rw [h]; rfl
theorem Tr.tip_has {t : Tr} (h : t.names ≠ []) : t.has t.tip = true := Tr.mem_names.1 (Tr.tip_spec h).1
end Go.Np.Tryz
set_option linter.unusedVariables false
set_option linter.unusedSimpArgs false
namespace Go.Np
open Go.RowKit
theorem FrX.keep {X : Nat → Prop} {w w1 w' : World} (h : FrX X w1 w') (hX : ∀ k, k < w.heap.size → X k) (h0 : Fr [] w w1) : Fr [] w w' := by
  obtain ⟨S, h1, h2⟩ := h
  exact (h0.trans h1 (fun x hx => .inr (Nat.le_of_not_lt (fun hl => h2 x hx (hX x hl))))).mono (fun x hx => by simp at hx)
end Go.Np
namespace Go.Np.Tryz
open Go.RowKit Go.Proofs Go.Proofs.YtlllhpnpgcphcaaGreat.PX Go.Proofs.YtlllhpnpgcphcaaGreatW.PrintWords
def BlkIn (W : World) (g : Nat) (q : BV) : Prop := W.heap[g]? = some (.cells #[.int .i64 q.b.f0, .int .i64 q.b.f1, .int .i64 q.b.f2, .int .i64 q.b.f3, .slice q.A q.b.f4.length q.c] 35 (0, 0))
theorem BlkIn.cells {W : World} {g : Nat} {q : BV} (h : BlkIn W g q) : W.cell? ⟨g, 0, none⟩ = some (.int .i64 q.b.f0) ∧ W.cell? ⟨g, 1, none⟩ = some (.int .i64 q.b.f1) ∧ W.cell? ⟨g, 2, none⟩ = some (.int .i64 q.b.f2) ∧ W.cell? ⟨g, 3, none⟩ = some (.int .i64 q.b.f3) ∧ W.cell? ⟨g, 4, none⟩ = some (.slice q.A q.b.f4.length q.c) := by
  have e0 := cell_of h 0
  have e1 := cell_of h 1
  have e2 := cell_of h 2
  have e3 := cell_of h 3
  have e4 := cell_of h 4
  simp at e0 e1 e2 e3 e4
  exact ⟨e0, e1, e2, e3, e4⟩
theorem BlkIn.fr {W W' : World} {g : Nat} {q : BV} (h : BlkIn W g q) (hF : Fr [] W W') : BlkIn W' g q := (hF.block g (Array.getElem?_eq_some_iff.1 h).1 (by simp)).trans h
theorem BlkIn.frX {X : Nat → Prop} {W W' : World} {g : Nat} {q : BV} (h : BlkIn W g q) (hF : FrX X W W') (hx : X g) : BlkIn W' g q := (hF.block (Array.getElem?_eq_some_iff.1 h).1 hx).trans h
theorem BlkIn.made {w W : World} {q : BV} (hW : W = w.alloc (.cells #[.int .i64 q.b.f0, .int .i64 q.b.f1, .int .i64 q.b.f2, .int .i64 q.b.f3, .slice q.A q.b.f4.length q.c] 35)) : BlkIn W w.heap.size q := by rw [hW]; exact heap_alloc_new _ _
theorem copy_C {w : World} (q : BV) (h : k67.C w q.A q.b.f4.length q.b.f4) (hl : q.b.f4.length ≤ 8796093022208) :
    Calls Tryz.prog 15 #[.agg #[.int .i64 q.b.f0, .int .i64 q.b.f1, .int .i64 q.b.f2, .int .i64 q.b.f3, .slice q.A q.b.f4.length q.c]] w fun e w' => ∃ A' c', e = .returned (.agg #[.int .i64 q.b.f0, .int .i64 q.b.f1, .int .i64 q.b.f2, .int .i64 q.b.f3, .slice A' q.b.f4.length c']) ∧ q.b.f4.length ≤ c' ∧ k67.C w' A' q.b.f4.length q.b.f4 ∧ Fr [] w w' := by
  refine (copy_calls q h hl).mono ?_
  rintro e w' ⟨A', c', rfl, h1, h2, h3⟩
  obtain ⟨B, d, e, h4, h5⟩ := flatT_C h1
  injection e with e1 _ e3
  subst e1 e3
  exact ⟨_, _, rfl, h4, h5, h3⟩
end Go.Np.Tryz
set_option linter.unusedVariables false
set_option linter.unusedSimpArgs false
set_option linter.unusedVariables false
set_option linter.unusedSimpArgs false
namespace Go.Np.Tryz
open Go.RowKit Go.Proofs Go.Proofs.YtlllhpnpgcphcaaGreat.PX Go.Proofs.YtlllhpnpgcphcaaGreatW.PrintWords
theorem wr_step (j : Nat) (h : j < 1000000000000000) : wrap64 ((j : Int) + 1) = ((j + 1 : Nat) : Int) := by rw [wr_in _ (by omega)]; rfl
theorem rnum_ev : ∀ (m : Nat) (x : Int) (l : List Int), 0 ≤ x → x < 18446744073709551616 → x < 128 ^ (m + 1) → l.length + m + 1 < 1000000 → ∀ k, m + 1 ≤ k → ∃ r, neaptideref01_Num.l0 k x l = some r ∧ r.length ≤ l.length + m + 1
  | 0, x, l, h0, h1, h2, hl, k, hk => by
    obtain ⟨k, rfl⟩ : ∃ j, k = j + 1 := ⟨k - 1, by omega⟩
    unfold neaptideref01_Num.l0
    have e : Int.tdiv x 128 = x / 128 := Int.tdiv_eq_ediv_of_nonneg h0
    have e2 : IntKind.u64.wrap (x / 128) = x / 128 := by simp [IntKind.wrap, IntKind.bits, IntKind.signed]; omega
    have h3 : x / 128 = 0 := by simp at h2; omega
    rw [e, e2, if_pos h3, if_pos (by omega)]
    exact ⟨_, rfl, by simp⟩
  | m + 1, x, l, h0, h1, h2, hl, k, hk => by
    obtain ⟨k, rfl⟩ : ∃ j, k = j + 1 := ⟨k - 1, by omega⟩
    unfold neaptideref01_Num.l0
    have e : Int.tdiv x 128 = x / 128 := Int.tdiv_eq_ediv_of_nonneg h0
    have e2 : IntKind.u64.wrap (x / 128) = x / 128 := by simp [IntKind.wrap, IntKind.bits, IntKind.signed]; omega
    rw [e, e2]
    by_cases h3 : x / 128 = 0
    · rw [if_pos h3, if_pos (by omega)]
      exact ⟨_, rfl, by simp⟩
    · rw [if_neg h3, if_pos (by omega)]
      obtain ⟨r, h4, h5⟩ := rnum_ev m (x / 128) (l ++ [(Int.tmod x 128 % 256 + 128) % 256]) (by omega) (by omega) (by rw [Int.pow_succ] at h2; omega) (by simp; omega) k (by omega)
      exact ⟨r, h4, by simp at h5; omega⟩
theorem rnums_ev (l : List Int) (h1 : ∀ x ∈ l, -1 ≤ x) (h2 : l.length ≤ 64) : ∀ (n j : Nat) (x4 : List Int), j + n = l.length → x4.length ≤ 10 * j → ∀ k, n + 12 ≤ k → ∃ r, neaptideref01_Nums.l0 k x4 l (l.length : Int) (j : Int) = some (r, 0)
  | 0, j, x4, hj, hx, k, hk => by
    obtain ⟨k, rfl⟩ : ∃ j, k = j + 1 := ⟨k - 1, by omega⟩
    unfold neaptideref01_Nums.l0
    rw [if_neg (by omega)]
    exact ⟨_, rfl⟩
  | n + 1, j, x4, hj, hx, k, hk => by
    obtain ⟨k, rfl⟩ : ∃ j, k = j + 1 := ⟨k - 1, by omega⟩
    unfold neaptideref01_Nums.l0
    have hm : rd l (j : Int) ∈ l := by unfold rd; simp [List.getD_eq_getElem?_getD, List.getElem?_eq_getElem (show j < l.length by omega)]
    have hv := h1 _ hm
    have hu := u64_range ((IntKind.u64.wrap (rd l (j : Int))) + 1)
    obtain ⟨r, h3, h4⟩ := rnum_ev 9 _ [] hu.1 hu.2 (by have := hu.2; omega) (by simp) k (by omega)
    rw [if_pos (by omega), if_pos (by omega), if_pos (by omega), if_neg (by omega)]
    unfold neaptideref01_Num.f
    rw [h3]
    simp only [Option.bind_some]
    simp at h4
    rw [if_pos (by omega), wr_step j (by omega)]
    exact rnums_ev l h1 h2 n (j + 1) (x4 ++ r) (by omega) (by simp; omega) k (by omega)
theorem rnums_f (l : List Int) (h1 : ∀ x ∈ l, -1 ≤ x) (h2 : l.length ≤ 64) (k : Nat) (hk : l.length + 12 ≤ k) : ∃ r, neaptideref01_Nums.f k l = some (r, 0) := by
  unfold neaptideref01_Nums.f
  rw [if_neg (by omega)]
  exact rnums_ev l h1 h2 l.length 0 [] (by omega) (by simp) k hk
theorem rright_tx (x y : Int) : neaptideref06_Right.f x y = some (okTx ⟨x, y⟩) := by
  unfold neaptideref06_Right.f okTx
  by_cases h1 : x > 0 <;> by_cases h2 : x ≤ 1000000 <;> by_cases h3 : y ≥ 0 <;> by_cases h4 : y ≤ 1000 <;> simp [h1, h2, h3, h4] <;> omega
theorem rlist_in (x0 : List S67) (x4 : List Int) (x15 : List S67) (x16 x17 : Int) (y : List S67) (a b : Int) (hy : y.length ≤ 3) (h4 : x4.length ≤ 100) :
    ∀ (m i : Nat), i + m = y.length → ∀ k, neaptideref06_List.l1 (m + 1 + k) x0 x4 x15 x16 x17 y (y.length : Int) (i : Int) a b =
      if (y.drop i).any (fun t => decide (t.f0 = a)) = true then some ([], 61) else neaptideref06_List.l0 k x0 (x4 ++ [a, b]) x15 x16 (wrap64 (x17 + 1))
  | 0, i, hi, k => by
    rw [show 0 + 1 + k = k + 1 from by omega]
    unfold neaptideref06_List.l1
    rw [if_neg (by omega), List.drop_eq_nil_of_le (by omega)]
    simp only [Option.bind_some, List.any_nil]
    rw [if_pos (by simp; omega)]
    simp
  | m + 1, i, hi, k => by
    have hlt : i < y.length := by omega
    have hd : y.drop i = rd_T67 y (i : Int) :: y.drop (i + 1) := by
      rw [List.drop_eq_getElem_cons hlt]; simp [rd_T67, List.getD_eq_getElem?_getD, List.getElem?_eq_getElem hlt]
    rw [show m + 1 + 1 + k = (m + 1 + k) + 1 from by omega]
    unfold neaptideref06_List.l1
    rw [if_pos (by omega), if_pos (by omega), if_pos (by omega), hd]
    simp only [List.any_cons]
    by_cases hc : (rd_T67 y (i : Int)).f0 = a
    · rw [if_pos hc]; simp [hc]
    · rw [if_neg hc, wr_step i (by omega), rlist_in x0 x4 x15 x16 x17 y a b hy h4 m (i + 1) (by omega) k]
      simp [hc]
theorem rlist_ev (l : List S67) (h2 : l.length ≤ 3) : ∀ (n j : Nat) (x4 : List Int), j + n = l.length → x4.length ≤ 2 * j + 1 → (∀ x ∈ x4, -1 ≤ x) → ((l.take j).map (·.f0)).Nodup → ∀ k, 10 * n + 30 ≤ k →
    ∃ r, neaptideref06_List.l0 k l x4 l (l.length : Int) (j : Int) = some (r, if ((l.drop j).all okTx && decide ((l.map (·.f0)).Nodup)) = true then 0 else 61)
  | 0, j, x4, hj, hx, h4, hn, k, hk => by
    obtain ⟨k, rfl⟩ : ∃ j, k = j + 1 := ⟨k - 1, by omega⟩
    unfold neaptideref06_List.l0
    rw [if_neg (by omega), List.drop_eq_nil_of_le (by omega)]
    obtain ⟨r, hr⟩ := rnums_f x4 h4 (by omega) k (by omega)
    rw [List.take_of_length_le (by omega)] at hn
    rw [hr]
    exact ⟨r, by simp [hn]⟩
  | n + 1, j, x4, hj, hx, h4, hn, k, hk => by
    obtain ⟨k, rfl⟩ : ∃ j, k = j + 1 := ⟨k - 1, by omega⟩
    have hlt : j < l.length := by omega
    have hd : l.drop j = rd_T67 l (j : Int) :: l.drop (j + 1) := by
      rw [List.drop_eq_getElem_cons hlt]; simp [rd_T67, List.getD_eq_getElem?_getD, List.getElem?_eq_getElem hlt]
    have ht : l.take (j + 1) = l.take j ++ [rd_T67 l (j : Int)] := by
      rw [List.take_succ_eq_append_getElem hlt]; simp [rd_T67, List.getD_eq_getElem?_getD, List.getElem?_eq_getElem hlt]
    unfold neaptideref06_List.l0
    rw [if_pos (by omega), if_pos (by omega), if_pos (by omega), rright_tx]
    simp only [Option.bind_some]
    obtain ⟨q, hq⟩ : ∃ q, q = rd_T67 l (j : Int) := ⟨_, rfl⟩
    rw [← hq] at hd ht ⊢
    by_cases hb : okTx q = true
    · rw [if_pos hb, if_pos (by omega)]
      have hb1 := hb
      simp only [okTx, Bool.and_eq_true, decide_eq_true_eq] at hb1
      have hlen : (l.take ((j : Int).toNat)).length = j := by simp; omega
      have e1 := rlist_in l x4 l (l.length : Int) (j : Int) (l.take ((j : Int).toNat)) q.f0 q.f1 (by omega) (by omega) j 0 (by rw [hlen]; omega) (k - j - 1)
      rw [show j + 1 + (k - j - 1) = k from by omega] at e1
      rw [show ((0 : Nat) : Int) = 0 from rfl] at e1
      rw [e1]
      simp only [Int.toNat_natCast, List.drop_zero]
      by_cases hin : (l.take j).any (fun t => decide (t.f0 = q.f0)) = true
      · rw [if_pos hin]
        have hnd : ¬ (l.map (·.f0)).Nodup := by
          intro h
          have h3 : ((l.take (j + 1)).map (·.f0)).Nodup := h.sublist ((List.take_sublist _ _).map _)
          rw [ht, List.map_append, List.nodup_append] at h3
          obtain ⟨u, hu, he⟩ := List.any_eq_true.1 hin
          exact h3.2.2 u.f0 (List.mem_map.2 ⟨u, hu, rfl⟩) q.f0 (by simp) (by simpa using he)
        refine ⟨[], ?_⟩
        rw [if_neg (by simp [hnd])]
      · rw [if_neg hin, wr_step j (by omega)]
        have hn2 : ((l.take (j + 1)).map (·.f0)).Nodup := by
          rw [ht, List.map_append, List.nodup_append]
          refine ⟨hn, by simp, ?_⟩
          intro a ha b hb2 he
          obtain ⟨u, hu, rfl⟩ := List.mem_map.1 ha
          simp at hb2
          subst hb2
          exact hin (List.any_eq_true.2 ⟨u, hu, by simpa using he⟩)
        obtain ⟨r, hr⟩ := rlist_ev l h2 n (j + 1) (x4 ++ [q.f0, q.f1]) (by omega) (by simp; omega) (by
          intro x hx2
          rcases List.mem_append.1 hx2 with hx2 | hx2
          · exact h4 x hx2
          · simp at hx2; omega) hn2 (k - j - 1) (by omega)
        refine ⟨r, ?_⟩
        rw [hr, hd]
        simp [hb]
    · rw [if_neg hb, hd]
      simp only [Bool.not_eq_true] at hb
      refine ⟨[], ?_⟩
      rw [if_neg (by simp [hb])]
theorem rlist_f (l : List S67) (k : Nat) (hk : 60 ≤ k) : ∃ r, neaptideref06_List.f k l = some (r, if okTxs l = true then 0 else 61) := by
  unfold neaptideref06_List.f okTxs unlikeB
  by_cases h : (l.length : Int) > 3
  · rw [if_pos h]
    refine ⟨[], ?_⟩
    rw [if_neg (by simp; omega)]
  · rw [if_neg h]
    obtain ⟨r, hr⟩ := rlist_ev l (by omega) l.length 0 [(l.length : Int)] (by omega) (by simp) (by simp <;> omega) (by simp) k (by omega)
    refine ⟨r, ?_⟩
    rw [show ((0 : Nat) : Int) = 0 from rfl] at hr
    rw [hr]
    congr 3
    have h3 : l.length ≤ 3 := by omega
    simp [h3, Bool.and_comm]
theorem rparts_ev (n : Int) (h0 : n ≠ 0) (hr : -9223372036854775808 ≤ n ∧ n ≤ 9223372036854775807) : ∃ a b c, neaptideref07_Parts.f n = some (a, b, c, namedB n) ∧ (namedB n = true → a = n / 65536) := by
  unfold neaptideref07_Parts.f namedB
  by_cases h : n < 0
  · rw [if_pos h]
    refine ⟨0, 0, 0, ?_, ?_⟩
    · simp; omega
    · simp; omega
  · rw [if_neg h]
    have e1 : Int.tdiv n 65536 = n / 65536 := Int.tdiv_eq_ediv_of_nonneg (by omega)
    have e2 : Int.tdiv n 256 = n / 256 := Int.tdiv_eq_ediv_of_nonneg (by omega)
    have e3 : Int.tmod (n / 256) 256 = n / 256 % 256 := Int.tmod_eq_emod_of_nonneg (by omega)
    rw [e1, e2, wr_in (n / 65536) (by omega), wr_in (n / 256) (by omega), e3]
    have e4 : n % 65536 / 256 = n / 256 % 256 := by omega
    by_cases h1 : n / 65536 ≥ 1
    · rw [if_pos h1]
      by_cases h2 : n / 65536 ≤ 4095
      · rw [if_pos h2]
        refine ⟨n / 65536, n / 256 % 256, Int.tmod n 256, ?_, fun _ => rfl⟩
        congr 4
        have a1 : (65536 : Int) ≤ n := by omega
        have a2 : n ≤ 268435455 := by omega
        simp only [a1, a2, decide_true, Bool.true_and, e4]
        congr 1
        exact propext ⟨fun h => by omega, fun h => by omega⟩
      · rw [if_neg h2]
        refine ⟨n / 65536, n / 256 % 256, Int.tmod n 256, ?_, ?_⟩
        · congr 4
          symm
          simp; omega
        · simp <;> omega
    · rw [if_neg h1]
      refine ⟨n / 65536, n / 256 % 256, Int.tmod n 256, ?_, ?_⟩
      · congr 4
        symm
        simp; omega
      · simp <;> omega
def rng (b : Blk) : Prop := -9223372036854775808 ≤ b.f3 ∧ b.f3 ≤ 9223372036854775807
theorem rright_ev (b : Blk) (hr : rng b) (k : Nat) (hk : 70 ≤ k) : neaptideref07_Right.f k b.f0 b.f1 b.f2 b.f3 b.f4 = some (rightB b) := by
  obtain ⟨k, rfl⟩ : ∃ j, k = j + 1 := ⟨k - 1, by omega⟩
  have ht : neaptideref07_Right.j0 (k + 1) true b.f0 b.f1 b.f2 b.f3 b.f4 = some false := by unfold neaptideref07_Right.j0; simp
  have hf : neaptideref07_Right.j0 (k + 1) false b.f0 b.f1 b.f2 b.f3 b.f4 = some ((decide (b.f3 = 0) || (namedB b.f3 && decide (b.f3 / 65536 < b.f0))) && okTxs b.f4) := by
    obtain ⟨r, hl⟩ := rlist_f b.f4 k (by omega)
    simp only [neaptideref07_Right.j0, Bool.false_eq_true, if_false, hl, Option.bind_some]
    by_cases h4 : okTxs b.f4 = true
    · rw [if_pos h4, if_pos rfl]
      by_cases h3 : b.f3 = 0
      · rw [if_pos h3]; simp [h3, h4]
      · rw [if_neg h3]
        obtain ⟨a1, a2, a3, h5, h6⟩ := rparts_ev b.f3 h3 hr
        rw [h5]
        simp only [Option.bind_some]
        by_cases h7 : namedB b.f3 = true
        · rw [if_pos h7, h6 h7]; simp [h3, h4, h7]
        · rw [if_neg h7]; simp [h3, h7]
    · rw [if_neg h4, if_neg (by decide)]; simp [h4]
  unfold neaptideref07_Right.f rightB
  rw [ht]
  by_cases h0 : b.f0 < 1
  · rw [if_pos h0]; simp; omega
  rw [if_neg h0]
  by_cases h1 : b.f0 > 4095
  · rw [if_pos h1]; simp; omega
  rw [if_neg h1]
  by_cases h2 : b.f1 < 0
  · rw [if_pos h2]; simp; omega
  rw [if_neg h2]
  by_cases h3 : b.f1 > 6
  · rw [if_pos h3]; simp; omega
  rw [if_neg h3]
  by_cases h4 : b.f2 < 0
  · rw [if_pos h4]; simp; omega
  rw [if_neg h4]
  by_cases h5 : b.f2 > 255
  · rw [decide_eq_true h5, ht]; simp; omega
  rw [decide_eq_false h5, hf]
  have g0 : 1 ≤ b.f0 := by omega
  have g1 : b.f0 ≤ 4095 := by omega
  have g2 : 0 ≤ b.f1 := by omega
  have g3 : b.f1 ≤ 6 := by omega
  have g4 : 0 ≤ b.f2 := by omega
  have g5 : b.f2 ≤ 255 := by omega
  simp [g0, g1, g2, g3, g4, g5]
theorem rname_ev (b : Blk) (hr : rng b) (k : Nat) (hk : 70 ≤ k) : neaptideref07_Name.f k b.f0 b.f1 b.f2 b.f3 b.f4 = some (nameB b) := by
  unfold neaptideref07_Name.f
  rw [rright_ev b hr k hk]
  simp only [Option.bind_some]
  unfold nameB
  by_cases h : rightB b = true
  · rw [if_pos h, if_pos h]
    have h1 := h
    simp only [rightB, Bool.and_eq_true, decide_eq_true_eq] at h1
    rw [wr_in (b.f0 * 256) (by omega), wr_in (b.f0 * 256 + b.f1) (by omega), wr_in ((b.f0 * 256 + b.f1) * 256) (by omega), wr_in _ (by omega)]
    congr 1
    omega
  · rw [if_neg h, if_neg h]
end Go.Np.Tryz
set_option linter.unusedVariables false
set_option linter.unusedSimpArgs false
namespace Go.Np.Tryz
open Go.RowKit Go.Proofs Go.Proofs.YtlllhpnpgcphcaaGreat.PX Go.Proofs.YtlllhpnpgcphcaaGreatW.PrintWords
structure Tr.Rng (t : Tr) : Prop where
  known : ∀ e ∈ t.known, rng e.blk
  wait : ∀ b ∈ t.wait, rng b
def Tr.ks (t : Tr) : List Blk := t.known.map (·.blk)
theorem rd28 (l : List Blk) (j : Nat) (h : j < l.length) : rd_T35 l (j : Int) = l[j] := by
  simp [rd_T35, List.getD_eq_getElem?_getD, List.getElem?_eq_getElem h]
theorem rdI (l : List Int) (j : Nat) (h : j < l.length) : rd l (j : Int) = l[j] := by
  simp [rd, List.getD_eq_getElem?_getD, List.getElem?_eq_getElem h]
theorem rget_l (L : List Kn) (hL : ∀ e ∈ L, e.name = nameB e.blk ∧ rng e.blk) (hlen : L.length ≤ 1000000) (n : Int) : ∀ (m j : Nat), j + m = L.length → ∀ k, m + 71 ≤ k →
    neaptideref08_Get.l0 k n (L.map (·.blk)) ((L.map (·.blk)).length : Int) (j : Int) =
      match (L.drop j).find? (fun e => decide (e.name = n)) with
      | some e => some (e.blk.f0, e.blk.f1, e.blk.f2, e.blk.f3, e.blk.f4, true)
      | none => some (0, 0, 0, 0, [], false)
  | 0, j, hj, k, hk => by
    obtain ⟨k, rfl⟩ : ∃ j, k = j + 1 := ⟨k - 1, by omega⟩
    simp only [neaptideref08_Get.l0]
    rw [if_neg (by simp; omega), List.drop_eq_nil_of_le (by omega)]
    rfl
  | m + 1, j, hj, k, hk => by
    obtain ⟨k, rfl⟩ : ∃ j, k = j + 1 := ⟨k - 1, by omega⟩
    have hlt : j < L.length := by omega
    have hd : L.drop j = L[j] :: L.drop (j + 1) := List.drop_eq_getElem_cons hlt
    have hr : rd_T35 (L.map (·.blk)) (j : Int) = L[j].blk := by rw [rd28 _ _ (by simpa using hlt)]; simp
    obtain ⟨e1, e2⟩ := hL L[j] (List.getElem_mem hlt)
    simp only [neaptideref08_Get.l0, hr]
    rw [if_pos (by simp; omega), if_pos (by omega), if_pos (by simp; omega), rname_ev _ e2 k (by omega), ← e1, hd]
    simp only [Option.bind_some, List.find?_cons]
    by_cases hc : L[j].name = n
    · rw [if_pos hc]; simp [hc]
    · rw [if_neg hc, wr_step j (by omega), rget_l L hL hlen n m (j + 1) (by omega) k (by omega)]
      simp [hc]
theorem rget_ev {t : Tr} (hG : t.Good) (hR : t.Rng) (W : List Blk) (n : Int) (k : Nat) (hk : 480 ≤ k) :
    neaptideref08_Get.f k t.ks W n = some ((t.get n).f0, (t.get n).f1, (t.get n).f2, (t.get n).f3, (t.get n).f4, t.has n) := by
  have h4 := hG.ok.few
  unfold neaptideref08_Get.f Tr.ks
  have := rget_l t.known (fun e he => ⟨(hG.ok.known e he).1, hR.known e he⟩) (by omega) n t.known.length 0 (by omega) k (by omega)
  rw [show ((0 : Nat) : Int) = 0 from rfl] at this
  rw [this, List.drop_zero]
  unfold Tr.get Tr.has Tr.find
  cases t.known.find? fun e => decide (e.name = n) with
  | none => rfl
  | some e => rfl
theorem rready_ev {t : Tr} (hG : t.Good) (hR : t.Rng) (W : List Blk) (b : Blk) (k : Nat) (hk : 480 ≤ k) :
    neaptideref08_ready.f k t.ks W b.f0 b.f1 b.f2 b.f3 b.f4 = some (t.ready b) := by
  unfold neaptideref08_ready.f Tr.ready
  rw [rget_ev hG hR W b.f3 k hk]
  simp only [Option.bind_some]
  by_cases h : b.f3 = 0
  · rw [if_pos h]; simp [h]
  · rw [if_neg h]; simp [h]
theorem rwaiting_l (K L : List Blk) (hL : ∀ b ∈ L, rng b) (hlen : L.length ≤ 1000000) : ∀ (m j : Nat) (x3 : List Int), j + m = L.length → x3 = (L.take j).map nameB → ∀ k, m + 71 ≤ k →
    neaptideref08_Waiting.l0 k x3 L (L.length : Int) (j : Int) = some (L.map nameB)
  | 0, j, x3, hj, hx, k, hk => by
    obtain ⟨k, rfl⟩ : ∃ j, k = j + 1 := ⟨k - 1, by omega⟩
    simp only [neaptideref08_Waiting.l0]
    rw [if_neg (by omega), hx, List.take_of_length_le (by omega)]
  | m + 1, j, x3, hj, hx, k, hk => by
    obtain ⟨k, rfl⟩ : ∃ j, k = j + 1 := ⟨k - 1, by omega⟩
    have hlt : j < L.length := by omega
    have hl3 : x3.length ≤ 1000000 := by rw [hx]; simp; omega
    simp only [neaptideref08_Waiting.l0, rd28 L j hlt]
    rw [if_pos (by omega), if_pos (by omega), if_pos (by omega), rname_ev _ (hL _ (List.getElem_mem hlt)) k (by omega)]
    simp only [Option.bind_some]
    rw [if_pos (by omega), wr_step j (by omega)]
    exact rwaiting_l K L hL hlen m (j + 1) _ (by omega) (by rw [hx, List.take_succ_eq_append_getElem hlt, List.map_append]; rfl) k (by omega)
theorem rwaiting_ev {t : Tr} (hG : t.Good) (hR : t.Rng) (K : List Blk) (k : Nat) (hk : 480 ≤ k) : neaptideref08_Waiting.f k K t.wait = some (t.wait.map nameB) := by
  have := hG.wl
  unfold neaptideref08_Waiting.f
  have := rwaiting_l K t.wait hR.wait (by omega) t.wait.length 0 [] (by omega) (by simp) k (by omega)
  simpa using this
theorem rin_l (L : List Int) (n : Int) (hlen : L.length ≤ 1000000) : ∀ (m j : Nat), j + m = L.length → ∀ k, m + 1 ≤ k → neaptideref08_in.l0 k n L (L.length : Int) (j : Int) = some (decide (n ∈ L.drop j))
  | 0, j, hj, k, hk => by
    obtain ⟨k, rfl⟩ : ∃ j, k = j + 1 := ⟨k - 1, by omega⟩
    simp only [neaptideref08_in.l0]
    rw [if_neg (by omega), List.drop_eq_nil_of_le (by omega)]; simp
  | m + 1, j, hj, k, hk => by
    obtain ⟨k, rfl⟩ : ∃ j, k = j + 1 := ⟨k - 1, by omega⟩
    have hlt : j < L.length := by omega
    have hd : L.drop j = L[j] :: L.drop (j + 1) := List.drop_eq_getElem_cons hlt
    simp only [neaptideref08_in.l0, rdI L j hlt]
    rw [if_pos (by omega), if_pos (by omega), if_pos (by omega), hd]
    by_cases hc : L[j] = n
    · rw [if_pos hc]; simp [hc]
    · have hc' : ¬ n = L[j] := fun e => hc e.symm
      rw [if_neg hc, wr_step j (by omega), rin_l L n hlen m (j + 1) (by omega) k (by omega)]
      simp only [List.mem_cons, hc', false_or]
theorem rin_ev (L : List Int) (n : Int) (hlen : L.length ≤ 1000000) (k : Nat) (hk : L.length + 1 ≤ k) : neaptideref08_in.f k L n = some (decide (n ∈ L)) := by
  have := rin_l L n hlen L.length 0 (by omega) k hk
  unfold neaptideref08_in.f
  simpa using this
theorem rgrow_ev {K W : List Blk} (b : Blk) (hK : K.length ≤ 400) : neaptideref08_grow.f K W b.f0 b.f1 b.f2 b.f3 b.f4 = if K.length < 400 then some (K ++ [b], W, true) else some (K, W, false) := by
  unfold neaptideref08_grow.f
  by_cases h : K.length < 400
  · rw [if_neg (by omega), if_pos h]
    simp only [Option.bind_some]
    rw [if_pos (by simp; omega), if_pos (by simp; omega)]
    simp
  · rw [if_pos (by omega), if_neg h]
theorem Tr.get_of {t : Tr} {n : Int} {e : Kn} (h : t.find n = some e) : t.get n = e.blk := by unfold Tr.get; rw [h]
theorem Tr.has_find {t : Tr} {n : Int} (h : t.has n = true) : ∃ e, t.find n = some e := Option.isSome_iff_exists.1 h
theorem rpath_ev {t : Tr} (hG : t.Good) (hR : t.Rng) (W : List Blk) : ∀ (m : Nat) (n : Int), (t.path n).length = m → ∀ k, 480 + m + 1 ≤ k → neaptideref08_Path.f k t.ks W n = some (t.path n)
  | m, n, hm, k, hk => by
    obtain ⟨k, rfl⟩ : ∃ j, k = j + 1 := ⟨k - 1, by omega⟩
    simp only [neaptideref08_Path.f, rget_ev hG hR W n k (by omega), Option.bind_some]
    cases hh : t.has n with
    | false => simp [Tr.path_none hh]
    | true =>
      obtain ⟨e, he⟩ := Tr.has_find hh
      have hw := hG.ok.path_has he
      have hl : (t.path e.blk.f3).length + 1 = m := by rw [← hm, hw]; simp
      obtain ⟨m, rfl⟩ : ∃ j, m = j + 1 := ⟨m - 1, by omega⟩
      have h4 := hG.path400 e.blk.f3
      rw [Tr.get_of he, rpath_ev hG hR W m e.blk.f3 (by omega) k (by omega)]
      simp only [Option.bind_some, if_true]
      rw [if_pos (by omega), hw]
theorem rpath_f {t : Tr} (hG : t.Good) (hR : t.Rng) (W : List Blk) (n : Int) (k : Nat) (hk : 900 ≤ k) : neaptideref08_Path.f k t.ks W n = some (t.path n) := by
  have := hG.path400 n
  exact rpath_ev hG hR W _ n rfl k (by omega)
theorem rheight_f {t : Tr} (hG : t.Good) (hR : t.Rng) (W : List Blk) (n : Int) (k : Nat) (hk : 900 ≤ k) : neaptideref08_Height.f k t.ks W n = some (t.high n) := by
  unfold neaptideref08_Height.f Tr.high
  by_cases h0 : n = 0
  · rw [if_pos h0, if_pos h0]
  · rw [if_neg h0, if_neg h0, rget_ev hG hR W n k (by omega)]
    simp only [Option.bind_some]
    by_cases hh : t.has n = true
    · rw [if_pos hh, if_pos hh, rpath_f hG hR W n k hk]; rfl
    · rw [if_neg hh, if_neg hh]
theorem rback_l (p : List Int) (s : Int) (hp : p.length ≤ 100000) : ∀ (m i : Nat), i + m = p.length → (i : Int) ≤ max 0 s → ∀ k, m + 1 ≤ k →
    neaptideref08_Back.l0 k s (p.take m) (i : Int) = some (if (p.length : Int) ≤ max 0 s then 0 else p.getD (p.length - 1 - s.toNat) 0)
  | m, i, hi, his, k, hk => by
    obtain ⟨k, rfl⟩ : ∃ j, k = j + 1 := ⟨k - 1, by omega⟩
    have hl : (p.take m).length = m := by simp; omega
    simp only [neaptideref08_Back.l0]
    rw [hl]
    by_cases hm : m = 0
    · subst hm
      have e1 : (if ((0 : Nat) : Int) > 0 then (0 : Nat) else 1) = 1 := by simp
      rw [if_pos (show (p.length : Int) ≤ max 0 s by omega)]
      by_cases hs : (i : Int) < s
      · rw [if_pos hs]; simp
      · rw [if_neg hs]; simp
    · obtain ⟨m, rfl⟩ : ∃ j, m = j + 1 := ⟨m - 1, by omega⟩
      have e2 : wrap64 (((m + 1 : Nat) : Int) - 1) = (m : Int) := by rw [wr_in _ (by omega)]; omega
      rw [e2]
      by_cases hs : (i : Int) < s
      · rw [if_pos hs, if_pos (by omega), if_pos (by omega), if_pos (by omega), wr_step i (by omega), List.take_take]
        have := rback_l p s hp m (i + 1) (by omega) (by omega) k (by omega)
        rw [show min (m : Int).toNat (m + 1) = m by omega]
        exact this
      · rw [if_neg hs, if_neg (by omega), if_pos (by omega), if_pos (by omega), if_neg (by omega)]
        congr 1
        rw [rdI _ _ (by rw [hl]; omega), List.getElem_take]
        have e3 : p.length - 1 - s.toNat = m := by omega
        rw [e3, List.getD_eq_getElem?_getD, List.getElem?_eq_getElem (by omega)]
        rfl
theorem rback_f {t : Tr} (hG : t.Good) (hR : t.Rng) (W : List Blk) (n s : Int) (k : Nat) (hk : 900 ≤ k) : neaptideref08_Back.f k t.ks W n s = some (t.back n s) := by
  have h4 := hG.path400 n
  unfold neaptideref08_Back.f Tr.back
  rw [rpath_f hG hR W n k hk]
  simp only [Option.bind_some]
  have := rback_l (t.path n) s (by omega) (t.path n).length 0 (by omega) (by omega) k (by omega)
  rw [List.take_length] at this
  exact this
end Go.Np.Tryz
set_option linter.unusedVariables false
set_option linter.unusedSimpArgs false
namespace Go.Np.Tryz
open Go.RowKit Go.Proofs Go.Proofs.YtlllhpnpgcphcaaGreat.PX Go.Proofs.YtlllhpnpgcphcaaGreatW.PrintWords
abbrev VB (W : World) (P : Nat → Prop) (v : Value) (l : List Blk) : Prop := Kd.V k35 35 W 0 P v l
theorem VB.fr {W W' : World} {P : Nat → Prop} {v : Value} {l : List Blk} (h : VB W P v l) (hF : Fr [] W W') : VB W' P v l := Kd.V_below h hF.below
theorem VB.frX {X P : Nat → Prop} {W W' : World} {v : Value} {l : List Blk} (h : VB W P v l) (hF : FrX X W W') (hP : ∀ k, P k → k < W.heap.size → X k) : VB W' P v l := Kd.V_step h (fun k hk hl => hF.block hl (hP k hk hl))
theorem VB.weak {W : World} {P P' : Nat → Prop} {v : Value} {l : List Blk} (h : VB W P v l) (hP : ∀ k, P k → P' k) : VB W P' v l := Kd.V_mono h hP
theorem VB.bound {W : World} {P : Nat → Prop} {v : Value} {l : List Blk} (h : VB W P v l) : VB W (fun k => P k ∧ k < W.heap.size) v l := Kd.V_bound h
theorem VB.C {W : World} {P : Nat → Prop} {A : Option Addr} {n c : Nat} {l : List Blk} (h : VB W P (.slice A n c) l) : n = l.length ∧ n ≤ c ∧ k35.C W A l.length l := Kd.V_reads' h
theorem VB.at {W : World} {P : Nat → Prop} {A : Option Addr} {n c : Nat} {l : List Blk} (h : VB W P (.slice A n c) l) (j : Nat) (hj : j < n) : ∃ (ad : Addr) (q : BV), l[j]? = some q.b ∧ A = some ad ∧ W.cell? (ad.add (j * 5)) = some (.int .i64 q.b.f0) ∧ W.cell? ⟨(ad.add (j * 5)).block, (ad.add (j * 5)).off + 1, none⟩ = some (.int .i64 q.b.f1) ∧ W.cell? ⟨(ad.add (j * 5)).block, (ad.add (j * 5)).off + 2, none⟩ = some (.int .i64 q.b.f2) ∧
      W.cell? ⟨(ad.add (j * 5)).block, (ad.add (j * 5)).off + 3, none⟩ = some (.int .i64 q.b.f3) ∧ W.cell? ⟨(ad.add (j * 5)).block, (ad.add (j * 5)).off + 4, none⟩ = some (.slice q.A q.b.f4.length q.c) ∧ q.b.f4.length ≤ q.c ∧ Kd.F k67 W P q.A q.b.f4.length q.b.f4 := by
  obtain ⟨hn, hc, hC⟩ := h.C
  obtain ⟨ad, q, h1, h2, k0, k1, k2, k3, k4, h5, h6⟩ := blocks_at hC j (by omega)
  subst h2
  refine ⟨ad, q, h1, rfl, k0, k1, k2, k3, k4, h5, ?_⟩
  obtain ⟨cs, hl, hK, hcc⟩ := Kd.V_get h z35 (j : Int) (by omega) (by omega)
  have hb : l.getD (j : Int).toNat z35 = q.b := by simp [List.getD_eq_getElem?_getD, h1]
  rw [hb] at hK
  obtain ⟨A4, c4, rfl, l4, g4⟩ := k35_openF hK
  have := hcc 4 _ rfl
  rw [add_field _ _ 4 (by omega)] at this
  have he := Option.some.inj (this.symm.trans k4)
  injection he with e1 _ _
  rw [← e1]; exact g4
theorem VB.nil (W : World) (P : Nat → Prop) : VB W P (.slice none 0 0) [] := Kd.V_nil _ _ _ _ _
theorem rname_calls {w : World} (b : Blk) (A : Option Addr) (c : Nat) (h : Kd.C k67 w A b.f4.length b.f4) (hc : b.f4.length ≤ c) (hr : rng b) :
    Calls Tryz.prog 76 #[.agg #[.int .i64 b.f0, .int .i64 b.f1, .int .i64 b.f2, .int .i64 b.f3, .slice A b.f4.length c]] w fun e w' => e = .returned (.int .i64 (nameB b)) ∧ Fr [] w w' :=
  (neaptideref07_Name.calls 70 b.f0 b.f1 b.f2 b.f3 A c b.f4 (nameB b) w h hc (rname_ev b hr 70 (by omega))).mono (fun e w' h => ⟨h.1, Fr.of_below [] h.2⟩)
section
variable {t : Tr} {P : Nat → Prop} {w : World} {A0 A1 : Option Addr} {c0 c1 : Nat}
theorem rget_calls (hG : t.Good) (hR : t.Rng) (h0 : VB w P (.slice A0 t.ks.length c0) t.ks) (h1 : VB w P (.slice A1 t.wait.length c1) t.wait) (n : Int) :
    Calls Tryz.prog 60 #[.agg #[.slice A0 t.ks.length c0, .slice A1 t.wait.length c1], .int .i64 n] w fun e w' => ∃ A c, e = .returned (.tuple #[.agg #[.int .i64 (t.get n).f0, .int .i64 (t.get n).f1, .int .i64 (t.get n).f2, .int .i64 (t.get n).f3, .slice A (t.get n).f4.length c], .bool (t.has n)]) ∧ (t.get n).f4.length ≤ c ∧ Kd.F k67 w' (fun k => P k ∨ w.heap.size ≤ k) A (t.get n).f4.length (t.get n).f4 ∧ Fr [] w w' := by
  refine (neaptideref08_Get.calls 480 P A0 c0 t.ks A1 c1 t.wait n _ _ _ _ _ _ w h0 h1.C.2.2 h1.C.2.1 (rget_ev hG hR t.wait n 480 (by omega))).mono ?_
  rintro e w' ⟨v, rfl, ⟨A, c, rfl, hl, hF⟩, hB⟩
  exact ⟨A, c, rfl, hl, hF, Fr.of_below [] hB⟩
theorem rready_calls (hG : t.Good) (hR : t.Rng) (h0 : VB w P (.slice A0 t.ks.length c0) t.ks) (h1 : VB w P (.slice A1 t.wait.length c1) t.wait) (b : Blk) (A : Option Addr) (c : Nat) (hC : Kd.C k67 w A b.f4.length b.f4) (hc : b.f4.length ≤ c) :
    Calls Tryz.prog 79 #[.agg #[.slice A0 t.ks.length c0, .slice A1 t.wait.length c1], .agg #[.int .i64 b.f0, .int .i64 b.f1, .int .i64 b.f2, .int .i64 b.f3, .slice A b.f4.length c]] w fun e w' => e = .returned (.bool (t.ready b)) ∧ Fr [] w w' :=
  (neaptideref08_ready.calls 480 A0 c0 t.ks A1 c1 t.wait b.f0 b.f1 b.f2 b.f3 A c b.f4 _ w h0.C.2.2 h0.C.2.1 h1.C.2.2 h1.C.2.1 hC hc (rready_ev hG hR t.wait b 480 (by omega))).mono (fun e w' h => ⟨h.1, Fr.of_below [] h.2⟩)
theorem rwaiting_calls (hG : t.Good) (hR : t.Rng) (h0 : VB w P (.slice A0 t.ks.length c0) t.ks) (h1 : VB w P (.slice A1 t.wait.length c1) t.wait) :
    Calls Tryz.prog 78 #[.agg #[.slice A0 t.ks.length c0, .slice A1 t.wait.length c1]] w fun e w' => ∃ v, e = .returned v ∧ SlI w' v (t.wait.map nameB) ∧ Fr [] w w' := by
  refine (neaptideref08_Waiting.calls 480 A0 c0 t.ks A1 c1 t.wait _ w h0.C.2.2 h0.C.2.1 h1.C.2.2 h1.C.2.1 (rwaiting_ev hG hR t.ks 480 (by omega))).mono ?_
  rintro e w' ⟨v, rfl, hv, hB⟩
  obtain ⟨A, c, rfl, hl, hF⟩ := Kd.R_V (base' := 0) hv
  exact ⟨_, rfl, ⟨A, c, rfl, hl, Kd.F_now hF⟩, Fr.of_below [] hB⟩
theorem rin_calls {l : List Int} {v : Value} (h : SlI w v l) (hl : l.length ≤ 1000000) (n : Int) :
    Calls Tryz.prog 77 #[v, .int .i64 n] w fun e w' => e = .returned (.bool (decide (n ∈ l))) ∧ Fr [] w w' := by
  obtain ⟨A, c, rfl, hc, hC⟩ := h
  refine (neaptideref08_in.calls (l.length + 1) A c l n _ w hC hc (rin_ev l n hl _ (Nat.le_refl _))).mono ?_
  rintro e w' ⟨h1, ⟨m, rfl⟩⟩
  exact ⟨h1, (Fr.refl _ _).drewN m⟩
theorem rgrow_calls (hG : t.Good) (h0 : VB w P (.slice A0 t.ks.length c0) t.ks) (h1 : VB w P (.slice A1 t.wait.length c1) t.wait) (q : BV) (hc : q.b.f4.length ≤ q.c) (hF : Kd.F k67 w P q.A q.b.f4.length q.b.f4) (hm : t.room = true) :
    Calls Tryz.prog 80 #[.agg #[.slice A0 t.ks.length c0, .slice A1 t.wait.length c1], .agg #[.int .i64 q.b.f0, .int .i64 q.b.f1, .int .i64 q.b.f2, .int .i64 q.b.f3, .slice q.A q.b.f4.length q.c]] w fun e w' => ∃ B0 d0 B1 d1, e = .returned (.tuple #[.agg #[.slice B0 (t.grow q.b).ks.length d0, .slice B1 t.wait.length d1], .bool true]) ∧
      VB w' (fun k => P k ∨ w.heap.size ≤ k) (.slice B0 (t.grow q.b).ks.length d0) (t.grow q.b).ks ∧ VB w' (fun k => P k ∨ w.heap.size ≤ k) (.slice B1 t.wait.length d1) t.wait ∧ Fr [] w w' := by
  have h4 : t.ks.length < 400 := by simpa [Tr.ks, Tr.room] using hm
  have hg : (t.grow q.b).ks = t.ks ++ [q.b] := by simp [Tr.ks, Tr.grow]
  refine (neaptideref08_grow.calls P A0 c0 t.ks P A1 c1 t.wait q.b.f0 q.b.f1 q.b.f2 q.b.f3 P q.A q.c q.b.f4 _ _ _ w h0 h1 (Kd.V_mk hc hF) (by rw [rgrow_ev q.b (by omega), if_pos h4])).mono ?_
  rintro e w' ⟨v0, v1, rfl, hv0, hv1, hB⟩
  rw [← hg] at hv0
  obtain ⟨B0, d0, rfl⟩ := Kd.V_slice hv0
  obtain ⟨B1, d1, rfl⟩ := Kd.V_slice hv1
  exact ⟨B0, d0, B1, d1, rfl, Kd.V_mono hv0 (fun k hk => hk.imp (fun h => by rcases h with h | h | h <;> exact h) id), Kd.V_mono hv1 (fun k hk => hk.imp (fun h => by rcases h with h | h | h <;> exact h) id), Fr.of_below [] hB⟩
theorem rgrow_full (hG : t.Good) (h0 : VB w P (.slice A0 t.ks.length c0) t.ks) (h1 : VB w P (.slice A1 t.wait.length c1) t.wait) (q : BV) (hc : q.b.f4.length ≤ q.c) (hF : Kd.F k67 w P q.A q.b.f4.length q.b.f4) (hm : t.room = false) :
    Calls Tryz.prog 80 #[.agg #[.slice A0 t.ks.length c0, .slice A1 t.wait.length c1], .agg #[.int .i64 q.b.f0, .int .i64 q.b.f1, .int .i64 q.b.f2, .int .i64 q.b.f3, .slice q.A q.b.f4.length q.c]] w fun e w' => ∃ B0 d0 B1 d1, e = .returned (.tuple #[.agg #[.slice B0 t.ks.length d0, .slice B1 t.wait.length d1], .bool false]) ∧
      VB w' (fun k => P k ∨ w.heap.size ≤ k) (.slice B0 t.ks.length d0) t.ks ∧ VB w' (fun k => P k ∨ w.heap.size ≤ k) (.slice B1 t.wait.length d1) t.wait ∧ Fr [] w w' := by
  have h4 : ¬ t.ks.length < 400 := by simpa [Tr.ks, Tr.room] using hm
  have h5 : t.ks.length ≤ 400 := by have := hG.ok.few; simpa [Tr.ks] using this
  refine (neaptideref08_grow.calls P A0 c0 t.ks P A1 c1 t.wait q.b.f0 q.b.f1 q.b.f2 q.b.f3 P q.A q.c q.b.f4 _ _ _ w h0 h1 (Kd.V_mk hc hF) (by rw [rgrow_ev q.b h5, if_neg h4])).mono ?_
  rintro e w' ⟨v0, v1, rfl, hv0, hv1, hB⟩
  obtain ⟨B0, d0, rfl⟩ := Kd.V_slice hv0
  obtain ⟨B1, d1, rfl⟩ := Kd.V_slice hv1
  exact ⟨B0, d0, B1, d1, rfl, Kd.V_mono hv0 (fun k hk => hk.imp (fun h => by rcases h with h | h | h <;> exact h) id), Kd.V_mono hv1 (fun k hk => hk.imp (fun h => by rcases h with h | h | h <;> exact h) id), Fr.of_below [] hB⟩
end
abbrev RowN (W : World) (ok : Nat → Prop) (v : Value) (l : List Blk) : Prop := Kd.N k35 35 W 0 ok v l
theorem RowN.empty (W : World) (ok : Nat → Prop) (h : ok W.heap.size) : RowN (W.alloc (.cells #[] 35)) ok (.slice (some ⟨W.heap.size, 0, none⟩) 0 0) [] := by
  refine Kd.R_N ⟨fun k hk => ?_, [], ⟨rfl, .inr ⟨W.heap.size, 0, #[], rfl, Nat.zero_le _, heap_alloc_new _ _, Nat.le_refl _, Nat.zero_le _, by simp, by simp⟩⟩, Reps.none _ _⟩
  simp [Value.ownBlock] at hk
  rw [← hk]; exact h
theorem RowN.VB {W : World} {ok : Nat → Prop} {v : Value} {l : List Blk} (h : RowN W ok v l) : VB W ok v l := Kd.N_V h
theorem RowN.form {W : World} {ok : Nat → Prop} {v : Value} {l : List Blk} (h : RowN W ok v l) : ∃ A c, v = .slice A l.length c := Kd.N_slice h
theorem RowN.at0 {W : World} {ok : Nat → Prop} {A : Option Addr} {n c : Nat} {l : List Blk} (h : RowN W ok (.slice A n c) l) (hn : 0 < n) : ∃ g, A = some ⟨g, 0, none⟩ := by
  obtain ⟨_, rows, _, ⟨_, inner, ho, _⟩, _⟩ := h
  rcases ho.2 with ⟨h2, _⟩ | ⟨g, cap, cur, h2, _⟩
  · injection h2 with _ h3 _; omega
  · injection h2 with h2 _ _; exact ⟨g, h2⟩
theorem VB.tail {W : World} {P : Nat → Prop} {g n c : Nat} {l : List Blk} (h : VB W P (.slice (some ⟨g, 0, none⟩) (n + 1) (c + 2)) l) : VB W P (.slice (some ⟨g, 5, none⟩) n (c + 1)) (l.drop 1) := by
  obtain ⟨h1, h2, _⟩ := h.C
  have hF := Kd.V_F h
  rw [h1] at hF
  have h3 := Kd.F_cut (m := 1) hF (by omega) (by omega : l.length ≤ c + 2)
  rw [if_neg (by omega)] at h3
  have hl : (l.drop 1).length = n := by rw [List.length_drop]; omega
  rw [← hl]
  exact Kd.V_mk (by rw [hl]; omega) h3
theorem info28' : (Tryz.prog.info? 35).map (fun i => (i.zero, i.size, i.bytes)) = some (some (.agg #[.int .i64 0, .int .i64 0, .int .i64 0, .int .i64 0, .slice none 0 0]), 5, 56) := by kernel_rfl
section
variable {ops : Array Oper} {rest : List Oper} {o : Oper} {a : Act} {Q : Exit → Act → World → Prop}
theorem fresh_of {v v1 : Value} {W : World} (h : v1.ownBlock = v.ownBlock ∨ ∃ b, v1.ownBlock = some b ∧ W.heap.size ≤ b) : Fresh v.ownBlock.toList v1.ownBlock.toList W := by
  intro k hk
  rcases h with h | ⟨b, h, hb⟩
  · rw [h] at hk; exact .inl hk
  · rw [h] at hk; simp at hk; subst hk; exact .inr hb
theorem wp_rows28 {W : World} (hgd : o.guard = none) (s x : Operand)
    (ho : o.op = .call { callee := .builtin .append, args := #[s, x], argTypes := #[28, 28] })
    {v : Value} {l m : List Blk} {A : Option Addr} {n c : Nat} {ok okp : Nat → Prop} (hs : a.eval s = v) (hx : a.eval x = .slice A n c) (HO : RowN W ok v l) (HR : VB W okp (.slice A n c) m)
    (hokp : ∀ k, okp k → k < W.heap.size → ok k ∧ some k ≠ v.ownBlock) (hfresh : ∀ k, W.heap.size ≤ k → ok k) (hl : l.length + n ≤ 1000)
    (h : ∀ v1 w1, RowN w1 ok v1 (l ++ m) → Fr v.ownBlock.toList W w1 → Fresh v.ownBlock.toList v1.ownBlock.toList W → wpList Tryz.prog ops Q rest (a.put o.dst v1) w1) :
    wpList Tryz.prog ops Q (o :: rest) a W :=
  Kd.N_append_rows k35 (w0 := W) 0 hgd s x 28 35 _ 56 ho Tryz.underlying28 info28' rfl (by decide) (by omega) v l m A n c ok (fun k => okp k ∧ k < W.heap.size) hs hx HO (Kd.F_bound (Kd.V_F HR)) (fun k hk => hokp k hk.1 hk.2) hfresh (Below.refl _ _) (Nat.zero_le _) (by omega)
    (fun v1 w1 h1 _ h3 h4 => h v1 w1 h1 (Fr.grown _ h3 (fun k hk => .inl (by simp [hk]))) (fresh_of h4))
theorem wp_one28 {W : World} (hgd : o.guard = none) (s x : Operand)
    (ho : o.op = .call { callee := .builtin .append, args := #[s, x], argTypes := #[28, 28] })
    {v : Value} {l : List Blk} {q : BV} {ok okp : Nat → Prop} (hs : a.eval s = v) (hx : a.eval x = .slice (some ⟨W.heap.size, 0, none⟩) 1 1) (HO : RowN W ok v l) (hc : q.b.f4.length ≤ q.c) (HR : Kd.F k67 W okp q.A q.b.f4.length q.b.f4)
    (hokp : ∀ k, okp k → k < W.heap.size → ok k ∧ some k ≠ v.ownBlock) (hfresh : ∀ k, W.heap.size ≤ k → ok k) (hl : l.length ≤ 1000)
    (h : ∀ v1 w1, RowN w1 ok v1 (l ++ [q.b]) → Fr v.ownBlock.toList W w1 → Fresh v.ownBlock.toList v1.ownBlock.toList W → wpList Tryz.prog ops Q rest (a.put o.dst v1) w1) :
    wpList Tryz.prog ops Q (o :: rest) a (W.alloc (.cells #[.int .i64 q.b.f0, .int .i64 q.b.f1, .int .i64 q.b.f2, .int .i64 q.b.f3, .slice q.A q.b.f4.length q.c] 35)) :=
  Kd.N_append k35 (w0 := W) 0 hgd s x 28 35 _ 56 ho Tryz.underlying28 info28' rfl (by decide) (by omega) v l q.b q.cells ok (fun k => okp k ∧ k < W.heap.size) hs hx (k35_mkF W _ q.b hc (Kd.F_bound HR)) (fun k hk => hokp k hk.1 hk.2) hfresh HO (Below.refl _ _) (Nat.zero_le _) (by omega)
    (fun v1 w1 h1 _ h3 h4 => h v1 w1 h1 (Fr.grown _ h3 (fun k hk => .inl (by simp [hk]))) (fresh_of h4))
end
end Go.Np.Tryz
set_option linter.unusedVariables false
set_option linter.unusedSimpArgs false
namespace Go.Np.Tryz
open Go.RowKit Go.Proofs Go.Proofs.YtlllhpnpgcphcaaGreat.PX Go.Proofs.YtlllhpnpgcphcaaGreatW.PrintWords
theorem results_ctt {P : Program} {fn : Func} {p u v : Tmp} {ty : TypeId} (h : fn.results = #[.cell p ty, .tmp u, .tmp v]) (tmps : Array Value) (w : World) (g : Nat) (t : TypeId) (cs : Array Value) (fr : Nat × Nat) (d : TypeDesc)
    (hp : tmps.getD p undef = .pointer (some ⟨g, 0, none⟩)) (hg : w.heap[g]? = some (.cells cs t fr))
    (hu : P.underlying ty = some d) (hd : (match d with | .struct _ | .array _ _ => true | _ => false) = true) (hi : (P.info? ty).map (·.size) = some cs.size) :
    (results fn tmps).run P w = .ok (.tuple #[.agg cs, tmps.getD u undef, tmps.getD v undef]) w := by
  have hp' : tmps[p]?.getD undef = .pointer (some ⟨g, 0, none⟩) := by simpa using hp
  simp [results, h, hp', asAddr, run_loadVar_row w g t ty cs fr d hg hu hd hi]
theorem two_put {w : World} {b : Nat} {x0 x1 : Value} {t : TypeId} (h : w.heap[b]? = some (.cells #[x0, x1] t (0, 0))) (u0 u1 : Value) :
    ((w.setCell ⟨b, 0, none⟩ u0).setCell ⟨b, 1, none⟩ u1).heap[b]? = some (.cells #[u0, u1] t (0, 0)) := by
  have h1 := obj_set h 0 u0
  have h2 := obj_set h1 1 u1
  simpa using h2
def TreeIn (W : World) (g : Nat) (v0 v1 : Value) : Prop := W.heap[g]? = some (.cells #[v0, v1] 30 (0, 0))
theorem TreeIn.fr {W W' : World} {g : Nat} {v0 v1 : Value} (h : TreeIn W g v0 v1) (hF : Fr [] W W') : TreeIn W' g v0 v1 := (hF.block g (Array.getElem?_eq_some_iff.1 h).1 (by simp)).trans h
theorem TreeIn.lt {W : World} {g : Nat} {v0 v1 : Value} (h : TreeIn W g v0 v1) : g < W.heap.size := (Array.getElem?_eq_some_iff.1 h).1
theorem TreeIn.cells {W : World} {g : Nat} {v0 v1 : Value} (h : TreeIn W g v0 v1) : W.cell? ⟨g, 0, none⟩ = some v0 ∧ W.cell? ⟨g, 1, none⟩ = some v1 ∧ W.frozen? ⟨g, 0, none⟩ = false ∧ W.frozen? ⟨g, 1, none⟩ = false := by
  have e0 := cell_of h 0
  have e1 := cell_of h 1
  simp at e0 e1
  exact ⟨e0, e1, froz_of h 0, froz_of h 1⟩
def RAddRes (P : Nat → Prop) (w : World) (t : Tr) (b : Blk) (e : Ending) (w' : World) : Prop :=
  ∃ B0 d0 B1 d1 D d, e = .returned (.tuple #[.agg #[.slice B0 (t.add b).1.ks.length d0, .slice B1 (t.add b).1.wait.length d1], .slice D (t.add b).2.1.length d, .bool (t.add b).2.2]) ∧
    VB w' (fun k => P k ∨ w.heap.size ≤ k) (.slice B0 (t.add b).1.ks.length d0) (t.add b).1.ks ∧ VB w' (fun k => P k ∨ w.heap.size ≤ k) (.slice B1 (t.add b).1.wait.length d1) (t.add b).1.wait ∧ OwnI w.heap.size w' (.slice D (t.add b).2.1.length d) (t.add b).2.1 ∧ Fr [] w w'
def OKP (P : Nat → Prop) (w : World) (g : Nat) : Nat → Prop := fun k => (P k ∧ k < w.heap.size) ∨ g + 1 + 1 < k
theorem OKP.weak {P : Nat → Prop} {w : World} {g : Nat} (hg : w.heap.size ≤ g) : ∀ k, OKP P w g k → P k ∨ w.heap.size ≤ k := fun k hk => by
  rcases hk with hk | hk
  · exact .inl hk.1
  · exact .inr (by omega)
theorem OKP.ne {P : Nat → Prop} {w : World} {g : Nat} (hg : w.heap.size ≤ g) {i : Nat} (hi : g ≤ i) (hi2 : i ≤ g + 1 + 1) : ∀ k, OKP P w g k → k ≠ i := fun k hk => by
  rcases hk with hk | hk <;> omega
set_option maxHeartbeats 4000000 in
set_option maxRecDepth 100000 in
theorem radd_zero {P : Nat → Prop} {w : World} {t : Tr} {A0 A1 : Option Addr} {c0 c1 : Nat} (hG : t.Good) (hRg : t.Rng) (h0 : VB w P (.slice A0 t.ks.length c0) t.ks) (h1 : VB w P (.slice A1 t.wait.length c1) t.wait) (q : BV) (hc : q.b.f4.length ≤ q.c) (hF : Kd.F k67 w P q.A q.b.f4.length q.b.f4) (hr : rng q.b) (hn0 : nameB q.b = 0) :
    Calls Tryz.prog 47 #[.agg #[.slice A0 t.ks.length c0, .slice A1 t.wait.length c1], .agg #[.int .i64 q.b.f0, .int .i64 q.b.f1, .int .i64 q.b.f2, .int .i64 q.b.f3, .slice q.A q.b.f4.length q.c]] w fun e w' => RAddRes P w t q.b e w' := by
  refine calls_k fun R hR => ?_
  unfold RAddRes at hR
  rw [Tr.add_refused (.inl hn0)] at hR
  have H0W := Lib.hid h0
  have H1W := Lib.hid h1
  have HN0 := Lib.hid hn0
  clear hn0
  obtain ⟨N, hN⟩ : ∃ N, N = nameB q.b := ⟨_, rfl⟩
  obtain ⟨g, hg⟩ : ∃ g, g = w.heap.size := ⟨_, rfl⟩
  obtain ⟨W, hW⟩ : ∃ W, W = (((w.alloc (.cells #[.slice A0 t.ks.length c0, .slice A1 t.wait.length c1] 30)).alloc (.cells #[.int .i64 q.b.f0, .int .i64 q.b.f1, .int .i64 q.b.f2, .int .i64 q.b.f3, .slice q.A q.b.f4.length q.c] 35)).alloc (.cells #[.slice none 0 0, .slice none 0 0] 30)) := ⟨_, rfl⟩
  have hs1 : (w.alloc (.cells #[.slice A0 t.ks.length c0, .slice A1 t.wait.length c1] 30)).heap.size = g + 1 := by rw [hg]; simp
  have hs2 : ((w.alloc (.cells #[.slice A0 t.ks.length c0, .slice A1 t.wait.length c1] 30)).alloc (.cells #[.int .i64 q.b.f0, .int .i64 q.b.f1, .int .i64 q.b.f2, .int .i64 q.b.f3, .slice q.A q.b.f4.length q.c] 35)).heap.size = g + 1 + 1 := by rw [hg]; simp
  have hFW : Fr [] w W := by rw [hW]; exact (((Fr.refl _ _).alloc _).alloc _).alloc _
  have hT2 : TreeIn W g (.slice A0 t.ks.length c0) (.slice A1 t.wait.length c1) := by
    have h : TreeIn (w.alloc (.cells #[.slice A0 t.ks.length c0, .slice A1 t.wait.length c1] 30)) g (.slice A0 t.ks.length c0) (.slice A1 t.wait.length c1) := by rw [hg]; exact heap_alloc_new _ _
    rw [hW]; exact h.fr (((Fr.refl _ _).alloc _).alloc _)
  have hB3 : BlkIn W (g + 1) q := by
    have h : BlkIn ((w.alloc (.cells #[.slice A0 t.ks.length c0, .slice A1 t.wait.length c1] 30)).alloc (.cells #[.int .i64 q.b.f0, .int .i64 q.b.f1, .int .i64 q.b.f2, .int .i64 q.b.f3, .slice q.A q.b.f4.length q.c] 35)) (g + 1) q := by rw [← hs1]; exact heap_alloc_new _ _
    rw [hW]; exact h.fr ((Fr.refl _ _).alloc _)
  have hT4 : TreeIn W (g + 1 + 1) (.slice none 0 0) (.slice none 0 0) := by
    rw [hW, ← hs2]; exact heap_alloc_new _ _
  have hgw : w.heap.size ≤ g := Nat.le_of_eq hg.symm
  have HG := Lib.hid hG
  have HRG := Lib.hid hRg
  have HV0 := Lib.hid (h0.fr hFW)
  have HV1 := Lib.hid (h1.fr hFW)
  have HQF : Hid (Kd.F k67 W P q.A q.b.f4.length q.b.f4) := Kd.F_below hF hFW.below
  have HRQ := Lib.hid hr
  have HT2 := Lib.hid hT2
  have HB3 := Lib.hid hB3
  have HT4 := Lib.hid hT4
  have HFW := Lib.hid hFW
  have HNM := Lib.hid (rname_calls (w := W) q.b q.A q.c (Kd.F_now HQF.out) hc hr)
  rw [← hN] at HNM
  have HNN := Lib.hid hN
  obtain ⟨x20, x21, x22, x23⟩ := HT2.out.cells
  obtain ⟨e0, e1, e2, e3, e4⟩ := HB3.out.cells
  clear hG hRg h0 h1 hF hr hT2 hB3 hT4 hFW hN hs1 hs2
  have hN0 : N = 0 := HNN.out.trans HN0.out
  rw [hN0] at HNM
  have HGE : Hid (∀ W', Fr [] W W' → Calls Tryz.prog 60 #[.agg #[.slice A0 t.ks.length c0, .slice A1 t.wait.length c1], .int .i64 0] W' fun e w' => ∃ A c, e = .returned (.tuple #[.agg #[.int .i64 (t.get 0).f0, .int .i64 (t.get 0).f1, .int .i64 (t.get 0).f2, .int .i64 (t.get 0).f3, .slice A (t.get 0).f4.length c], .bool (t.has 0)]) ∧ (t.get 0).f4.length ≤ c ∧ Kd.F k67 w' (fun k => P k ∨ W'.heap.size ≤ k) A (t.get 0).f4.length (t.get 0).f4 ∧ Fr [] W' w') := fun W' hF' => rget_calls HG.out HRG.out (HV0.out.fr hF') (HV1.out.fr hF') 0
  go_enter Tryz.func47, Tryz.ntmps47
  go_upto_region 1 with (fail)
  rw [← hW, ← hg]
  clear hW hg
  go_upto_region 3 with (first
    | (go_at_call 76; refine HNM.out.mono ?_; rintro e w2 ⟨rfl, hF2⟩
       have HG2 := Lib.hid (HGE.out w2 hF2)
       replace x20 := cellF hF2 x20
       replace x21 := cellF hF2 x21
       have HF2 := Lib.hid hF2
       clear hF2 HNM HGE)
    | (go_at_call 60; refine HG2.out.mono ?_; rintro e w3 ⟨A3, d3, rfl, hd3, hF3, hw3⟩
       have HF3 := Lib.hid (HF2.out.trans hw3 (by simp))
       replace x20 := cellF hw3 x20
       replace x21 := cellF hw3 x21
       clear hF3 hw3 HG2 hd3))
  obtain ⟨W4, hW4⟩ : ∃ W4, W4 = w3.alloc (.cells #[.int .i64 (t.get 0).f0, .int .i64 (t.get 0).f1, .int .i64 (t.get 0).f2, .int .i64 (t.get 0).f3, .slice A3 (t.get 0).f4.length d3] 35) := ⟨_, rfl⟩
  have hF4 : Fr [] W W4 := by rw [hW4]; exact HF3.out.alloc _
  rw [← hW4]
  have HF4 := Lib.hid hF4
  clear hW4 x20 x21 x22 x23 e0 e1 e2 e3 e4
  obtain ⟨x20, x21, x22, x23⟩ := (HT2.out.fr hF4).cells
  obtain ⟨e0, e1, e2, e3, e4⟩ := (HB3.out.fr hF4).cells
  clear hF4
  generalize t.has 0 = hb at *
  have HF9 := HF4
  obtain ⟨z0, z1, z2, z3⟩ := (HT4.out.fr HF9.out).cells
  go_wp2
  have hb4 := two_put (HT4.out.fr HF9.out) (.slice A0 t.ks.length c0) (.slice A1 t.wait.length c1)
  have hf4 := ((HFW.out.trans HF9.out (by simp)).setCell (p := ⟨g + 1 + 1, 0, none⟩) (.inr (show w.heap.size ≤ g + 1 + 1 by omega)) (.slice A0 t.ks.length c0)).setCell (p := ⟨g + 1 + 1, 1, none⟩) (.inr (show w.heap.size ≤ g + 1 + 1 by omega)) (.slice A1 t.wait.length c1)
  refine bodyPost_ret (results_ctt rfl _ _ (g + 1 + 1) 30 _ (0, 0) _ rfl hb4 Tryz.underlying30 rfl (by kernel_rfl)) rfl ?_
  exact hR.out _ _ ⟨A0, c0, A1, c1, none, 0, by simp, (H0W.out.fr hf4).weak (fun k hk => .inl hk), (H1W.out.fr hf4).weak (fun k hk => .inl hk), OwnI.nil _ _, hf4⟩
set_option maxHeartbeats 4000000 in
set_option maxRecDepth 100000 in
theorem radd_has {P : Nat → Prop} {w : World} {t : Tr} {A0 A1 : Option Addr} {c0 c1 : Nat} (hG : t.Good) (hRg : t.Rng) (h0 : VB w P (.slice A0 t.ks.length c0) t.ks) (h1 : VB w P (.slice A1 t.wait.length c1) t.wait) (q : BV) (hc : q.b.f4.length ≤ q.c) (hF : Kd.F k67 w P q.A q.b.f4.length q.b.f4) (hr : rng q.b) (hn0 : nameB q.b ≠ 0) (hh : t.has (nameB q.b) = true) :
    Calls Tryz.prog 47 #[.agg #[.slice A0 t.ks.length c0, .slice A1 t.wait.length c1], .agg #[.int .i64 q.b.f0, .int .i64 q.b.f1, .int .i64 q.b.f2, .int .i64 q.b.f3, .slice q.A q.b.f4.length q.c]] w fun e w' => RAddRes P w t q.b e w' := by
  refine calls_k fun R hR => ?_
  unfold RAddRes at hR
  rw [Tr.add_refused (.inr (.inl hh))] at hR
  have H0W := Lib.hid h0
  have H1W := Lib.hid h1
  have HN0 := Lib.hid hn0
  have HHS := Lib.hid hh
  clear hn0 hh
  obtain ⟨N, hN⟩ : ∃ N, N = nameB q.b := ⟨_, rfl⟩
  obtain ⟨g, hg⟩ : ∃ g, g = w.heap.size := ⟨_, rfl⟩
  obtain ⟨W, hW⟩ : ∃ W, W = (((w.alloc (.cells #[.slice A0 t.ks.length c0, .slice A1 t.wait.length c1] 30)).alloc (.cells #[.int .i64 q.b.f0, .int .i64 q.b.f1, .int .i64 q.b.f2, .int .i64 q.b.f3, .slice q.A q.b.f4.length q.c] 35)).alloc (.cells #[.slice none 0 0, .slice none 0 0] 30)) := ⟨_, rfl⟩
  have hs1 : (w.alloc (.cells #[.slice A0 t.ks.length c0, .slice A1 t.wait.length c1] 30)).heap.size = g + 1 := by rw [hg]; simp
  have hs2 : ((w.alloc (.cells #[.slice A0 t.ks.length c0, .slice A1 t.wait.length c1] 30)).alloc (.cells #[.int .i64 q.b.f0, .int .i64 q.b.f1, .int .i64 q.b.f2, .int .i64 q.b.f3, .slice q.A q.b.f4.length q.c] 35)).heap.size = g + 1 + 1 := by rw [hg]; simp
  have hFW : Fr [] w W := by rw [hW]; exact (((Fr.refl _ _).alloc _).alloc _).alloc _
  have hT2 : TreeIn W g (.slice A0 t.ks.length c0) (.slice A1 t.wait.length c1) := by
    have h : TreeIn (w.alloc (.cells #[.slice A0 t.ks.length c0, .slice A1 t.wait.length c1] 30)) g (.slice A0 t.ks.length c0) (.slice A1 t.wait.length c1) := by rw [hg]; exact heap_alloc_new _ _
    rw [hW]; exact h.fr (((Fr.refl _ _).alloc _).alloc _)
  have hB3 : BlkIn W (g + 1) q := by
    have h : BlkIn ((w.alloc (.cells #[.slice A0 t.ks.length c0, .slice A1 t.wait.length c1] 30)).alloc (.cells #[.int .i64 q.b.f0, .int .i64 q.b.f1, .int .i64 q.b.f2, .int .i64 q.b.f3, .slice q.A q.b.f4.length q.c] 35)) (g + 1) q := by rw [← hs1]; exact heap_alloc_new _ _
    rw [hW]; exact h.fr ((Fr.refl _ _).alloc _)
  have hT4 : TreeIn W (g + 1 + 1) (.slice none 0 0) (.slice none 0 0) := by
    rw [hW, ← hs2]; exact heap_alloc_new _ _
  have hgw : w.heap.size ≤ g := Nat.le_of_eq hg.symm
  have HG := Lib.hid hG
  have HRG := Lib.hid hRg
  have HV0 := Lib.hid (h0.fr hFW)
  have HV1 := Lib.hid (h1.fr hFW)
  have HQF : Hid (Kd.F k67 W P q.A q.b.f4.length q.b.f4) := Kd.F_below hF hFW.below
  have HRQ := Lib.hid hr
  have HT2 := Lib.hid hT2
  have HB3 := Lib.hid hB3
  have HT4 := Lib.hid hT4
  have HFW := Lib.hid hFW
  have HNM := Lib.hid (rname_calls (w := W) q.b q.A q.c (Kd.F_now HQF.out) hc hr)
  rw [← hN] at HNM
  have HNN := Lib.hid hN
  obtain ⟨x20, x21, x22, x23⟩ := HT2.out.cells
  obtain ⟨e0, e1, e2, e3, e4⟩ := HB3.out.cells
  clear hG hRg h0 h1 hF hr hT2 hB3 hT4 hFW hN hs1 hs2
  have hNb : (N == 0) = false := by have := HN0.out; rw [← HNN.out] at this; simpa using this
  have HGE : Hid (∀ W', Fr [] W W' → Calls Tryz.prog 60 #[.agg #[.slice A0 t.ks.length c0, .slice A1 t.wait.length c1], .int .i64 N] W' fun e w' => ∃ A c, e = .returned (.tuple #[.agg #[.int .i64 (t.get N).f0, .int .i64 (t.get N).f1, .int .i64 (t.get N).f2, .int .i64 (t.get N).f3, .slice A (t.get N).f4.length c], .bool true]) ∧ (t.get N).f4.length ≤ c ∧ Kd.F k67 w' (fun k => P k ∨ W'.heap.size ≤ k) A (t.get N).f4.length (t.get N).f4 ∧ Fr [] W' w') := fun W' hF' => by
    have h := rget_calls HG.out HRG.out (HV0.out.fr hF') (HV1.out.fr hF') N
    rw [show t.has N = true by rw [HNN.out]; exact HHS.out] at h
    exact h
  go_enter Tryz.func47, Tryz.ntmps47
  go_upto_region 1 with (fail)
  rw [← hW, ← hg]
  clear hW hg
  go_upto_region 3 with (first
    | (go_at_call 76; refine HNM.out.mono ?_; rintro e w2 ⟨rfl, hF2⟩
       have HG2 := Lib.hid (HGE.out w2 hF2)
       replace x20 := cellF hF2 x20
       replace x21 := cellF hF2 x21
       have HF2 := Lib.hid hF2
       clear hF2 HNM HGE)
    | (go_at_call 60; refine HG2.out.mono ?_; rintro e w3 ⟨A3, d3, rfl, hd3, hF3, hw3⟩
       have HF3 := Lib.hid (HF2.out.trans hw3 (by simp))
       replace x20 := cellF hw3 x20
       replace x21 := cellF hw3 x21
       clear hF3 hw3 HG2 hd3))
  obtain ⟨W4, hW4⟩ : ∃ W4, W4 = w3.alloc (.cells #[.int .i64 (t.get N).f0, .int .i64 (t.get N).f1, .int .i64 (t.get N).f2, .int .i64 (t.get N).f3, .slice A3 (t.get N).f4.length d3] 35) := ⟨_, rfl⟩
  have hF4 : Fr [] W W4 := by rw [hW4]; exact HF3.out.alloc _
  rw [← hW4]
  have HF4 := Lib.hid hF4
  clear hW4 x20 x21 x22 x23 e0 e1 e2 e3 e4
  obtain ⟨x20, x21, x22, x23⟩ := (HT2.out.fr hF4).cells
  obtain ⟨e0, e1, e2, e3, e4⟩ := (HB3.out.fr hF4).cells
  clear hF4
  have HF9 := HF4
  obtain ⟨z0, z1, z2, z3⟩ := (HT4.out.fr HF9.out).cells
  go_wp2
  have hb4 := two_put (HT4.out.fr HF9.out) (.slice A0 t.ks.length c0) (.slice A1 t.wait.length c1)
  have hf4 := ((HFW.out.trans HF9.out (by simp)).setCell (p := ⟨g + 1 + 1, 0, none⟩) (.inr (show w.heap.size ≤ g + 1 + 1 by omega)) (.slice A0 t.ks.length c0)).setCell (p := ⟨g + 1 + 1, 1, none⟩) (.inr (show w.heap.size ≤ g + 1 + 1 by omega)) (.slice A1 t.wait.length c1)
  refine bodyPost_ret (results_ctt rfl _ _ (g + 1 + 1) 30 _ (0, 0) _ rfl hb4 Tryz.underlying30 rfl (by kernel_rfl)) rfl ?_
  exact hR.out _ _ ⟨A0, c0, A1, c1, none, 0, by simp, (H0W.out.fr hf4).weak (fun k hk => .inl hk), (H1W.out.fr hf4).weak (fun k hk => .inl hk), OwnI.nil _ _, hf4⟩
set_option maxHeartbeats 4000000 in
set_option maxRecDepth 100000 in
theorem radd_waits {P : Nat → Prop} {w : World} {t : Tr} {A0 A1 : Option Addr} {c0 c1 : Nat} (hG : t.Good) (hRg : t.Rng) (h0 : VB w P (.slice A0 t.ks.length c0) t.ks) (h1 : VB w P (.slice A1 t.wait.length c1) t.wait) (q : BV) (hc : q.b.f4.length ≤ q.c) (hF : Kd.F k67 w P q.A q.b.f4.length q.b.f4) (hr : rng q.b) (hn0 : nameB q.b ≠ 0) (hh : t.has (nameB q.b) = false) (hw : nameB q.b ∈ t.wait.map nameB) :
    Calls Tryz.prog 47 #[.agg #[.slice A0 t.ks.length c0, .slice A1 t.wait.length c1], .agg #[.int .i64 q.b.f0, .int .i64 q.b.f1, .int .i64 q.b.f2, .int .i64 q.b.f3, .slice q.A q.b.f4.length q.c]] w fun e w' => RAddRes P w t q.b e w' := by
  refine calls_k fun R hR => ?_
  unfold RAddRes at hR
  rw [Tr.add_refused (.inr (.inr hw))] at hR
  have H0W := Lib.hid h0
  have H1W := Lib.hid h1
  have HN0 := Lib.hid hn0
  have HHS := Lib.hid hh
  have HWI : Hid (decide (nameB q.b ∈ t.wait.map nameB) = true) := decide_eq_true hw
  clear hn0 hh hw
  obtain ⟨N, hN⟩ : ∃ N, N = nameB q.b := ⟨_, rfl⟩
  obtain ⟨g, hg⟩ : ∃ g, g = w.heap.size := ⟨_, rfl⟩
  obtain ⟨W, hW⟩ : ∃ W, W = (((w.alloc (.cells #[.slice A0 t.ks.length c0, .slice A1 t.wait.length c1] 30)).alloc (.cells #[.int .i64 q.b.f0, .int .i64 q.b.f1, .int .i64 q.b.f2, .int .i64 q.b.f3, .slice q.A q.b.f4.length q.c] 35)).alloc (.cells #[.slice none 0 0, .slice none 0 0] 30)) := ⟨_, rfl⟩
  have hs1 : (w.alloc (.cells #[.slice A0 t.ks.length c0, .slice A1 t.wait.length c1] 30)).heap.size = g + 1 := by rw [hg]; simp
  have hs2 : ((w.alloc (.cells #[.slice A0 t.ks.length c0, .slice A1 t.wait.length c1] 30)).alloc (.cells #[.int .i64 q.b.f0, .int .i64 q.b.f1, .int .i64 q.b.f2, .int .i64 q.b.f3, .slice q.A q.b.f4.length q.c] 35)).heap.size = g + 1 + 1 := by rw [hg]; simp
  have hFW : Fr [] w W := by rw [hW]; exact (((Fr.refl _ _).alloc _).alloc _).alloc _
  have hT2 : TreeIn W g (.slice A0 t.ks.length c0) (.slice A1 t.wait.length c1) := by
    have h : TreeIn (w.alloc (.cells #[.slice A0 t.ks.length c0, .slice A1 t.wait.length c1] 30)) g (.slice A0 t.ks.length c0) (.slice A1 t.wait.length c1) := by rw [hg]; exact heap_alloc_new _ _
    rw [hW]; exact h.fr (((Fr.refl _ _).alloc _).alloc _)
  have hB3 : BlkIn W (g + 1) q := by
    have h : BlkIn ((w.alloc (.cells #[.slice A0 t.ks.length c0, .slice A1 t.wait.length c1] 30)).alloc (.cells #[.int .i64 q.b.f0, .int .i64 q.b.f1, .int .i64 q.b.f2, .int .i64 q.b.f3, .slice q.A q.b.f4.length q.c] 35)) (g + 1) q := by rw [← hs1]; exact heap_alloc_new _ _
    rw [hW]; exact h.fr ((Fr.refl _ _).alloc _)
  have hT4 : TreeIn W (g + 1 + 1) (.slice none 0 0) (.slice none 0 0) := by
    rw [hW, ← hs2]; exact heap_alloc_new _ _
  have hgw : w.heap.size ≤ g := Nat.le_of_eq hg.symm
  have HG := Lib.hid hG
  have HRG := Lib.hid hRg
  have HV0 := Lib.hid (h0.fr hFW)
  have HV1 := Lib.hid (h1.fr hFW)
  have HQF : Hid (Kd.F k67 W P q.A q.b.f4.length q.b.f4) := Kd.F_below hF hFW.below
  have HRQ := Lib.hid hr
  have HT2 := Lib.hid hT2
  have HB3 := Lib.hid hB3
  have HT4 := Lib.hid hT4
  have HFW := Lib.hid hFW
  have HNM := Lib.hid (rname_calls (w := W) q.b q.A q.c (Kd.F_now HQF.out) hc hr)
  rw [← hN] at HNM
  have HNN := Lib.hid hN
  obtain ⟨x20, x21, x22, x23⟩ := HT2.out.cells
  obtain ⟨e0, e1, e2, e3, e4⟩ := HB3.out.cells
  clear hG hRg h0 h1 hF hr hT2 hB3 hT4 hFW hN hs1 hs2
  have hNb : (N == 0) = false := by have := HN0.out; rw [← HNN.out] at this; simpa using this
  have HGE : Hid (∀ W', Fr [] W W' → Calls Tryz.prog 60 #[.agg #[.slice A0 t.ks.length c0, .slice A1 t.wait.length c1], .int .i64 N] W' fun e w' => ∃ A c, e = .returned (.tuple #[.agg #[.int .i64 (t.get N).f0, .int .i64 (t.get N).f1, .int .i64 (t.get N).f2, .int .i64 (t.get N).f3, .slice A (t.get N).f4.length c], .bool false]) ∧ (t.get N).f4.length ≤ c ∧ Kd.F k67 w' (fun k => P k ∨ W'.heap.size ≤ k) A (t.get N).f4.length (t.get N).f4 ∧ Fr [] W' w') := fun W' hF' => by
    have h := rget_calls HG.out HRG.out (HV0.out.fr hF') (HV1.out.fr hF') N
    rw [show t.has N = false by rw [HNN.out]; exact HHS.out] at h
    exact h
  go_enter Tryz.func47, Tryz.ntmps47
  go_upto_region 1 with (fail)
  rw [← hW, ← hg]
  clear hW hg
  go_upto_region 3 with (first
    | (go_at_call 76; refine HNM.out.mono ?_; rintro e w2 ⟨rfl, hF2⟩
       have HG2 := Lib.hid (HGE.out w2 hF2)
       replace x20 := cellF hF2 x20
       replace x21 := cellF hF2 x21
       have HF2 := Lib.hid hF2
       clear hF2 HNM HGE)
    | (go_at_call 60; refine HG2.out.mono ?_; rintro e w3 ⟨A3, d3, rfl, hd3, hF3, hw3⟩
       have HF3 := Lib.hid (HF2.out.trans hw3 (by simp))
       replace x20 := cellF hw3 x20
       replace x21 := cellF hw3 x21
       clear hF3 hw3 HG2 hd3))
  obtain ⟨W4, hW4⟩ : ∃ W4, W4 = w3.alloc (.cells #[.int .i64 (t.get N).f0, .int .i64 (t.get N).f1, .int .i64 (t.get N).f2, .int .i64 (t.get N).f3, .slice A3 (t.get N).f4.length d3] 35) := ⟨_, rfl⟩
  have hF4 : Fr [] W W4 := by rw [hW4]; exact HF3.out.alloc _
  rw [← hW4]
  have HF4 := Lib.hid hF4
  clear hW4 x20 x21 x22 x23 e0 e1 e2 e3 e4
  obtain ⟨x20, x21, x22, x23⟩ := (HT2.out.fr hF4).cells
  obtain ⟨e0, e1, e2, e3, e4⟩ := (HB3.out.fr hF4).cells
  clear hF4
  have HWA := Lib.hid (rwaiting_calls HG.out HRG.out (HV0.out.fr HF4.out) (HV1.out.fr HF4.out))
  have hwl : t.wait.length ≤ 16 := HG.out.wl
  go_upto_region 4 with (first
    | (go_at_call 78; refine HWA.out.mono ?_; rintro e w5 ⟨v5, rfl, hS5, hF5⟩
       have HF5 := Lib.hid (HF4.out.trans hF5 (by simp))
       have HIN := Lib.hid (rin_calls hS5 (by rw [List.length_map]; omega) N)
       clear hS5 hF5 HWA)
    | (go_at_call 77; rw [show decide (N ∈ t.wait.map nameB) = true by rw [HNN.out]; exact HWI.out] at HIN; refine HIN.out.mono ?_; rintro e w6 ⟨rfl, hF6⟩
       have HF9 := Lib.hid (HF5.out.trans hF6 (by simp))
       clear hF6 HIN x20 x21 x22 x23 e0 e1 e2 e3 e4))
  obtain ⟨x20, x21, x22, x23⟩ := (HT2.out.fr HF9.out).cells
  obtain ⟨e0, e1, e2, e3, e4⟩ := (HB3.out.fr HF9.out).cells
  obtain ⟨z0, z1, z2, z3⟩ := (HT4.out.fr HF9.out).cells
  go_wp2
  have hb4 := two_put (HT4.out.fr HF9.out) (.slice A0 t.ks.length c0) (.slice A1 t.wait.length c1)
  have hf4 := ((HFW.out.trans HF9.out (by simp)).setCell (p := ⟨g + 1 + 1, 0, none⟩) (.inr (show w.heap.size ≤ g + 1 + 1 by omega)) (.slice A0 t.ks.length c0)).setCell (p := ⟨g + 1 + 1, 1, none⟩) (.inr (show w.heap.size ≤ g + 1 + 1 by omega)) (.slice A1 t.wait.length c1)
  refine bodyPost_ret (results_ctt rfl _ _ (g + 1 + 1) 30 _ (0, 0) _ rfl hb4 Tryz.underlying30 rfl (by kernel_rfl)) rfl ?_
  exact hR.out _ _ ⟨A0, c0, A1, c1, none, 0, by simp, (H0W.out.fr hf4).weak (fun k hk => .inl hk), (H1W.out.fr hf4).weak (fun k hk => .inl hk), OwnI.nil _ _, hf4⟩
set_option maxHeartbeats 4000000 in
set_option maxRecDepth 100000 in
theorem radd_orphan {P : Nat → Prop} {w : World} {t : Tr} {A0 A1 : Option Addr} {c0 c1 : Nat} (hG : t.Good) (hRg : t.Rng) (h0 : VB w P (.slice A0 t.ks.length c0) t.ks) (h1 : VB w P (.slice A1 t.wait.length c1) t.wait) (q : BV) (hc : q.b.f4.length ≤ q.c) (hF : Kd.F k67 w P q.A q.b.f4.length q.b.f4) (hr : rng q.b) (hn0 : nameB q.b ≠ 0) (hh : t.has (nameB q.b) = false) (hw : nameB q.b ∉ t.wait.map nameB) (hry : t.ready q.b = false) :
    Calls Tryz.prog 47 #[.agg #[.slice A0 t.ks.length c0, .slice A1 t.wait.length c1], .agg #[.int .i64 q.b.f0, .int .i64 q.b.f1, .int .i64 q.b.f2, .int .i64 q.b.f3, .slice q.A q.b.f4.length q.c]] w fun e w' => RAddRes P w t q.b e w' := by
  refine calls_k fun R hR => ?_
  unfold RAddRes at hR
  have hadd := Tr.add_new hn0 hh hw
  rw [if_pos hry] at hadd
  rw [hadd] at hR
  have H0W := Lib.hid h0
  have H1W := Lib.hid h1
  have HQW := Lib.hid hF
  have HN0 := Lib.hid hn0
  have HHS := Lib.hid hh
  have HRY := Lib.hid hry
  have HWI : Hid (decide (nameB q.b ∈ t.wait.map nameB) = false) := decide_eq_false hw
  clear hn0 hh hw hry hadd
  obtain ⟨N, hN⟩ : ∃ N, N = nameB q.b := ⟨_, rfl⟩
  obtain ⟨g, hg⟩ : ∃ g, g = w.heap.size := ⟨_, rfl⟩
  obtain ⟨W, hW⟩ : ∃ W, W = (((w.alloc (.cells #[.slice A0 t.ks.length c0, .slice A1 t.wait.length c1] 30)).alloc (.cells #[.int .i64 q.b.f0, .int .i64 q.b.f1, .int .i64 q.b.f2, .int .i64 q.b.f3, .slice q.A q.b.f4.length q.c] 35)).alloc (.cells #[.slice none 0 0, .slice none 0 0] 30)) := ⟨_, rfl⟩
  have hs1 : (w.alloc (.cells #[.slice A0 t.ks.length c0, .slice A1 t.wait.length c1] 30)).heap.size = g + 1 := by rw [hg]; simp
  have hs2 : ((w.alloc (.cells #[.slice A0 t.ks.length c0, .slice A1 t.wait.length c1] 30)).alloc (.cells #[.int .i64 q.b.f0, .int .i64 q.b.f1, .int .i64 q.b.f2, .int .i64 q.b.f3, .slice q.A q.b.f4.length q.c] 35)).heap.size = g + 1 + 1 := by rw [hg]; simp
  have hFW : Fr [] w W := by rw [hW]; exact (((Fr.refl _ _).alloc _).alloc _).alloc _
  have hT2 : TreeIn W g (.slice A0 t.ks.length c0) (.slice A1 t.wait.length c1) := by
    have h : TreeIn (w.alloc (.cells #[.slice A0 t.ks.length c0, .slice A1 t.wait.length c1] 30)) g (.slice A0 t.ks.length c0) (.slice A1 t.wait.length c1) := by rw [hg]; exact heap_alloc_new _ _
    rw [hW]; exact h.fr (((Fr.refl _ _).alloc _).alloc _)
  have hB3 : BlkIn W (g + 1) q := by
    have h : BlkIn ((w.alloc (.cells #[.slice A0 t.ks.length c0, .slice A1 t.wait.length c1] 30)).alloc (.cells #[.int .i64 q.b.f0, .int .i64 q.b.f1, .int .i64 q.b.f2, .int .i64 q.b.f3, .slice q.A q.b.f4.length q.c] 35)) (g + 1) q := by rw [← hs1]; exact heap_alloc_new _ _
    rw [hW]; exact h.fr ((Fr.refl _ _).alloc _)
  have hT4 : TreeIn W (g + 1 + 1) (.slice none 0 0) (.slice none 0 0) := by
    rw [hW, ← hs2]; exact heap_alloc_new _ _
  have hgw : w.heap.size ≤ g := Nat.le_of_eq hg.symm
  have HG := Lib.hid hG
  have HRG := Lib.hid hRg
  have HV0 := Lib.hid (h0.fr hFW)
  have HV1 := Lib.hid (h1.fr hFW)
  have HQF : Hid (Kd.F k67 W P q.A q.b.f4.length q.b.f4) := Kd.F_below hF hFW.below
  have HRQ := Lib.hid hr
  have HT2 := Lib.hid hT2
  have HB3 := Lib.hid hB3
  have HT4 := Lib.hid hT4
  have HFW := Lib.hid hFW
  have HNM := Lib.hid (rname_calls (w := W) q.b q.A q.c (Kd.F_now HQF.out) hc hr)
  rw [← hN] at HNM
  have HNN := Lib.hid hN
  obtain ⟨x20, x21, x22, x23⟩ := HT2.out.cells
  obtain ⟨e0, e1, e2, e3, e4⟩ := HB3.out.cells
  clear hG hRg h0 h1 hF hr hT2 hB3 hT4 hFW hN hs1 hs2
  have hNb : (N == 0) = false := by have := HN0.out; rw [← HNN.out] at this; simpa using this
  have HGE : Hid (∀ W', Fr [] W W' → Calls Tryz.prog 60 #[.agg #[.slice A0 t.ks.length c0, .slice A1 t.wait.length c1], .int .i64 N] W' fun e w' => ∃ A c, e = .returned (.tuple #[.agg #[.int .i64 (t.get N).f0, .int .i64 (t.get N).f1, .int .i64 (t.get N).f2, .int .i64 (t.get N).f3, .slice A (t.get N).f4.length c], .bool false]) ∧ (t.get N).f4.length ≤ c ∧ Kd.F k67 w' (fun k => P k ∨ W'.heap.size ≤ k) A (t.get N).f4.length (t.get N).f4 ∧ Fr [] W' w') := fun W' hF' => by
    have h := rget_calls HG.out HRG.out (HV0.out.fr hF') (HV1.out.fr hF') N
    rw [show t.has N = false by rw [HNN.out]; exact HHS.out] at h
    exact h
  go_enter Tryz.func47, Tryz.ntmps47
  go_upto_region 1 with (fail)
  rw [← hW, ← hg]
  clear hW hg
  go_upto_region 3 with (first
    | (go_at_call 76; refine HNM.out.mono ?_; rintro e w2 ⟨rfl, hF2⟩
       have HG2 := Lib.hid (HGE.out w2 hF2)
       replace x20 := cellF hF2 x20
       replace x21 := cellF hF2 x21
       have HF2 := Lib.hid hF2
       clear hF2 HNM HGE)
    | (go_at_call 60; refine HG2.out.mono ?_; rintro e w3 ⟨A3, d3, rfl, hd3, hF3, hw3⟩
       have HF3 := Lib.hid (HF2.out.trans hw3 (by simp))
       replace x20 := cellF hw3 x20
       replace x21 := cellF hw3 x21
       clear hF3 hw3 HG2 hd3))
  obtain ⟨W4, hW4⟩ : ∃ W4, W4 = w3.alloc (.cells #[.int .i64 (t.get N).f0, .int .i64 (t.get N).f1, .int .i64 (t.get N).f2, .int .i64 (t.get N).f3, .slice A3 (t.get N).f4.length d3] 35) := ⟨_, rfl⟩
  have hF4 : Fr [] W W4 := by rw [hW4]; exact HF3.out.alloc _
  rw [← hW4]
  have HF4 := Lib.hid hF4
  clear hW4 x20 x21 x22 x23 e0 e1 e2 e3 e4
  obtain ⟨x20, x21, x22, x23⟩ := (HT2.out.fr hF4).cells
  obtain ⟨e0, e1, e2, e3, e4⟩ := (HB3.out.fr hF4).cells
  clear hF4
  have HWA := Lib.hid (rwaiting_calls HG.out HRG.out (HV0.out.fr HF4.out) (HV1.out.fr HF4.out))
  have hwl : t.wait.length ≤ 16 := HG.out.wl
  go_upto_region 5 with (first
    | (go_at_call 78; refine HWA.out.mono ?_; rintro e w5 ⟨v5, rfl, hS5, hF5⟩
       have HF5 := Lib.hid (HF4.out.trans hF5 (by simp))
       have HIN := Lib.hid (rin_calls hS5 (by rw [List.length_map]; omega) N)
       clear hS5 hF5 HWA)
    | (go_at_call 77; rw [show decide (N ∈ t.wait.map nameB) = false by rw [HNN.out]; exact HWI.out] at HIN; refine HIN.out.mono ?_; rintro e w6 ⟨rfl, hF6⟩
       have HF9 := Lib.hid (HF5.out.trans hF6 (by simp))
       clear hF6 HIN x20 x21 x22 x23 e0 e1 e2 e3 e4))
  obtain ⟨x20, x21, x22, x23⟩ := (HT2.out.fr HF9.out).cells
  obtain ⟨e0, e1, e2, e3, e4⟩ := (HB3.out.fr HF9.out).cells
  have HRD := Lib.hid (rready_calls HG.out HRG.out (HV0.out.fr HF9.out) (HV1.out.fr HF9.out) q.b q.A q.c (Kd.F_now (Kd.F_below HQF.out HF9.out.below)) hc)
  rw [HRY.out] at HRD
  go_upto_region 6 with (first
    | (go_at_call 79; refine HRD.out.mono ?_; rintro e w7 ⟨rfl, hF7⟩
       replace HF9 := Lib.hid (HF9.out.trans hF7 (by simp))
       clear hF7 HRD x20 x21 x22 x23 e0 e1 e2 e3 e4))
  obtain ⟨x20, x21, x22, x23⟩ := (HT2.out.fr HF9.out).cells
  obtain ⟨e0, e1, e2, e3, e4⟩ := (HB3.out.fr HF9.out).cells
  have hlt4 := HT4.out.lt
  have hs9 := HF9.out.size
  have hsW := HFW.out.size
  have HN8 : Hid (RowN (w7.alloc (.cells #[] 35)) (OKP P w g) (.slice (some ⟨w7.heap.size, 0, none⟩) 0 0) []) := RowN.empty w7 _ (.inr (by omega))
  have HF8 : Hid (Fr [] W (w7.alloc (.cells #[] 35))) := HF9.out.alloc _
  have HV8 : Hid (VB (w7.alloc (.cells #[] 35)) (fun k => P k ∧ k < w.heap.size) (.slice A1 t.wait.length c1) t.wait) := VB.fr (VB.bound H1W.out) (HFW.out.trans HF8.out (by simp))
  have HS8 : Hid ((w7.alloc (.cells #[] 35)).heap.size = w7.heap.size + 1) := by show _ = _; simp
  have x21' := ((HT2.out.fr HF8.out).cells).2.1
  obtain ⟨L1, hL1⟩ : ∃ L1, L1 = t.wait ++ [q.b] := ⟨_, rfl⟩
  obtain ⟨N1, hN1⟩ : ∃ N1, L1.length = N1 := ⟨_, rfl⟩
  have hN1' : N1 = t.wait.length + 1 := by rw [← hN1, hL1]; simp
  have hN1a : N1 ≤ t.wait.length + 1 := by omega
  have hN1b : t.wait.length + 1 ≤ N1 := by omega
  have HL1 := Lib.hid hL1
  have HN1 := Lib.hid hN1
  clear hN1'
  have HLW : Hid (([] : List Blk).length + t.wait.length ≤ 1000) := by show _ ≤ _; simp; omega
  have HLX : Hid (t.wait.length ≤ 1000) := by show _ ≤ _; omega
  clear hL1 hN1 x20 x21 x22 x23 e0 e1 e2 e3 e4
  go_upto_region 7 with (first
    | (at_builtin; refine wp_rows28 (v := .slice (some ⟨w7.heap.size, 0, none⟩) 0 0) rfl _ _ rfl rfl rfl HN8.out HV8.out (fun k hk _ => ⟨.inl hk, fun he => by have h1 := hk.2; have h2 : k = w7.heap.size := Option.some.inj he; omega⟩) (fun k hk => .inr (by have := HS8.out; omega)) HLW.out ?_
       intro v9 w9 hN9 hF9 hU9
       have hf : Fr [] W w9 := HF8.out.trans hF9 (fun k hk => .inr (by have h2 : k = w7.heap.size := (by simpa [Value.ownBlock] using hk); omega))
       rw [List.nil_append] at hN9
       obtain ⟨A9, d9, rfl⟩ := hN9.form
       have HF9' := Lib.hid hf
       have HN9 := Lib.hid hN9
       have hu9 : ∀ k ∈ (Value.slice A9 t.wait.length d9).ownBlock.toList, w7.heap.size ≤ k := fun k hk => by
         rcases hU9 k hk with h | h
         · have h2 : k = w7.heap.size := by simpa [Value.ownBlock] using h
           omega
         · have := HS8.out; omega
       have HU9 := Lib.hid hu9
       clear hf hN9 hu9 hU9 hF9 x21'))
  have HQ9 : Hid (Kd.F k67 w9 (fun k => P k ∧ k < w.heap.size) q.A q.b.f4.length q.b.f4) := Kd.F_below (Kd.F_bound HQW.out) (HFW.out.trans HF9'.out (by simp)).below
  obtain ⟨x20, x21, x22, x23⟩ := (HT2.out.fr HF9'.out).cells
  obtain ⟨e0, e1, e2, e3, e4⟩ := (HB3.out.fr HF9'.out).cells
  have hs10 := HF9'.out.size
  go_upto_region 8 with (first
    | (at_builtin; refine wp_one28 (q := q) (v := .slice A9 t.wait.length d9) rfl _ _ rfl rfl rfl HN9.out hc HQ9.out (fun k hk _ => ⟨.inl hk, fun he => by have h1 := hk.2; have h2 := HU9.out k (by rw [← he]; simp); omega⟩) (fun k hk => .inr (by omega)) HLX.out ?_
       intro v10 w10 hN10 hF10 hU10
       have hf : Fr [] W w10 := HF9'.out.trans hF10 (fun k hk => .inr (by have := HU9.out k hk; omega))
       rw [← HL1.out] at hN10
       obtain ⟨A10, d10, h10⟩ := hN10.form
       rw [HN1.out] at h10
       subst h10
       have HF10 := Lib.hid hf
       have HN10 := Lib.hid hN10
       clear hf hN10 hU10 hF10 e0 e1 e2 e3 e4 x20 x21 x22 x23))
  obtain ⟨x20, x21, x22, x23⟩ := (HT2.out.fr HF10.out).cells
  have HFN : Hid (∀ (v : Value), Fr [] w (w10.setCell ⟨g, 1, none⟩ v)) := fun v => (HFW.out.trans HF10.out (by simp)).setCell (.inr hgw) _
  have HTN : Hid (∀ (v : Value), TreeIn (w10.setCell ⟨g, 1, none⟩ v) g (.slice A0 t.ks.length c0) v ∧ TreeIn (w10.setCell ⟨g, 1, none⟩ v) (g + 1 + 1) (.slice none 0 0) (.slice none 0 0)) := fun v => by
    refine ⟨by simpa [TreeIn] using obj_set (HT2.out.fr HF10.out) 1 v, ?_⟩
    exact (set_far _ (by show g + 1 + 1 ≠ g; omega) v).trans (HT4.out.fr HF10.out)
  by_cases h16 : N1 ≤ 16
  · have hnb : ¬ (16 : Int) < (N1 : Int) := by omega
    have hdr : (t.wait ++ [q.b]).drop (t.wait.length + 1 - 16) = L1 := by rw [← HL1.out, show t.wait.length + 1 - 16 = 0 by omega]; rfl
    rw [hdr, HN1.out] at hR
    clear hdr
    go_upto_region 11 with (fail)
    obtain ⟨W11, hW11⟩ : ∃ W11, W11 = w10.setCell ⟨g, 1, none⟩ (.slice A10 N1 d10) := ⟨_, rfl⟩
    have HF11 := Lib.hid (HFN.out (.slice A10 N1 d10))
    have HT11 := Lib.hid (HTN.out (.slice A10 N1 d10))
    have HV11 := Lib.hid (RowN.VB HN10.out)
    have HV12 : Hid (VB (w10.setCell ⟨g, 1, none⟩ (.slice A10 N1 d10)) (OKP P w g) (.slice A10 N1 d10) L1) := Kd.V_far HV11.out (fun k hk => OKP.ne hgw (Nat.le_refl g) (by omega) k hk) _
    rw [← hW11] at HF11 HT11 HV12 ⊢
    clear hW11 x20 x21 x22 x23 HV11
    obtain ⟨x20, x21, x22, x23⟩ := HT11.out.1.cells
    obtain ⟨z0, z1, z2, z3⟩ := HT11.out.2.cells
    go_wp2
    have hb4 := two_put HT11.out.2 (.slice A0 t.ks.length c0) (.slice A10 N1 d10)
    have hf4 := (HF11.out.setCell (p := ⟨g + 1 + 1, 0, none⟩) (.inr (show w.heap.size ≤ g + 1 + 1 by omega)) (.slice A0 t.ks.length c0)).setCell (p := ⟨g + 1 + 1, 1, none⟩) (.inr (show w.heap.size ≤ g + 1 + 1 by omega)) (.slice A10 N1 d10)
    have hv4 := Kd.V_far (Kd.V_far HV12.out (p := ⟨g + 1 + 1, 0, none⟩) (fun k hk => OKP.ne hgw (i := g + 1 + 1) (by omega) (Nat.le_refl _) k hk) (.slice A0 t.ks.length c0)) (p := ⟨g + 1 + 1, 1, none⟩) (fun k hk => OKP.ne hgw (i := g + 1 + 1) (by omega) (Nat.le_refl _) k hk) (.slice A10 N1 d10)
    refine bodyPost_ret (results_ctt rfl _ _ (g + 1 + 1) 30 _ (0, 0) _ rfl hb4 Tryz.underlying30 rfl (by kernel_rfl)) rfl ?_
    exact hR.out _ _ ⟨A0, c0, A10, d10, none, 0, rfl, (H0W.out.fr hf4).weak (fun k hk => .inl hk), VB.weak hv4 (OKP.weak hgw), OwnI.nil _ _, hf4⟩
  · obtain rfl : N1 = 17 := by omega
    obtain ⟨g10, hA⟩ := RowN.at0 HN10.out (by omega)
    subst hA
    obtain ⟨dd, rfl⟩ : ∃ dd, d10 = dd + 15 + 2 := ⟨d10 - 17, by have := (RowN.VB HN10.out).C.2.1; omega⟩
    have HV10 := Lib.hid (VB.tail (RowN.VB HN10.out))
    have hdr : (t.wait ++ [q.b]).drop (t.wait.length + 1 - 16) = L1.drop 1 := by rw [← HL1.out, show t.wait.length + 1 - 16 = 1 by omega]
    have hl2 : (L1.drop 1).length = 16 := by rw [List.length_drop, HN1.out]
    rw [hdr, hl2] at hR
    obtain ⟨L2, hL2⟩ : ∃ L2, L2 = L1.drop 1 := ⟨_, rfl⟩
    rw [← hL2] at hR HV10
    clear hdr hl2 hL2
    go_upto_region 11 with (fail)
    obtain ⟨W11, hW11⟩ : ∃ W11, W11 = w10.setCell ⟨g, 1, none⟩ (.slice (some ⟨g10, 5, none⟩) 16 (dd + 15 + 1)) := ⟨_, rfl⟩
    have HF11 := Lib.hid (HFN.out (.slice (some ⟨g10, 5, none⟩) 16 (dd + 15 + 1)))
    have HT11 := Lib.hid (HTN.out (.slice (some ⟨g10, 5, none⟩) 16 (dd + 15 + 1)))
    have HV12 : Hid (VB (w10.setCell ⟨g, 1, none⟩ (.slice (some ⟨g10, 5, none⟩) 16 (dd + 15 + 1))) (OKP P w g) (.slice (some ⟨g10, 5, none⟩) 16 (dd + 15 + 1)) L2) := Kd.V_far HV10.out (fun k hk => OKP.ne hgw (Nat.le_refl g) (by omega) k hk) _
    rw [← hW11] at HF11 HT11 HV12 ⊢
    clear hW11 x20 x21 x22 x23 HV10
    obtain ⟨x20, x21, x22, x23⟩ := HT11.out.1.cells
    obtain ⟨z0, z1, z2, z3⟩ := HT11.out.2.cells
    go_wp2
    have hb4 := two_put HT11.out.2 (.slice A0 t.ks.length c0) (.slice (some ⟨g10, 5, none⟩) 16 (dd + 15 + 1))
    have hf4 := (HF11.out.setCell (p := ⟨g + 1 + 1, 0, none⟩) (.inr (show w.heap.size ≤ g + 1 + 1 by omega)) (.slice A0 t.ks.length c0)).setCell (p := ⟨g + 1 + 1, 1, none⟩) (.inr (show w.heap.size ≤ g + 1 + 1 by omega)) (.slice (some ⟨g10, 5, none⟩) 16 (dd + 15 + 1))
    have hv4 := Kd.V_far (Kd.V_far HV12.out (p := ⟨g + 1 + 1, 0, none⟩) (fun k hk => OKP.ne hgw (i := g + 1 + 1) (by omega) (Nat.le_refl _) k hk) (.slice A0 t.ks.length c0)) (p := ⟨g + 1 + 1, 1, none⟩) (fun k hk => OKP.ne hgw (i := g + 1 + 1) (by omega) (Nat.le_refl _) k hk) (.slice (some ⟨g10, 5, none⟩) 16 (dd + 15 + 1))
    refine bodyPost_ret (results_ctt rfl _ _ (g + 1 + 1) 30 _ (0, 0) _ rfl hb4 Tryz.underlying30 rfl (by kernel_rfl)) rfl ?_
    exact hR.out _ _ ⟨A0, c0, some ⟨g10, 5, none⟩, dd + 15 + 1, none, 0, rfl, (H0W.out.fr hf4).weak (fun k hk => .inl hk), VB.weak hv4 (OKP.weak hgw), OwnI.nil _ _, hf4⟩
set_option maxHeartbeats 4000000 in
set_option maxRecDepth 100000 in
theorem radd_full {P : Nat → Prop} {w : World} {t : Tr} {A0 A1 : Option Addr} {c0 c1 : Nat} (hG : t.Good) (hRg : t.Rng) (h0 : VB w P (.slice A0 t.ks.length c0) t.ks) (h1 : VB w P (.slice A1 t.wait.length c1) t.wait) (q : BV) (hc : q.b.f4.length ≤ q.c) (hF : Kd.F k67 w P q.A q.b.f4.length q.b.f4) (hr : rng q.b) (hn0 : nameB q.b ≠ 0) (hh : t.has (nameB q.b) = false) (hw : nameB q.b ∉ t.wait.map nameB) (hry : t.ready q.b = true) (hm : t.room = false) :
    Calls Tryz.prog 47 #[.agg #[.slice A0 t.ks.length c0, .slice A1 t.wait.length c1], .agg #[.int .i64 q.b.f0, .int .i64 q.b.f1, .int .i64 q.b.f2, .int .i64 q.b.f3, .slice q.A q.b.f4.length q.c]] w fun e w' => RAddRes P w t q.b e w' := by
  refine calls_k fun R hR => ?_
  unfold RAddRes at hR
  have hadd := Tr.add_new hn0 hh hw
  rw [if_neg (by simp [hry]), if_pos hm] at hadd
  rw [hadd] at hR
  have HRM := Lib.hid hm
  have H0W := Lib.hid h0
  have H1W := Lib.hid h1
  have HQW := Lib.hid hF
  have HN0 := Lib.hid hn0
  have HHS := Lib.hid hh
  have HRY := Lib.hid hry
  have HWI : Hid (decide (nameB q.b ∈ t.wait.map nameB) = false) := decide_eq_false hw
  clear hn0 hh hw hry hadd hm
  obtain ⟨N, hN⟩ : ∃ N, N = nameB q.b := ⟨_, rfl⟩
  obtain ⟨g, hg⟩ : ∃ g, g = w.heap.size := ⟨_, rfl⟩
  obtain ⟨W, hW⟩ : ∃ W, W = (((w.alloc (.cells #[.slice A0 t.ks.length c0, .slice A1 t.wait.length c1] 30)).alloc (.cells #[.int .i64 q.b.f0, .int .i64 q.b.f1, .int .i64 q.b.f2, .int .i64 q.b.f3, .slice q.A q.b.f4.length q.c] 35)).alloc (.cells #[.slice none 0 0, .slice none 0 0] 30)) := ⟨_, rfl⟩
  have hs1 : (w.alloc (.cells #[.slice A0 t.ks.length c0, .slice A1 t.wait.length c1] 30)).heap.size = g + 1 := by rw [hg]; simp
  have hs2 : ((w.alloc (.cells #[.slice A0 t.ks.length c0, .slice A1 t.wait.length c1] 30)).alloc (.cells #[.int .i64 q.b.f0, .int .i64 q.b.f1, .int .i64 q.b.f2, .int .i64 q.b.f3, .slice q.A q.b.f4.length q.c] 35)).heap.size = g + 1 + 1 := by rw [hg]; simp
  have hFW : Fr [] w W := by rw [hW]; exact (((Fr.refl _ _).alloc _).alloc _).alloc _
  have hT2 : TreeIn W g (.slice A0 t.ks.length c0) (.slice A1 t.wait.length c1) := by
    have h : TreeIn (w.alloc (.cells #[.slice A0 t.ks.length c0, .slice A1 t.wait.length c1] 30)) g (.slice A0 t.ks.length c0) (.slice A1 t.wait.length c1) := by rw [hg]; exact heap_alloc_new _ _
    rw [hW]; exact h.fr (((Fr.refl _ _).alloc _).alloc _)
  have hB3 : BlkIn W (g + 1) q := by
    have h : BlkIn ((w.alloc (.cells #[.slice A0 t.ks.length c0, .slice A1 t.wait.length c1] 30)).alloc (.cells #[.int .i64 q.b.f0, .int .i64 q.b.f1, .int .i64 q.b.f2, .int .i64 q.b.f3, .slice q.A q.b.f4.length q.c] 35)) (g + 1) q := by rw [← hs1]; exact heap_alloc_new _ _
    rw [hW]; exact h.fr ((Fr.refl _ _).alloc _)
  have hT4 : TreeIn W (g + 1 + 1) (.slice none 0 0) (.slice none 0 0) := by
    rw [hW, ← hs2]; exact heap_alloc_new _ _
  have hgw : w.heap.size ≤ g := Nat.le_of_eq hg.symm
  have HG := Lib.hid hG
  have HRG := Lib.hid hRg
  have HV0 := Lib.hid (h0.fr hFW)
  have HV1 := Lib.hid (h1.fr hFW)
  have HQF : Hid (Kd.F k67 W P q.A q.b.f4.length q.b.f4) := Kd.F_below hF hFW.below
  have HRQ := Lib.hid hr
  have HT2 := Lib.hid hT2
  have HB3 := Lib.hid hB3
  have HT4 := Lib.hid hT4
  have HFW := Lib.hid hFW
  have HNM := Lib.hid (rname_calls (w := W) q.b q.A q.c (Kd.F_now HQF.out) hc hr)
  rw [← hN] at HNM
  have HNN := Lib.hid hN
  obtain ⟨x20, x21, x22, x23⟩ := HT2.out.cells
  obtain ⟨e0, e1, e2, e3, e4⟩ := HB3.out.cells
  clear hG hRg h0 h1 hF hr hT2 hB3 hT4 hFW hN hs1 hs2
  have hNb : (N == 0) = false := by have := HN0.out; rw [← HNN.out] at this; simpa using this
  have HGE : Hid (∀ W', Fr [] W W' → Calls Tryz.prog 60 #[.agg #[.slice A0 t.ks.length c0, .slice A1 t.wait.length c1], .int .i64 N] W' fun e w' => ∃ A c, e = .returned (.tuple #[.agg #[.int .i64 (t.get N).f0, .int .i64 (t.get N).f1, .int .i64 (t.get N).f2, .int .i64 (t.get N).f3, .slice A (t.get N).f4.length c], .bool false]) ∧ (t.get N).f4.length ≤ c ∧ Kd.F k67 w' (fun k => P k ∨ W'.heap.size ≤ k) A (t.get N).f4.length (t.get N).f4 ∧ Fr [] W' w') := fun W' hF' => by
    have h := rget_calls HG.out HRG.out (HV0.out.fr hF') (HV1.out.fr hF') N
    rw [show t.has N = false by rw [HNN.out]; exact HHS.out] at h
    exact h
  go_enter Tryz.func47, Tryz.ntmps47
  go_upto_region 1 with (fail)
  rw [← hW, ← hg]
  clear hW hg
  go_upto_region 3 with (first
    | (go_at_call 76; refine HNM.out.mono ?_; rintro e w2 ⟨rfl, hF2⟩
       have HG2 := Lib.hid (HGE.out w2 hF2)
       replace x20 := cellF hF2 x20
       replace x21 := cellF hF2 x21
       have HF2 := Lib.hid hF2
       clear hF2 HNM HGE)
    | (go_at_call 60; refine HG2.out.mono ?_; rintro e w3 ⟨A3, d3, rfl, hd3, hF3, hw3⟩
       have HF3 := Lib.hid (HF2.out.trans hw3 (by simp))
       replace x20 := cellF hw3 x20
       replace x21 := cellF hw3 x21
       clear hF3 hw3 HG2 hd3))
  obtain ⟨W4, hW4⟩ : ∃ W4, W4 = w3.alloc (.cells #[.int .i64 (t.get N).f0, .int .i64 (t.get N).f1, .int .i64 (t.get N).f2, .int .i64 (t.get N).f3, .slice A3 (t.get N).f4.length d3] 35) := ⟨_, rfl⟩
  have hF4 : Fr [] W W4 := by rw [hW4]; exact HF3.out.alloc _
  rw [← hW4]
  have HF4 := Lib.hid hF4
  clear hW4 x20 x21 x22 x23 e0 e1 e2 e3 e4
  obtain ⟨x20, x21, x22, x23⟩ := (HT2.out.fr hF4).cells
  obtain ⟨e0, e1, e2, e3, e4⟩ := (HB3.out.fr hF4).cells
  clear hF4
  have HWA := Lib.hid (rwaiting_calls HG.out HRG.out (HV0.out.fr HF4.out) (HV1.out.fr HF4.out))
  have hwl : t.wait.length ≤ 16 := HG.out.wl
  go_upto_region 5 with (first
    | (go_at_call 78; refine HWA.out.mono ?_; rintro e w5 ⟨v5, rfl, hS5, hF5⟩
       have HF5 := Lib.hid (HF4.out.trans hF5 (by simp))
       have HIN := Lib.hid (rin_calls hS5 (by rw [List.length_map]; omega) N)
       clear hS5 hF5 HWA)
    | (go_at_call 77; rw [show decide (N ∈ t.wait.map nameB) = false by rw [HNN.out]; exact HWI.out] at HIN; refine HIN.out.mono ?_; rintro e w6 ⟨rfl, hF6⟩
       have HF9 := Lib.hid (HF5.out.trans hF6 (by simp))
       clear hF6 HIN x20 x21 x22 x23 e0 e1 e2 e3 e4))
  obtain ⟨x20, x21, x22, x23⟩ := (HT2.out.fr HF9.out).cells
  obtain ⟨e0, e1, e2, e3, e4⟩ := (HB3.out.fr HF9.out).cells
  have HRD := Lib.hid (rready_calls HG.out HRG.out (HV0.out.fr HF9.out) (HV1.out.fr HF9.out) q.b q.A q.c (Kd.F_now (Kd.F_below HQF.out HF9.out.below)) hc)
  rw [HRY.out] at HRD
  go_upto_region 12 with (first
    | (go_at_call 79; refine HRD.out.mono ?_; rintro e w7 ⟨rfl, hF7⟩
       replace HF9 := Lib.hid (HF9.out.trans hF7 (by simp))
       clear hF7 HRD x20 x21 x22 x23 e0 e1 e2 e3 e4))
  obtain ⟨x20, x21, x22, x23⟩ := (HT2.out.fr HF9.out).cells
  obtain ⟨e0, e1, e2, e3, e4⟩ := (HB3.out.fr HF9.out).cells
  have hlt4 := HT4.out.lt
  have hs9 := HF9.out.size
  have hsW := HFW.out.size
  have HGR := Lib.hid (rgrow_full HG.out (VB.fr (VB.bound H0W.out) (HFW.out.trans HF9.out (by simp))) (VB.fr (VB.bound H1W.out) (HFW.out.trans HF9.out (by simp))) q hc (Kd.F_below (Kd.F_bound HQW.out) (HFW.out.trans HF9.out (by simp)).below) HRM.out)
  go_upto_region 13 with (first
    | (go_at_call 80; refine HGR.out.mono ?_; rintro e w8 ⟨B0, d0, B1, d1, rfl, hv0, hv1, hF8⟩
       have HB0 := Lib.hid (VB.weak (P' := OKP P w g) hv0 (fun k hk => hk.imp id (fun h => by omega)))
       have HB1 := Lib.hid (VB.weak (P' := OKP P w g) hv1 (fun k hk => hk.imp id (fun h => by omega)))
       replace HF9 := Lib.hid (HF9.out.trans hF8 (by simp))
       clear hv0 hv1 hF8 HGR x20 x21 x22 x23 e0 e1 e2 e3 e4
       obtain ⟨x20, x21, x22, x23⟩ := (HT2.out.fr HF9.out).cells))
  obtain ⟨W9, hW9⟩ : ∃ W9, W9 = (w8.setCell ⟨g, 0, none⟩ (.slice B0 t.ks.length d0)).setCell ⟨g, 1, none⟩ (.slice B1 t.wait.length d1) := ⟨_, rfl⟩
  have HFN : Hid (Fr [] w W9) := by rw [hW9]; exact ((HFW.out.trans HF9.out (by simp)).setCell (.inr hgw) _).setCell (.inr hgw) _
  have HTN : Hid (TreeIn W9 g (.slice B0 t.ks.length d0) (.slice B1 t.wait.length d1)) := by rw [hW9]; exact two_put (HT2.out.fr HF9.out) _ _
  have HRN : Hid (TreeIn W9 (g + 1 + 1) (.slice none 0 0) (.slice none 0 0)) := by
    rw [hW9]
    exact ((set_far _ (by show g + 1 + 1 ≠ g; omega) _).trans (set_far _ (by show g + 1 + 1 ≠ g; omega) _)).trans (HT4.out.fr HF9.out)
  have HV0' : Hid (VB W9 (OKP P w g) (.slice B0 t.ks.length d0) t.ks) := by rw [hW9]; exact Kd.V_far (Kd.V_far HB0.out (fun k hk => OKP.ne hgw (Nat.le_refl g) (by omega) k hk) _) (fun k hk => OKP.ne hgw (Nat.le_refl g) (by omega) k hk) _
  have HV1' : Hid (VB W9 (OKP P w g) (.slice B1 t.wait.length d1) t.wait) := by rw [hW9]; exact Kd.V_far (Kd.V_far HB1.out (fun k hk => OKP.ne hgw (Nat.le_refl g) (by omega) k hk) _) (fun k hk => OKP.ne hgw (Nat.le_refl g) (by omega) k hk) _
  rw [← hW9]
  clear hW9 x20 x21 x22 x23 HB0 HB1
  obtain ⟨x20, x21, x22, x23⟩ := HTN.out.cells
  obtain ⟨z0, z1, z2, z3⟩ := HRN.out.cells
  go_wp2
  have hb4 := two_put HRN.out (.slice B0 t.ks.length d0) (.slice B1 t.wait.length d1)
  have hf4 := (HFN.out.setCell (p := ⟨g + 1 + 1, 0, none⟩) (.inr (show w.heap.size ≤ g + 1 + 1 by omega)) (.slice B0 t.ks.length d0)).setCell (p := ⟨g + 1 + 1, 1, none⟩) (.inr (show w.heap.size ≤ g + 1 + 1 by omega)) (.slice B1 t.wait.length d1)
  have hv3 := Kd.V_far (Kd.V_far HV0'.out (p := ⟨g + 1 + 1, 0, none⟩) (fun k hk => OKP.ne hgw (i := g + 1 + 1) (by omega) (Nat.le_refl _) k hk) (.slice B0 t.ks.length d0)) (p := ⟨g + 1 + 1, 1, none⟩) (fun k hk => OKP.ne hgw (i := g + 1 + 1) (by omega) (Nat.le_refl _) k hk) (.slice B1 t.wait.length d1)
  have hv4 := Kd.V_far (Kd.V_far HV1'.out (p := ⟨g + 1 + 1, 0, none⟩) (fun k hk => OKP.ne hgw (i := g + 1 + 1) (by omega) (Nat.le_refl _) k hk) (.slice B0 t.ks.length d0)) (p := ⟨g + 1 + 1, 1, none⟩) (fun k hk => OKP.ne hgw (i := g + 1 + 1) (by omega) (Nat.le_refl _) k hk) (.slice B1 t.wait.length d1)
  refine bodyPost_ret (results_ctt rfl _ _ (g + 1 + 1) 30 _ (0, 0) _ rfl hb4 Tryz.underlying30 rfl (by kernel_rfl)) rfl ?_
  exact hR.out _ _ ⟨B0, d0, B1, d1, none, 0, rfl, VB.weak hv3 (OKP.weak hgw), VB.weak hv4 (OKP.weak hgw), OwnI.nil _ _, hf4⟩
end Go.Np.Tryz

/- Blocks as arguments, opened. -/
import Derived.Test.YtdfoalbkfdnmcaaTrC
import Derived.Deep.SlicePairs
import Derived.SizedLaws
set_option linter.unusedVariables false
set_option linter.unusedSimpArgs false
namespace Go.Np.Try
open Go.RowKit Go.Proofs Go.ChangeShapes Go.WideShapes Go.Proofs.Ytdfoalbkfdnmcaa.PX Go.Proofs.YtdfoalbkfdnmcaaW.PrintWords
theorem cells59 : Try.prog.cellsOf 59 = 2 := by kernel_rfl
theorem cells28 : Try.prog.cellsOf 28 = 5 := by kernel_rfl
set_option maxRecDepth 100000 in
theorem two_ints {H : Type} {enc : TypeId × Value → H} {W : World} {base : Nat} {sp : Nat → Bool} {held : Bool} {n : Nat} {cs : List Value} {x : DataW H × List MemPlace} (hl : cs.length = 2)
    (h : DataW.trod enc Try.prog W base sp held n 59 cs = some x) : ∃ q : S59, cs = [.int .i64 q.f0, .int .i64 q.f1] := by
  obtain ⟨xs, m, _, _, _, hxl, hf⟩ := DataW.trod_struct Try.underlying59 h
  have hc : Try.prog.cellsOf 3 = 1 := by kernel_rfl
  match cs, hl with
  | [v0, v1], _ =>
    match xs, hxl with
    | [y0, y1], _ =>
      have h0 := hf 0 _ rfl
      have h1 := hf 1 _ rfl
      simp [hc] at h0 h1
      obtain ⟨a, ea, _, wa⟩ := DataW.trod_int Try.underlying3 h0
      obtain ⟨b, eb, _, wb⟩ := DataW.trod_int Try.underlying3 h1
      simp at ea eb
      subst ea eb
      exact ⟨⟨a, b⟩, rfl⟩
/-- A slice, element by element. -/
theorem rows_C {α : Type} (d : Kd α) (z : α) {W : World} {ad : Addr} {n : Nat} {F : α → Prop} (hm : n ≤ maxLen) (each : ∀ j, j < n → ∃ (q : α), F q ∧ ∃ (cs : List Value), cs.length = d.sz ∧ d.K W q cs ∧ ∀ i u, cs[i]? = some u → W.cell? (ad.add (j * d.sz + i)) = some u) :
    ∃ l : List α, l.length = n ∧ d.C W (some ad) n l ∧ ∀ q ∈ l, F q := by
  have hq : ∃ f : Nat → α, ∀ j, j < n → F (f j) ∧ ∃ cs : List Value, cs.length = d.sz ∧ d.K W (f j) cs ∧ ∀ i u, cs[i]? = some u → W.cell? (ad.add (j * d.sz + i)) = some u :=
    ⟨fun j => if h : j < n then Classical.choose (each j h) else z, fun j hj => by simp only [dif_pos hj]; exact Classical.choose_spec (each j hj)⟩
  obtain ⟨f, hf⟩ := hq
  refine ⟨(List.range n).map f, by simp, ⟨by simp, hm, fun _ => ⟨ad, rfl, fun j p hp => ?_⟩⟩, fun q hq => by
    obtain ⟨j, hj, rfl⟩ := List.mem_map.1 hq
    exact (hf j (by simpa using hj)).1⟩
  have hj : j < n := by simpa using (List.getElem?_eq_some_iff.1 hp).1
  have hpf : p = f j := by simpa [hj] using hp.symm
  subst hpf
  exact (hf j hj).2
set_option maxRecDepth 100000 in
theorem open_txs {H : Type} {enc : TypeId × Value → H} {W : World} {base : Nat} {sp : Nat → Bool} {held : Bool} {n : Nat} {v : Value} {x : DataW H × List MemPlace}
    (h : DataW.trod enc Try.prog W base sp held n 26 [v] = some x) : ∃ (A : Option Addr) (c : Nat) (l : List S59), v = .slice A l.length c ∧ l.length ≤ c ∧ k59.C W A l.length l ∧ (l.length = 0 ∨ ∃ m ∈ x.1.weights Try.prog 26, l.length * 16 ≤ m) := by
  rcases Go.Deep.open_slice Try.underlying26 h with ⟨hcs, _⟩ | ⟨ad, len, cap, m, k, D, Pl, hcs, _, hlc, hcm, hm, hxx, hx⟩
  · simp at hcs
    subst hcs
    exact ⟨none, 0, [], rfl, Nat.le_refl _, ⟨rfl, Nat.zero_le _, fun h => absurd h (Nat.lt_irrefl 0)⟩, .inl rfl⟩
  · simp at hcs
    subst hcs
    have hlm : len ≤ m := by rw [hm]; split <;> omega
    obtain ⟨l, hl, hC, _⟩ := rows_C k59 z59 (F := fun _ => True) (W := W) (ad := ad) (n := len) (by omega) (fun j hj => by
      obtain ⟨cs', h1, h2⟩ := hx j (by omega)
      rw [cells59] at h1
      obtain ⟨_, hlen, hcell⟩ := World.cells?_some h1
      obtain ⟨q, rfl⟩ := two_ints hlen h2
      refine ⟨q, trivial, _, rfl, k59_mk W q, fun i u hu => ?_⟩
      have hi : i < 2 := by simpa using (List.getElem?_eq_some_iff.1 hu).1
      have := hcell i (by omega)
      rw [Go.Deep.add_add] at this
      exact this.trans hu)
    subst hl
    refine ⟨some ad, cap, l, rfl, hlc, hC, .inr ⟨_, by rw [hxx]; simp only [DataW.weights, Try.underlying26]; exact .head _, ?_⟩⟩
    have hb : Try.prog.bytesOf 59 = 16 := by kernel_rfl
    rw [hb]
    simp only [List.length_map, List.length_range]
    omega
set_option maxRecDepth 100000 in
theorem open_cells {H : Type} {enc : TypeId × Value → H} {W : World} {base : Nat} {sp : Nat → Bool} {held : Bool} {n : Nat} {cs : List Value} {x : DataW H × List MemPlace} (hl : cs.length = 5)
    (h : DataW.trod enc Try.prog W base sp held n 28 cs = some x) : ∃ q : S28, k28.K W q cs ∧ (q.f4.length = 0 ∨ ∃ m ∈ x.1.weights Try.prog 28, q.f4.length * 16 ≤ m) := by
  obtain ⟨xs, m, _, hxx, _, hxl, hf⟩ := DataW.trod_struct Try.underlying28 h
  have hc : Try.prog.cellsOf 3 = 1 := by kernel_rfl
  have hc2 : Try.prog.cellsOf 26 = 1 := by kernel_rfl
  match cs, hl with
  | [v0, v1, v2, v3, v4], _ =>
    match xs, hxl with
    | [y0, y1, y2, y3, y4], _ =>
      have h0 := hf 0 _ rfl
      have h1 := hf 1 _ rfl
      have h2 := hf 2 _ rfl
      have h3 := hf 3 _ rfl
      have h4 := hf 4 _ rfl
      simp [hc, hc2] at h0 h1 h2 h3 h4
      obtain ⟨a, ea, _, wa⟩ := DataW.trod_int Try.underlying3 h0
      obtain ⟨b, eb, _, wb⟩ := DataW.trod_int Try.underlying3 h1
      obtain ⟨c, ec, _, wc⟩ := DataW.trod_int Try.underlying3 h2
      obtain ⟨d, ed, _, wd⟩ := DataW.trod_int Try.underlying3 h3
      obtain ⟨A, cp, l, e4, hl4, hC4, hsz4⟩ := open_txs h4
      simp at ea eb ec ed
      subst ea eb ec ed e4
      refine ⟨⟨a, b, c, d, l⟩, k28_mk W ⟨a, b, c, d, l⟩ hl4 hC4, hsz4.imp id (fun ⟨m', h1, h2⟩ => ⟨m', ?_, h2⟩)⟩
      rw [hxx]
      simp only [DataW.weights, Try.underlying28, List.map_cons, List.map_nil, DataW.weightsEach, List.mem_append]
      simp [h1]
/-- A slice of blocks. -/
def BlocksAt (W : World) (v : Value) (l : List Blk) : Prop := ∃ A c, v = .slice A l.length c ∧ k28.C W A l.length l ∧ ∀ b ∈ l, b.f4.length ≤ 8796093022208
theorem weights_all {H : Type} {P : Program} {e : TypeId} {d : DataW H} {n : Nat} : ∀ {ds : List (DataW H)}, d ∈ ds → n ∈ d.weights P e → n ∈ DataW.weightsAll P e ds
  | [], h, _ => by cases h
  | d0 :: ds, h, hn => by
    simp only [DataW.weightsAll, List.mem_append]
    rcases List.mem_cons.1 h with rfl | h
    · exact .inl hn
    · exact .inr (weights_all h hn)
set_option maxRecDepth 100000 in
theorem open_blocks {H : Type} {enc : TypeId × Value → H} {W : World} {base b0 : Nat} {sp : Nat → Bool} {held : Bool} {v : Value} {d : DataW H} {ps : List MemPlace} {ts : List TypeId} {ds : List (DataW H)} {j : Nat}
    (hs : (DataW.weightsEach Try.prog ts ds).all (· ≤ reachBytes) = true) (ht : ts[j]? = some 22) (hd : ds[j]? = some d)
    (hv : Value.okWide Try.prog W .any b0 22 v) (h : DataW.Trod enc Try.prog W base sp held 22 v d ps) : ∃ l : List Blk, BlocksAt W v l := by
  have hall : ∀ n ∈ d.weights Try.prog 22, n ≤ reachBytes := fun n hn => by
    have := List.all_eq_true.1 hs _ (DataW.weights_mem_each ht hd n hn)
    simpa using this
  obtain ⟨a, n, c, rfl⟩ := okWide_slice Try.underlying22 hv
  obtain ⟨fuel, hf⟩ := h
  rcases Go.Deep.open_slice Try.underlying22 hf with ⟨hcs, _⟩ | ⟨ad, len, cap, m, k, D, Pl, hcs, _, hlc, hcm, hm, hxx, hx⟩
  · simp [Value.cells] at hcs
    obtain ⟨rfl, rfl, rfl⟩ := hcs
    exact ⟨[], none, 0, rfl, ⟨rfl, Nat.zero_le _, fun h => absurd h (Nat.lt_irrefl 0)⟩, by simp⟩
  · simp [Value.cells] at hcs
    obtain ⟨rfl, rfl, rfl⟩ := hcs
    have hlm : n ≤ m := by rw [hm]; split <;> omega
    have hdd : d = .slice ((List.range n).map D) ((List.range (m - n)).map fun j => D (n + j)) := congrArg Prod.fst hxx
    obtain ⟨l, hl, hC, hF⟩ := rows_C k28 z28 (F := fun q : S28 => q.f4.length ≤ 8796093022208) (W := W) (ad := ad) (n := n) (by omega) (fun j hj => by
      obtain ⟨cs', h1, h2⟩ := hx j (by omega)
      rw [cells28] at h1
      obtain ⟨_, hlen, hcell⟩ := World.cells?_some h1
      obtain ⟨q, hq, hsz⟩ := open_cells hlen h2
      refine ⟨q, ?_, cs', hlen, hq, fun i u hu => ?_⟩
      · rcases hsz with h0 | ⟨mm, hm1, hm2⟩
        · omega
        · have := hall mm (by
            rw [hdd]
            simp only [DataW.weights, Try.underlying22]
            refine List.mem_cons_of_mem _ (List.mem_append_left _ (weights_all (d := D j) (List.mem_map.2 ⟨j, by simpa using hj, rfl⟩) hm1)))
          unfold reachBytes at this
          omega
      · have hi : i < 5 := by have := (List.getElem?_eq_some_iff.1 hu).1; omega
        have := hcell i (by omega)
        rw [Go.Deep.add_add] at this
        exact this.trans hu)
    subst hl
    exact ⟨l, some ad, c, rfl, hC, hF⟩
/-- One block of the slice: where it lies, and where its transactions lie. -/
theorem blocks_at {W : World} {A : Option Addr} {n : Nat} {l : List Blk} (h : k28.C W A n l) (j : Nat) (hj : j < n) : ∃ (ad : Addr) (q : BV), l[j]? = some q.b ∧ A = some ad ∧ W.cell? (ad.add (j * 5)) = some (.int .i64 q.b.f0) ∧ W.cell? ⟨(ad.add (j * 5)).block, (ad.add (j * 5)).off + 1, none⟩ = some (.int .i64 q.b.f1) ∧ W.cell? ⟨(ad.add (j * 5)).block, (ad.add (j * 5)).off + 2, none⟩ = some (.int .i64 q.b.f2) ∧
      W.cell? ⟨(ad.add (j * 5)).block, (ad.add (j * 5)).off + 3, none⟩ = some (.int .i64 q.b.f3) ∧ W.cell? ⟨(ad.add (j * 5)).block, (ad.add (j * 5)).off + 4, none⟩ = some (.slice q.A q.b.f4.length q.c) ∧ q.b.f4.length ≤ q.c ∧ k59.C W q.A q.b.f4.length q.b.f4 := by
  obtain ⟨ad, A4, c4, e, h0, h1, h2, h3, h4, h5, h6⟩ := at_T28 h (j : Int) (by omega) (by omega)
  have hlen : l.length = n := h.1
  have hb : l[j]? = some (rd_T28 l (j : Int)) := by
    simp [rd_T28, List.getD_eq_getElem?_getD, List.getElem?_eq_getElem (show j < l.length by omega)]
  refine ⟨ad, ⟨rd_T28 l (j : Int), A4, c4⟩, hb, e, ?_, ?_, ?_, ?_, ?_, h5, h6⟩
  · simpa using h0
  · simpa using h1
  · simpa using h2
  · simpa using h3
  · simpa using h4
end Go.Np.Try

/- A text that the row of ChainTxs needs. (Pruned by tools/prune.py.) -/
import Derived.Test.YtlllhpnpgcphcaaQChainTxsTrC
import Derived.Test.YtlllhpnpgcphcaaQChainTxsPXx16
import Derived.Deep.SlicePairs
import Derived.SizedLaws
set_option linter.unusedVariables false
set_option linter.unusedSimpArgs false
namespace Go.Np.Try
open Go.RowKit Go.Proofs Go.ChangeShapes Go.WideShapes Go.Proofs.Ytlllhpnpgcphcaa.PX Go.Proofs.YtlllhpnpgcphcaaW.PrintWords
theorem cells59 : Try.prog.cellsOf 52 = 2 := by kernel_rfl
set_option maxRecDepth 100000 in
theorem two_ints {H : Type} {enc : TypeId × Value → H} {W : World} {base : Nat} {sp : Nat → Bool} {held : Bool} {n : Nat} {cs : List Value} {x : DataW H × List MemPlace} (hl : cs.length = 2)
    (h : DataW.trod enc Try.prog W base sp held n 52 cs = some x) : ∃ q : S52, cs = [.int .i64 q.f0, .int .i64 q.f1] := by
  obtain ⟨xs, m, _, _, _, hxl, hf⟩ := DataW.trod_struct Try.underlying52 h
  have hc : Try.prog.cellsOf 3 = 1 := by kernel_rfl
  match cs, hl with
  | [v0, v1], _ =>
    match xs, hxl with
    | [y0, y1], _ =>
      have h0 := hf 0 _ rfl
      have h1 := hf 1 _ rfl
      simp [hc] at h0 h1
      obtain ⟨a, ea, _, wa⟩ := DataW.trod_int Try.underlying3 h0
      obtain ⟨b, eb, _, wb⟩ := DataW.trod_int Try.underlying3 h1
      simp at ea eb
      subst ea eb
      exact ⟨⟨a, b⟩, rfl⟩
theorem rows_C {α : Type} (d : Kd α) (z : α) {W : World} {ad : Addr} {n : Nat} {F : α → Prop} (hm : n ≤ maxLen) (each : ∀ j, j < n → ∃ (q : α), F q ∧ ∃ (cs : List Value), cs.length = d.sz ∧ d.K W q cs ∧ ∀ i u, cs[i]? = some u → W.cell? (ad.add (j * d.sz + i)) = some u) :
    ∃ l : List α, l.length = n ∧ d.C W (some ad) n l ∧ ∀ q ∈ l, F q := by
  have hq : ∃ f : Nat → α, ∀ j, j < n → F (f j) ∧ ∃ cs : List Value, cs.length = d.sz ∧ d.K W (f j) cs ∧ ∀ i u, cs[i]? = some u → W.cell? (ad.add (j * d.sz + i)) = some u :=
    ⟨fun j => if h : j < n then Classical.choose (each j h) else z, fun j hj => by simp only [dif_pos hj]; exact Classical.choose_spec (each j hj)⟩
  obtain ⟨f, hf⟩ := hq
  refine ⟨(List.range n).map f, by simp, ⟨by simp, hm, fun _ => ⟨ad, rfl, fun j p hp => ?_⟩⟩, fun q hq => by
    obtain ⟨j, hj, rfl⟩ := List.mem_map.1 hq
    exact (hf j (by simpa using hj)).1⟩
  have hj : j < n := by simpa using (List.getElem?_eq_some_iff.1 hp).1
  have hpf : p = f j := by simpa [hj] using hp.symm
  subst hpf
  exact (hf j hj).2
set_option maxRecDepth 100000 in
theorem open_txs {H : Type} {enc : TypeId × Value → H} {W : World} {base : Nat} {sp : Nat → Bool} {held : Bool} {n : Nat} {v : Value} {x : DataW H × List MemPlace}
    (h : DataW.trod enc Try.prog W base sp held n 30 [v] = some x) : ∃ (A : Option Addr) (c : Nat) (l : List S52), v = .slice A l.length c ∧ l.length ≤ c ∧ k52.C W A l.length l ∧ (l.length = 0 ∨ ∃ m ∈ x.1.weights Try.prog 30, l.length * 16 ≤ m) := by
  rcases Go.Deep.open_slice Try.underlying30 h with ⟨hcs, _⟩ | ⟨ad, len, cap, m, k, D, Pl, hcs, _, hlc, hcm, hm, hxx, hx⟩
  · simp at hcs
    subst hcs
    exact ⟨none, 0, [], rfl, Nat.le_refl _, ⟨rfl, Nat.zero_le _, fun h => absurd h (Nat.lt_irrefl 0)⟩, .inl rfl⟩
  · simp at hcs
    subst hcs
    have hlm : len ≤ m := by rw [hm]; split <;> omega
    obtain ⟨l, hl, hC, _⟩ := rows_C k52 z52 (F := fun _ => True) (W := W) (ad := ad) (n := len) (by omega) (fun j hj => by
      obtain ⟨cs', h1, h2⟩ := hx j (by omega)
      rw [cells59] at h1
      obtain ⟨_, hlen, hcell⟩ := World.cells?_some h1
      obtain ⟨q, rfl⟩ := two_ints hlen h2
      refine ⟨q, trivial, _, rfl, k52_mk W q, fun i u hu => ?_⟩
      have hi : i < 2 := by simpa using (List.getElem?_eq_some_iff.1 hu).1
      have := hcell i (by omega)
      rw [Go.Deep.add_add] at this
      exact this.trans hu)
    subst hl
    refine ⟨some ad, cap, l, rfl, hlc, hC, .inr ⟨_, by rw [hxx]; simp only [DataW.weights, Try.underlying30]; exact .head _, ?_⟩⟩
    have hb : Try.prog.bytesOf 52 = 16 := by kernel_rfl
    rw [hb]
    simp only [List.length_map, List.length_range]
    omega
theorem weights_all {H : Type} {P : Program} {e : TypeId} {d : DataW H} {n : Nat} : ∀ {ds : List (DataW H)}, d ∈ ds → n ∈ d.weights P e → n ∈ DataW.weightsAll P e ds
  | [], h, _ => by cases h
  | d0 :: ds, h, hn => by
    simp only [DataW.weightsAll, List.mem_append]
    rcases List.mem_cons.1 h with rfl | h
    · exact .inl hn
    · exact .inr (weights_all h hn)
end Go.Np.Try
set_option linter.unusedVariables false
set_option linter.unusedSimpArgs false
set_option linter.unusedVariables false
set_option linter.unusedSimpArgs false
namespace Go.Np
open Go.RowKit
theorem FrX.keep {X : Nat → Prop} {w w1 w' : World} (h : FrX X w1 w') (hX : ∀ k, k < w.heap.size → X k) (h0 : Fr [] w w1) : Fr [] w w' := by
  obtain ⟨S, h1, h2⟩ := h
  exact (h0.trans h1 (fun x hx => .inr (Nat.le_of_not_lt (fun hl => h2 x hx (hX x hl))))).mono (fun x hx => by simp at hx)
end Go.Np
namespace Go.Np.Try
open Go.RowKit Go.Proofs Go.Proofs.Ytlllhpnpgcphcaa.PX Go.Proofs.YtlllhpnpgcphcaaW.PrintWords
def BlkIn (W : World) (g : Nat) (q : BV) : Prop := W.heap[g]? = some (.cells #[.int .i64 q.b.f0, .int .i64 q.b.f1, .int .i64 q.b.f2, .int .i64 q.b.f3, .slice q.A q.b.f4.length q.c] 32 (0, 0))
theorem BlkIn.cells {W : World} {g : Nat} {q : BV} (h : BlkIn W g q) : W.cell? ⟨g, 0, none⟩ = some (.int .i64 q.b.f0) ∧ W.cell? ⟨g, 1, none⟩ = some (.int .i64 q.b.f1) ∧ W.cell? ⟨g, 2, none⟩ = some (.int .i64 q.b.f2) ∧ W.cell? ⟨g, 3, none⟩ = some (.int .i64 q.b.f3) ∧ W.cell? ⟨g, 4, none⟩ = some (.slice q.A q.b.f4.length q.c) := by
  have e0 := cell_of h 0
  have e1 := cell_of h 1
  have e2 := cell_of h 2
  have e3 := cell_of h 3
  have e4 := cell_of h 4
  simp at e0 e1 e2 e3 e4
  exact ⟨e0, e1, e2, e3, e4⟩
theorem BlkIn.fr {W W' : World} {g : Nat} {q : BV} (h : BlkIn W g q) (hF : Fr [] W W') : BlkIn W' g q := (hF.block g (Array.getElem?_eq_some_iff.1 h).1 (by simp)).trans h
theorem BlkIn.frX {X : Nat → Prop} {W W' : World} {g : Nat} {q : BV} (h : BlkIn W g q) (hF : FrX X W W') (hx : X g) : BlkIn W' g q := (hF.block (Array.getElem?_eq_some_iff.1 h).1 hx).trans h
theorem BlkIn.made {w W : World} {q : BV} (hW : W = w.alloc (.cells #[.int .i64 q.b.f0, .int .i64 q.b.f1, .int .i64 q.b.f2, .int .i64 q.b.f3, .slice q.A q.b.f4.length q.c] 32)) : BlkIn W w.heap.size q := by rw [hW]; exact heap_alloc_new _ _
theorem copy_C {w : World} (q : BV) (h : k52.C w q.A q.b.f4.length q.b.f4) (hl : q.b.f4.length ≤ 8796093022208) :
    Calls Try.prog 27 #[.agg #[.int .i64 q.b.f0, .int .i64 q.b.f1, .int .i64 q.b.f2, .int .i64 q.b.f3, .slice q.A q.b.f4.length q.c]] w fun e w' => ∃ A' c', e = .returned (.agg #[.int .i64 q.b.f0, .int .i64 q.b.f1, .int .i64 q.b.f2, .int .i64 q.b.f3, .slice A' q.b.f4.length c']) ∧ q.b.f4.length ≤ c' ∧ k52.C w' A' q.b.f4.length q.b.f4 ∧ Fr [] w w' := by
  refine (copy_calls q h hl).mono ?_
  rintro e w' ⟨A', c', rfl, h1, h2, h3⟩
  obtain ⟨B, d, e, h4, h5⟩ := flatT_C h1
  injection e with e1 _ e3
  subst e1 e3
  exact ⟨_, _, rfl, h4, h5, h3⟩
end Go.Np.Try
set_option linter.unusedVariables false
set_option linter.unusedSimpArgs false
set_option linter.unusedVariables false
set_option linter.unusedSimpArgs false
namespace Go.Np.Try
open Go.RowKit Go.Proofs Go.Proofs.Ytlllhpnpgcphcaa.PX Go.Proofs.YtlllhpnpgcphcaaW.PrintWords
theorem wr_step (j : Nat) (h : j < 1000000000000000) : wrap64 ((j : Int) + 1) = ((j + 1 : Nat) : Int) := by rw [wr_in _ (by omega)]; rfl
def rng (b : Blk) : Prop := -9223372036854775808 ≤ b.f3 ∧ b.f3 ≤ 9223372036854775807
end Go.Np.Try
set_option linter.unusedVariables false
set_option linter.unusedSimpArgs false
set_option linter.unusedVariables false
set_option linter.unusedSimpArgs false
set_option linter.unusedVariables false
set_option linter.unusedSimpArgs false
namespace Go.Np.Try
open Go.RowKit Go.Proofs Go.Proofs.Ytlllhpnpgcphcaa.PX Go.Proofs.YtlllhpnpgcphcaaW.PrintWords
theorem SlI.nil (w : World) : SlI w (.slice none 0 0) [] := ⟨none, 0, rfl, Nat.le_refl _, ⟨rfl, Nat.zero_le _, fun h => absurd h (Nat.lt_irrefl 0)⟩⟩
end Go.Np.Try

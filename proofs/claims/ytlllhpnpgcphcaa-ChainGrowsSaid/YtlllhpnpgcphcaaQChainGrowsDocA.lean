/- A text that the row of ChainGrows needs. (Pruned by tools/prune.py.) -/
import Derived.Test.YtlllhpnpgcphcaaQChainGrowsTrC
import Derived.Test.YtlllhpnpgcphcaaQChainGrowsPXx16
import Derived.Deep.SlicePairs
import Derived.SizedLaws
set_option linter.unusedVariables false
set_option linter.unusedSimpArgs false
set_option linter.unusedVariables false
set_option linter.unusedSimpArgs false
namespace Go.Np.Try
open Go.Proofs Go.Proofs.Ytlllhpnpgcphcaa.PX
section
variable {t s : Tr} {es : List Kn} {n : Int}
theorem Tr.find_ext (h : s.known = t.known ++ es) (hn : t.has n = true) : s.find n = t.find n := by
  unfold Tr.has at hn
  obtain ⟨e, he⟩ := Option.isSome_iff_exists.1 hn
  unfold Tr.find at he ⊢
  rw [h, List.find?_append, he]; rfl
theorem Tr.has_ext (h : s.known = t.known ++ es) (hn : t.has n = true) : s.has n = true := by
  unfold Tr.has
  rw [Tr.find_ext h hn]; exact hn
theorem Tr.path_ext (h : s.known = t.known ++ es) (hn : t.has n = true) : s.path n = t.path n := by
  unfold Tr.path
  rw [Tr.find_ext h hn]
theorem Tr.high_ext (h : s.known = t.known ++ es) (hn : t.has n = true) : s.high n = t.high n := by
  unfold Tr.high
  rw [Tr.path_ext h hn, Tr.has_ext h hn, hn]
end
theorem Tr.mem_names {t : Tr} {n : Int} : n ∈ t.names ↔ t.has n = true := by
  unfold Tr.names
  rw [uniq_mem, Tr.has_iff]
theorem Tr.high_has {t : Tr} {n : Int} (hO : t.Ok) (h : t.has n = true) : t.high n = ((t.path n).length : Int) := by
  unfold Tr.high
  rw [if_neg (fun e => by rw [e, hO.no_zero] at h; cases h), if_pos h]
def Tr.better (t : Tr) (u y : Int) : Prop := t.high y < t.high u ∨ (t.high y = t.high u ∧ u ≤ y)
theorem Tr.better.trans {t : Tr} {a b c : Int} (h : t.better a b) (k : t.better b c) : t.better a c := by
  unfold Tr.better at *; omega
theorem Tr.better.refl (t : Tr) (a : Int) : t.better a a := .inr ⟨rfl, Int.le_refl _⟩
theorem Tr.low_better (t : Tr) (m y : Int) : (t.low m y = m ∨ t.low m y = y) ∧ t.better (t.low m y) m ∧ t.better (t.low m y) y := by
  unfold Tr.low
  by_cases h : t.cmp y m < 0
  · rw [if_pos h]
    rw [Tr.cmp_neg] at h
    refine ⟨.inr rfl, ?_, Tr.better.refl t y⟩
    unfold Tr.better; omega
  · rw [if_neg h]
    rw [Tr.cmp_neg] at h
    refine ⟨.inl rfl, Tr.better.refl t m, ?_⟩
    unfold Tr.better; omega
theorem Tr.fold_low (t : Tr) : ∀ (l : List Int) (x : Int), (l.foldl t.low x = x ∨ l.foldl t.low x ∈ l) ∧ t.better (l.foldl t.low x) x ∧ ∀ y ∈ l, t.better (l.foldl t.low x) y
  | [], x => ⟨.inl rfl, Tr.better.refl t x, by simp⟩
  | z :: l, x => by
    obtain ⟨h1, h2, h3⟩ := Tr.fold_low t l (t.low x z)
    obtain ⟨k1, k2, k3⟩ := t.low_better x z
    refine ⟨?_, h2.trans k2, ?_⟩
    · simp only [List.foldl_cons, List.mem_cons]
      rcases h1 with h1 | h1
      · rw [h1]; rcases k1 with k1 | k1
        · exact .inl k1
        · exact .inr (.inl k1)
      · exact .inr (.inr h1)
    · intro y hy
      rcases List.mem_cons.1 hy with rfl | hy
      · exact h2.trans k3
      · exact h3 y hy
theorem Tr.tip_spec {t : Tr} (h : t.names ≠ []) : t.tip ∈ t.names ∧ ∀ y ∈ t.names, t.better t.tip y := by
  unfold Tr.tip
  cases hn : t.names with
  | nil => exact absurd hn h
  | cons x l =>
    obtain ⟨h1, h2, h3⟩ := t.fold_low l x
    refine ⟨?_, ?_⟩
    · rcases h1 with h1 | h1
      · show l.foldl t.low x ∈ x :: l
        rw [h1]; simp
      · exact List.mem_cons_of_mem _ h1
    · intro y hy
      rcases List.mem_cons.1 hy with rfl | hy
      · exact h2
      · exact h3 y hy
theorem Tr.tip_empty {t : Tr} (h : t.names = []) : t.tip = 0 := by unfold Tr.tip; rw [h]; rfl
theorem Tr.tip_high {t : Tr} (hO : t.Ok) (n : Int) (hn : t.has n = true) : t.high n ≤ t.high t.tip := by
  have hm : n ∈ t.names := Tr.mem_names.2 hn
  have := (Tr.tip_spec (t := t) (fun e => by rw [e] at hm; cases hm)).2 n hm
  unfold Tr.better at this; omega
theorem Tr.tip_has {t : Tr} (h : t.names ≠ []) : t.has t.tip = true := Tr.mem_names.1 (Tr.tip_spec h).1
end Go.Np.Try
set_option linter.unusedVariables false
set_option linter.unusedSimpArgs false
namespace Go.Np
open Go.RowKit
theorem FrX.keep {X : Nat → Prop} {w w1 w' : World} (h : FrX X w1 w') (hX : ∀ k, k < w.heap.size → X k) (h0 : Fr [] w w1) : Fr [] w w' := by
  obtain ⟨S, h1, h2⟩ := h
  exact (h0.trans h1 (fun x hx => .inr (Nat.le_of_not_lt (fun hl => h2 x hx (hX x hl))))).mono (fun x hx => by simp at hx)
end Go.Np
namespace Go.Np.Try
open Go.RowKit Go.Proofs Go.Proofs.Ytlllhpnpgcphcaa.PX Go.Proofs.YtlllhpnpgcphcaaW.PrintWords
def BlkIn (W : World) (g : Nat) (q : BV) : Prop := W.heap[g]? = some (.cells #[.int .i64 q.b.f0, .int .i64 q.b.f1, .int .i64 q.b.f2, .int .i64 q.b.f3, .slice q.A q.b.f4.length q.c] 32 (0, 0))
theorem BlkIn.cells {W : World} {g : Nat} {q : BV} (h : BlkIn W g q) : W.cell? ⟨g, 0, none⟩ = some (.int .i64 q.b.f0) ∧ W.cell? ⟨g, 1, none⟩ = some (.int .i64 q.b.f1) ∧ W.cell? ⟨g, 2, none⟩ = some (.int .i64 q.b.f2) ∧ W.cell? ⟨g, 3, none⟩ = some (.int .i64 q.b.f3) ∧ W.cell? ⟨g, 4, none⟩ = some (.slice q.A q.b.f4.length q.c) := by
  have e0 := cell_of h 0
  have e1 := cell_of h 1
  have e2 := cell_of h 2
  have e3 := cell_of h 3
  have e4 := cell_of h 4
  simp at e0 e1 e2 e3 e4
  exact ⟨e0, e1, e2, e3, e4⟩
theorem BlkIn.fr {W W' : World} {g : Nat} {q : BV} (h : BlkIn W g q) (hF : Fr [] W W') : BlkIn W' g q := (hF.block g (Array.getElem?_eq_some_iff.1 h).1 (by simp)).trans h
theorem BlkIn.frX {X : Nat → Prop} {W W' : World} {g : Nat} {q : BV} (h : BlkIn W g q) (hF : FrX X W W') (hx : X g) : BlkIn W' g q := (hF.block (Array.getElem?_eq_some_iff.1 h).1 hx).trans h
theorem BlkIn.made {w W : World} {q : BV} (hW : W = w.alloc (.cells #[.int .i64 q.b.f0, .int .i64 q.b.f1, .int .i64 q.b.f2, .int .i64 q.b.f3, .slice q.A q.b.f4.length q.c] 32)) : BlkIn W w.heap.size q := by rw [hW]; exact heap_alloc_new _ _
end Go.Np.Try
set_option linter.unusedVariables false
set_option linter.unusedSimpArgs false
namespace Go.Np.Try
open Go.Proofs Go.Proofs.Ytlllhpnpgcphcaa.PX
theorem getD_snoc (l : List Int) (x : Int) : (l ++ [x]).getD l.length 0 = x := by simp [List.getD_eq_getElem?_getD]
theorem getD_left (l m : List Int) (i : Nat) (h : i < l.length) : (l ++ m).getD i 0 = l.getD i 0 := by
  simp [List.getD_eq_getElem?_getD, List.getElem?_append_left h]
theorem Tr.path_take {t : Tr} (hO : t.Ok) : ∀ (k : Nat) (n : Int), (t.path n).length = k → ∀ j, 1 ≤ j → j ≤ k → t.path ((t.path n).getD (j - 1) 0) = (t.path n).take j := by
  intro k
  induction k with
  | zero => intro n _ j h1 h2; omega
  | succ k ih =>
    intro n hn j h1 h2
    cases hf : t.find n with
    | none =>
      have : t.path n = [] := by unfold Tr.path; rw [hf]
      rw [this] at hn; simp at hn
    | some e =>
      have hw := hO.path_has hf
      have hlp : (t.path e.blk.f3).length = k := by rw [hw] at hn; simpa using hn
      by_cases hj : j = k + 1
      · subst hj
        rw [List.take_of_length_le (by omega)]
        have : (t.path n).getD (k + 1 - 1) 0 = n := by
          rw [hw, show k + 1 - 1 = (t.path e.blk.f3).length by omega]
          exact getD_snoc _ _
        rw [this]
      · have := ih e.blk.f3 hlp j h1 (by omega)
        rw [hw, getD_left _ _ _ (by omega), List.take_append_of_le_length (by omega)]
        exact this
end Go.Np.Try
set_option linter.unusedVariables false
set_option linter.unusedSimpArgs false
namespace Go.Np.Try
open Go.RowKit Go.Proofs Go.Proofs.Ytlllhpnpgcphcaa.PX Go.Proofs.YtlllhpnpgcphcaaW.PrintWords
theorem wr_step (j : Nat) (h : j < 1000000000000000) : wrap64 ((j : Int) + 1) = ((j + 1 : Nat) : Int) := by rw [wr_in _ (by omega)]; rfl
end Go.Np.Try
set_option linter.unusedVariables false
set_option linter.unusedSimpArgs false
namespace Go.Np.Try
open Go.RowKit Go.Proofs Go.Proofs.Ytlllhpnpgcphcaa.PX Go.Proofs.YtlllhpnpgcphcaaW.PrintWords
theorem Tr.has_find {t : Tr} {n : Int} (h : t.has n = true) : ∃ e, t.find n = some e := Option.isSome_iff_exists.1 h
end Go.Np.Try
set_option linter.unusedVariables false
set_option linter.unusedSimpArgs false
set_option linter.unusedVariables false
set_option linter.unusedSimpArgs false
namespace Go.Np.Try
open Go.RowKit Go.Proofs Go.Proofs.Ytlllhpnpgcphcaa.PX Go.Proofs.YtlllhpnpgcphcaaW.PrintWords
theorem SlI.nil (w : World) : SlI w (.slice none 0 0) [] := ⟨none, 0, rfl, Nat.le_refl _, ⟨rfl, Nat.zero_le _, fun h => absurd h (Nat.lt_irrefl 0)⟩⟩
end Go.Np.Try

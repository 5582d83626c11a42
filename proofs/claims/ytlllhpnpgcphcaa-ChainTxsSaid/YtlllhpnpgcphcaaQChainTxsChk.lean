/- A text that the row of ChainTxs needs. (Pruned by tools/prune.py.) -/
import Derived.Test.YtlllhpnpgcphcaaQChainTxsChh
import Derived.Test.YtlllhpnpgcphcaaQChainTxsActO
import Derived.Test.YtlllhpnpgcphcaaQChainTxsPXx16
set_option linter.unusedVariables false
set_option linter.unusedSimpArgs false
namespace Go.Np.Try
open Go.RowKit Go.Proofs Go.Proofs.Ytlllhpnpgcphcaa.PX Go.Proofs.YtlllhpnpgcphcaaW.PrintWords
theorem chk_l (L : List Int) (hL : L.length ≤ 1000000) : ∀ (m j : Nat), j + m = L.length → ∃ r, neaptideref10_Check.l0 (m + 1) L (L.length : Int) (j : Int) = some r
  | 0, j, hj => by
    simp only [neaptideref10_Check.l0]
    rw [if_neg (by omega)]
    exact ⟨_, rfl⟩
  | m + 1, j, hj => by
    have hlt : j < L.length := by omega
    obtain ⟨r, hr⟩ := chk_l L hL m (j + 1) (by omega)
    rw [neaptideref10_Check.l0]
    rw [if_pos (by omega), if_pos (by omega), if_pos (by omega), wr_step j (by omega), hr]
    split
    · exact ⟨_, rfl⟩
    · split
      · exact ⟨_, rfl⟩
      · exact ⟨_, rfl⟩
theorem chk_ev (L : List Int) : ∃ r, neaptideref10_Check.f (L.length + 1) L = some r ∧ (r = 0 → L.length ≤ 200) := by
  unfold neaptideref10_Check.f
  by_cases h : (L.length : Int) > 200
  · rw [if_pos h]
    exact ⟨101, rfl, fun h => by cases h⟩
  · rw [if_neg h]
    obtain ⟨r, hr⟩ := chk_l L (by omega) L.length 0 (by omega)
    exact ⟨r, hr, fun _ => by omega⟩
theorem ints_F {w : World} {A : Option Addr} {n : Nat} {l : List Int} (h : (Kd.int .i64).C w A n l) : Kd.F (Kd.int .i64) w (fun k => k < w.heap.size) A n l := by
  intro W' hW
  refine ⟨h.1, h.2.1, fun hp => ?_⟩
  obtain ⟨ad, rfl, hj⟩ := h.2.2 hp
  refine ⟨ad, rfl, fun j p hjp => ?_⟩
  obtain ⟨cs, h1, h2, h3⟩ := hj j p hjp
  refine ⟨cs, h1, h2, fun i u hu => ?_⟩
  have h4 := h3 i u hu
  have hlt : (ad.add (j * (Kd.int .i64).sz + i)).block < w.heap.size := by
    rcases Nat.lt_or_ge (ad.add (j * (Kd.int .i64).sz + i)).block w.heap.size with h5 | h5
    · exact h5
    · simp [World.cell?, Array.getElem?_eq_none h5] at h4
  exact (World.cell?_of_block (w := w) (hW _ hlt hlt)).trans h4
section
variable {ops : Array Oper} {rest : List Oper} {o : Oper} {a : Act} {Q : Exit → Act → World → Prop}
theorem wp_copyI {w : World} (hgd : o.guard = none) (s x : Operand)
    (ho : o.op = .call { callee := .builtin .append, args := #[s, x], argTypes := #[39, 39] })
    {l : List Int} {A : Option Addr} {c : Nat} (hs : a.eval s = .slice (some ⟨w.heap.size, 0, none⟩) 0 0) (hx : a.eval x = .slice A l.length c) (HR : (Kd.int .i64).C w A l.length l) (hl : l.length ≤ 1000)
    (h : ∀ A1 c1 w1, l.length ≤ c1 → (Kd.int .i64).C w1 A1 l.length l → Fr [] w w1 → wpList Try.prog ops Q rest (a.put o.dst (.slice A1 l.length c1)) w1) :
    wpList Try.prog ops Q (o :: rest) a (w.alloc (.cells #[] 3)) := by
  have hA : Fr [] w (w.alloc (.cells #[] 3)) := (Fr.refl _ _).alloc _
  have hs1 : (w.alloc (.cells #[] 3)).heap.size = w.heap.size + 1 := by simp
  have HN : Kd.N (Kd.int .i64) 3 (w.alloc (.cells #[] 3)) 0 (fun _ => True) (.slice (some ⟨w.heap.size, 0, none⟩) 0 0) [] :=
    Kd.R_N ⟨fun k hk => trivial, [], ⟨rfl, .inr ⟨w.heap.size, 0, #[], rfl, Nat.zero_le _, heap_alloc_new _ _, Nat.le_refl _, Nat.zero_le _, by simp, by simp⟩⟩, Reps.none _ _⟩
  refine Kd.N_append_rows (Kd.int .i64) (w0 := w.alloc (.cells #[] 3)) 0 hgd s x 39 3 _ 8 ho Try.underlying39 infoI rfl (by decide) (by omega) _ [] l A l.length c (fun _ => True) (fun k => k < w.heap.size) hs hx HN (Kd.F_below (ints_F HR) hA.below)
    (fun k hk => ⟨trivial, fun he => by have h2 : k = w.heap.size := (by simpa [Value.ownBlock] using he); omega⟩) (fun _ _ => trivial) (Below.refl _ _) (Nat.zero_le _) (by simp; omega) ?_
  intro v1 w1 h1 _ h3 h4
  rw [List.nil_append] at h1
  obtain ⟨A1, c1, rfl⟩ := Kd.N_slice h1
  obtain ⟨_, h5, h6⟩ := Kd.N_reads' h1
  exact h A1 c1 w1 h5 h6 (hA.trans (Fr.grown (S := [w.heap.size]) h3 (fun k hk => .inl (by simp [Value.ownBlock] at hk; simp [hk]))) (fun k hk => .inr (by simp at hk; omega)))
end
theorem act_cells {w : World} {A : Option Addr} {l : List Ac} (h : ∀ (j : Nat) (a : Ac), l[j]? = some a → a.Fine w ∧ a.blk.f4.length ≤ 8796093022208 ∧ ∃ ad, A = some ad ∧ ∀ (i : Nat) (u : Value), a.cells[i]? = some u → w.cell? (ad.add (j * 8 + i)) = some u) (j : Nat) (a : Ac) (ha : l[j]? = some a) {W : World} (hF : Fr [] w W) :
    a.Fine W ∧ a.blk.f4.length ≤ 8796093022208 ∧ ∃ ad, A = some ad ∧ W.cell? (ad.add (j * 8)) = some (.int .i64 a.kind) ∧ W.cell? ⟨(ad.add (j * 8)).block, (ad.add (j * 8)).off + 1, none⟩ = some (.int .i64 a.n) ∧ W.cell? ⟨(ad.add (j * 8)).block, (ad.add (j * 8)).off + 2, none⟩ = some (.int .i64 a.blk.f0) ∧ W.cell? ⟨(ad.add (j * 8)).block, (ad.add (j * 8)).off + 3, none⟩ = some (.int .i64 a.blk.f1) ∧
      W.cell? ⟨(ad.add (j * 8)).block, (ad.add (j * 8)).off + 4, none⟩ = some (.int .i64 a.blk.f2) ∧ W.cell? ⟨(ad.add (j * 8)).block, (ad.add (j * 8)).off + 5, none⟩ = some (.int .i64 a.blk.f3) ∧ W.cell? ⟨(ad.add (j * 8)).block, (ad.add (j * 8)).off + 6, none⟩ = some (.slice a.A4 a.blk.f4.length a.c4) ∧ W.cell? ⟨(ad.add (j * 8)).block, (ad.add (j * 8)).off + 7, none⟩ = some (.slice a.At a.txs.length a.ct) := by
  obtain ⟨hf, hl, ad, hA, hc⟩ := h j a ha
  have hcell : ∀ (i : Nat) (u : Value), a.cells[i]? = some u → W.cell? (ad.add (j * 8 + i)) = some u := fun i u hu => cellF hF (hc i u hu)
  refine ⟨⟨hf.l4, Kd.C_below hf.C4 hF.below, hf.lt, Kd.C_below hf.Ct hF.below, hf.rg⟩, hl, ad, hA, hcell 0 _ rfl, ?_, ?_, ?_, ?_, ?_, ?_, ?_⟩
  · have := hcell 1 _ rfl; rwa [add_field _ _ 1 (by omega)] at this
  · have := hcell 2 _ rfl; rwa [add_field _ _ 2 (by omega)] at this
  · have := hcell 3 _ rfl; rwa [add_field _ _ 3 (by omega)] at this
  · have := hcell 4 _ rfl; rwa [add_field _ _ 4 (by omega)] at this
  · have := hcell 5 _ rfl; rwa [add_field _ _ 5 (by omega)] at this
  · have := hcell 6 _ rfl; rwa [add_field _ _ 6 (by omega)] at this
  · have := hcell 7 _ rfl; rwa [add_field _ _ 7 (by omega)] at this
end Go.Np.Try

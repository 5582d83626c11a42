/- What ChainRuns needs. -/
import Derived.Test.YtlllhpnpgcphcaaGreatQChainRunsLedq
set_option linter.unusedVariables false
set_option linter.unusedSimpArgs false
namespace Go.Np.Tryz
open Go.RowKit Go.Proofs Go.Proofs.YtlllhpnpgcphcaaGreat.PX Go.Proofs.YtlllhpnpgcphcaaGreatW.PrintWords
theorem Ch.take_keep (C : Ch) (b : Blk) : (C.take b).1.dr = C.dr ∧ (C.take b).1.deep = C.deep ∧ (C.take b).1.slot = C.slot := by
  unfold Ch.take
  split <;> exact ⟨rfl, rfl, rfl⟩
theorem Ch.take_rng {C : Ch} (h : C.t.Rng) {b : Blk} (hb : rng b) : (C.take b).1.t.Rng := by
  unfold Ch.take
  split
  · exact Tr.add_rng h hb
  · exact h
structure GCW (w W : World) (c g5 : Nat) (C : Ch) (t : Tr) (v0 v1 vd : Value) (deep slot : Int) (X Y : Nat → Prop) : Prop where
  ch : ChAt X W c C
  box : RChIn W g5 v0 v1 vd deep slot
  ks : VB W Y v0 t.ks
  wait : VB W Y v1 t.wait
  y : ∀ k, Y k → X k ∧ k ≠ g5
  x : ∀ k, X k → k < W.heap.size
  old : ∀ k, k < w.heap.size → Y k
  g : X g5
  fr : Fr [] w W
theorem RChIn.frX {X : Nat → Prop} {W W' : World} {g : Nat} {v0 v1 vd : Value} {deep slot : Int} (h : RChIn W g v0 v1 vd deep slot) (hF : FrX X W W') (hx : X g) : RChIn W' g v0 v1 vd deep slot := (hF.block h.lt hx).trans h
theorem RChIn.conj {W : World} {g : Nat} {v0 v1 vd : Value} {deep slot : Int} (h : RChIn W g v0 v1 vd deep slot) : W.cell? ⟨g, 0, none⟩ = some v0 ∧ W.cell? ⟨g, 1, none⟩ = some v1 ∧ W.cell? ⟨g, 2, none⟩ = some vd ∧ W.cell? ⟨g, 3, none⟩ = some (.int .i64 deep) ∧ W.cell? ⟨g, 4, none⟩ = some (.int .i64 slot) := by
  obtain ⟨a0, a1, a2, a3, a4, _⟩ := fvc h
  exact ⟨a0, a1, a2, a3, a4⟩
section
variable {w W W' : World} {c g5 : Nat} {C C' : Ch} {t : Tr} {v0 v1 vd : Value} {deep slot : Int} {X Y : Nat → Prop}
theorem GCW.mv (h : GCW w W c g5 C t v0 v1 vd deep slot X Y) (hF : Fr [] W W') : GCW w W' c g5 C t v0 v1 vd deep slot (fun k => X k ∨ (W.heap.size ≤ k ∧ k < W'.heap.size)) Y :=
  ⟨h.ch.later hF (by simp), h.box.fr hF, h.ks.fr hF, h.wait.fr hF, fun k hk => ⟨.inl (h.y k hk).1, (h.y k hk).2⟩, fun k hk => by
    have h1 := hF.size
    rcases hk with hk | hk
    · exact Nat.lt_of_lt_of_le (h.x k hk) h1
    · exact hk.2, h.old, .inl h.g, h.fr.trans hF (by simp)⟩
theorem GCW.taken (h : GCW w W c g5 C t v0 v1 vd deep slot X Y) (hT : ChAt X W' c C') (hF : FrX X W W') : GCW w W' c g5 C' t v0 v1 vd deep slot X Y :=
  ⟨hT, h.box.frX hF h.g, h.ks.frX hF (fun k hk _ => (h.y k hk).1), h.wait.frX hF (fun k hk _ => (h.y k hk).1), h.y, fun k hk => Nat.lt_of_lt_of_le (h.x k hk) hF.size, h.old, h.g, hF.keep (fun k hk => (h.y k (h.old k hk)).1) h.fr⟩
theorem GCW.doc (h : GCW w W c g5 C t v0 v1 vd deep slot X Y) {t' : Tr} {u0 u1 : Value} {dp' sl' : Int} (hF : Fr [] W W') (hk : VB W' (fun k => Y k ∨ W.heap.size ≤ k) u0 t'.ks) (hw : VB W' (fun k => Y k ∨ W.heap.size ≤ k) u1 t'.wait) :
    GCW w (put5 W' g5 u0 u1 vd (.int .i64 dp') (.int .i64 sl')) c g5 C t' u0 u1 vd dp' sl' (fun k => X k ∨ (W.heap.size ≤ k ∧ k < W'.heap.size)) (fun k => (Y k ∨ W.heap.size ≤ k) ∧ k < W'.heap.size) := by
  have h2 := h.mv hF
  have hg := h.x g5 h.g
  have hs := hF.size
  have hgw : w.heap.size ≤ g5 := Nat.le_of_not_lt (fun hl => (h.y g5 (h.old g5 hl)).2 rfl)
  have hF3 : Fr [g5] W' (put5 W' g5 u0 u1 vd (.int .i64 dp') (.int .i64 sl')) := put5_fr (Fr.refl _ _) (.inl (by simp)) _ _ _ _ _
  have hne : ∀ k, ((Y k ∨ W.heap.size ≤ k) ∧ k < W'.heap.size) → k ≠ g5 := fun k hk => by
    rcases hk.1 with h1 | h1
    · exact (h.y k h1).2
    · omega
  refine ⟨h2.ch.frX hF3 (fun k hk => ?_), put5_heap h2.box _ _ _ _ _, ?_, ?_, fun k hk => ⟨?_, hne k hk⟩, fun k hk => Nat.lt_of_lt_of_le (h2.x k hk) hF3.size, fun k hk => ⟨.inl (h.old k hk), ?_⟩, .inl h.g, h2.fr.trans hF3 (fun k hk => by simp at hk; subst hk; exact .inr hgw)⟩
  · simp at hk; subst hk; exact .inl (.inl h.g)
  · exact Kd.V_step hk.bound (fun k hk hl => hF3.block k hl (by simp; exact hne k hk))
  · exact Kd.V_step hw.bound (fun k hk hl => hF3.block k hl (by simp; exact hne k hk))
  · rcases hk.1 with h1 | h1
    · exact .inl (h.y k h1).1
    · exact .inr ⟨h1, hk.2⟩
  · have := h.fr.size; omega
end
theorem GCW.start {w W1 w1 W2 : World} {c : Nat} {C : Ch} {vd : Value} {deep : Int} (h0 : Fr [] w W1) (h1 : Fr [] W1 w1) (hT : ChAt (fun k => k < W1.heap.size) w1 c C) (hW : W2 = w1.alloc (.cells #[.slice none 0 0, .slice none 0 0, vd, .int .i64 deep, .int .i64 0] 32)) :
    GCW w W2 c w1.heap.size C ⟨[], []⟩ (.slice none 0 0) (.slice none 0 0) vd deep 0 (fun k => k < W1.heap.size ∨ (w1.heap.size ≤ k ∧ k < W2.heap.size)) (fun k => k < w.heap.size) := by
  have hF : Fr [] w1 W2 := by rw [hW]; exact (Fr.refl _ _).alloc _
  have hs0 := h0.size
  have hs1 := h1.size
  have hs2 : W2.heap.size = w1.heap.size + 1 := by rw [hW]; simp
  refine ⟨hT.later hF (by simp), by rw [hW]; exact heap_alloc_new _ _, VB.nil _ _, VB.nil _ _, fun k hk => ⟨.inl (by omega), by omega⟩, fun k hk => by rcases hk with hk | hk <;> omega, fun k hk => hk, .inr ⟨Nat.le_refl _, by omega⟩, (h0.trans h1 (by simp)).trans hF (by simp)⟩
end Go.Np.Tryz

/- A text that the row of LedgerCleans needs. (Pruned by tools/prune.py.) -/
import Derived.Test.YtlllhpnpgcphcaaQLedgerCleansDocA
import Derived.Test.YtlllhpnpgcphcaaQLedgerCleansClone
import Derived.Test.YtlllhpnpgcphcaaQLedgerCleansPXx0
import Derived.Test.YtlllhpnpgcphcaaQLedgerCleansPXx2
import Derived.Test.YtlllhpnpgcphcaaQLedgerCleansPXx3
import Derived.Test.YtlllhpnpgcphcaaQLedgerCleansPXx15
set_option linter.unusedVariables false
set_option linter.unusedSimpArgs false
namespace Go.Np.Try
open Go.RowKit Go.Proofs Go.Proofs.Ytlllhpnpgcphcaa.PX Go.Proofs.YtlllhpnpgcphcaaW.PrintWords
structure Ch where
  t : Tr
  dr : List Int
  deep : Int
  slot : Int
def bitW (d m : Int) : Bool := (Go.bits .and .i64 (shr .i64 d m) 1) == 1
def winsB (dr : List Int) (s m : Int) : Bool := decide (1 ≤ s) && decide (s ≤ (dr.length : Int)) && decide (0 ≤ m) && decide (m < 7) && bitW (rd dr (s - 1)) m
theorem wins_ev (dr : List Int) (hd : dr.length ≤ 9223372036854775807) (s m : Int) : lot_Wins.f dr s m = some (winsB dr s m) := by
  unfold lot_Wins.f winsB
  by_cases h1 : s ≥ 1
  · rw [if_pos h1]
    by_cases h2 : s ≤ (dr.length : Int)
    · rw [if_pos h2]
      by_cases h3 : m ≥ 0
      · rw [if_pos h3]
        by_cases h4 : m < 7
        · have e : wrap64 (s - 1) = s - 1 := wr_in _ (by omega)
          rw [if_pos h4, e, if_pos (by omega), if_pos (by omega), if_pos h3]
          have g1 : 1 ≤ s := h1
          have g3 : 0 ≤ m := h3
          simp [g1, h2, g3, h4, bitW]
        · rw [if_neg h4]; simp [h4]
      · rw [if_neg h3]
        have g3 : ¬ 0 ≤ m := h3
        simp [g3]
    · rw [if_neg h2]; simp [h2]
  · rw [if_neg h1]
    have g1 : ¬ 1 ≤ s := h1
    simp [g1]
def Ch.take (C : Ch) (b : Blk) : Ch × List Int × Int :=
  if rightB b = true ∧ b.f0 ≤ C.slot ∧ winsB C.dr b.f0 b.f1 = true then
    (⟨(C.t.add b).1, C.dr, C.deep, C.slot⟩, (C.t.add b).2.1, if (C.t.add b).2.2 = true then 0 else 111)
  else (C, [], 111)
def Ch.txs (C : Ch) (n : Int) : List Int := (C.t.path n).flatMap fun m => (C.t.get m).f4.map (·.f0)
def Ch.conf (C : Ch) : Int := C.t.back C.t.tip C.deep
def Ch.next (C : Ch) (s : Int) : Ch := ⟨C.t, C.dr, C.deep, max C.slot s⟩
theorem Tr.add_no {t : Tr} {b : Blk} (h : (t.add b).2.2 = false) : t.add b = (t, [], false) := by
  unfold Tr.add at h ⊢
  split
  · rfl
  · rename_i h1
    rw [if_neg h1] at h
    split
    · rename_i h2
      rw [if_pos h2] at h; cases h
    · rename_i h2
      rw [if_neg h2] at h
      split
      · rfl
      · rename_i h3
        rw [if_neg h3] at h
        cases h
abbrev VI (W : World) (P : Nat → Prop) (v : Value) (l : List Int) : Prop := Kd.V (Kd.int .i64) 3 W 0 P v l
structure ChIn (X : Nat → Prop) (w : World) (c : Nat) (C : Ch) (p : Nat) (v : Value) (D : Nat → Prop) : Prop where
  box : w.heap[c]? = some (.cells #[.pointer (some ⟨p, 0, none⟩), v, .int .i64 C.deep, .int .i64 C.slot] 114 (0, 0))
  tr : TrAt (fun k => (X k ∨ k = c) ∨ D k) w p C.t
  dr : VI w D v C.dr
  d : ∀ k, D k → ¬ X k ∧ k ≠ c ∧ k < w.heap.size
  c : ¬ X c
def ChAt (X : Nat → Prop) (w : World) (c : Nat) (C : Ch) : Prop := ∃ p v D, ChIn X w c C p v D
section
variable {X : Nat → Prop} {w w' : World} {c : Nat} {C : Ch} {p : Nat} {v : Value} {D : Nat → Prop}
theorem ChIn.lt (h : ChIn X w c C p v D) : c < w.heap.size := (Array.getElem?_eq_some_iff.1 h.box).1
theorem ChIn.frX {S : List Nat} (h : ChIn X w c C p v D) (hf : Fr S w w') (hS : ∀ k ∈ S, X k ∨ w.heap.size ≤ k) : ChIn X w' c C p v D := by
  have hc : c ∉ S := fun hm => (hS c hm).elim h.c (fun hl => absurd h.lt (by omega))
  refine ⟨(hf.block c h.lt hc).trans h.box, h.tr.frX hf (fun k hk => (hS k hk).imp (fun hx => .inl (.inl hx)) id), Kd.V_step h.dr (fun k hk hl => hf.block k hl (fun hm => (hS k hm).elim (h.d k hk).1 (fun h2 => by omega))), fun k hk => ⟨(h.d k hk).1, (h.d k hk).2.1, Nat.lt_of_lt_of_le (h.d k hk).2.2 hf.size⟩, h.c⟩
theorem ChIn.fr (h : ChIn X w c C p v D) (hf : Fr [] w w') : ChIn X w' c C p v D := h.frX hf (by simp)
theorem ChIn.grow {X' : Nat → Prop} (h : ChIn X w c C p v D) (hX : ∀ k, X' k → k < w.heap.size → X k) : ChIn (fun k => X' k ∧ k < w.heap.size) w c C p v D :=
  ⟨h.box, h.tr.grow (fun k hk hl => by
    rcases hk with (hk | hk) | hk
    · exact .inl (.inl (hX k hk.1 hl))
    · exact .inl (.inr hk)
    · exact .inr hk), h.dr, fun k hk => ⟨fun hx => (h.d k hk).1 (hX k hx.1 hx.2), (h.d k hk).2⟩, fun hx => h.c (hX c hx.1 hx.2)⟩
theorem ChIn.later {S : List Nat} (h : ChIn X w c C p v D) (hf : Fr S w w') (hS : ∀ k ∈ S, X k ∨ w.heap.size ≤ k) : ChIn (fun k => X k ∨ (w.heap.size ≤ k ∧ k < w'.heap.size)) w' c C p v D := by
  have h1 := h.frX hf hS
  have hl := h.lt
  refine ⟨h1.box, (h.tr.later hf (fun k hk => (hS k hk).imp (fun hx => .inl (.inl hx)) id)).grow (fun k hk _ => ?_), h1.dr, fun k hk => ⟨fun hx => ?_, (h1.d k hk).2⟩, fun hx => ?_⟩
  · rcases hk with ((hk | hk) | hk) | hk
    · exact .inl (.inl (.inl hk))
    · exact .inr hk
    · exact .inl (.inl (.inr hk))
    · exact .inl (.inr hk)
  · rcases hx with hx | hx
    · exact (h.d k hk).1 hx
    · have := (h.d k hk).2.2; omega
  · rcases hx with hx | hx
    · exact h.c hx
    · omega
theorem ChAt.fr (h : ChAt X w c C) (hf : Fr [] w w') : ChAt X w' c C := by
  obtain ⟨p, v, D, h⟩ := h
  exact ⟨p, v, D, h.fr hf⟩
theorem ChAt.frX {S : List Nat} (h : ChAt X w c C) (hf : Fr S w w') (hS : ∀ k ∈ S, X k ∨ w.heap.size ≤ k) : ChAt X w' c C := by
  obtain ⟨p, v, D, h⟩ := h
  exact ⟨p, v, D, h.frX hf hS⟩
theorem ChAt.grow {X' : Nat → Prop} (h : ChAt X w c C) (hX : ∀ k, X' k → k < w.heap.size → X k) : ChAt (fun k => X' k ∧ k < w.heap.size) w c C := by
  obtain ⟨p, v, D, h⟩ := h
  exact ⟨p, v, D, h.grow hX⟩
theorem ChAt.later {S : List Nat} (h : ChAt X w c C) (hf : Fr S w w') (hS : ∀ k ∈ S, X k ∨ w.heap.size ≤ k) : ChAt (fun k => X k ∨ (w.heap.size ≤ k ∧ k < w'.heap.size)) w' c C := by
  obtain ⟨p, v, D, h⟩ := h
  exact ⟨p, v, D, h.later hf hS⟩
theorem ChAt.less {X' : Nat → Prop} (h : ChAt X w c C) (hX : ∀ k, X' k → X k) : ChAt X' w c C := by
  obtain ⟨p, v, D, h⟩ := h
  refine ⟨p, v, D, h.box, h.tr.grow (fun k hk _ => ?_), h.dr, fun k hk => ⟨fun hx => (h.d k hk).1 (hX k hx), (h.d k hk).2⟩, fun hx => h.c (hX c hx)⟩
  rcases hk with (hk | hk) | hk
  · exact .inl (.inl (hX k hk))
  · exact .inl (.inr hk)
  · exact .inr hk
theorem ChIn.cells (h : ChIn X w c C p v D) : w.cell? ⟨c, 0, none⟩ = some (.pointer (some ⟨p, 0, none⟩)) ∧ w.cell? ⟨c, 1, none⟩ = some v ∧ w.cell? ⟨c, 2, none⟩ = some (.int .i64 C.deep) ∧ w.cell? ⟨c, 3, none⟩ = some (.int .i64 C.slot) ∧ w.frozen? ⟨c, 3, none⟩ = false := by
  have e0 := cell_of h.box 0
  have e1 := cell_of h.box 1
  have e2 := cell_of h.box 2
  have e3 := cell_of h.box 3
  simp at e0 e1 e2 e3
  exact ⟨e0, e1, e2, e3, froz_of h.box 3⟩
theorem ChIn.tree (h : ChIn X w c C p v D) {t' : Tr} (hT : TrAt (fun k => (X k ∨ k = c) ∨ D k) w' p t') (hF : FrX (fun k => (X k ∨ k = c) ∨ D k) w w') : ChIn X w' c ⟨t', C.dr, C.deep, C.slot⟩ p v D :=
  ⟨(hF.block h.lt (.inl (.inr rfl))).trans h.box, hT, Kd.V_step h.dr (fun k hk hl => hF.block hl (.inr hk)), fun k hk => ⟨(h.d k hk).1, (h.d k hk).2.1, Nat.lt_of_lt_of_le (h.d k hk).2.2 hF.size⟩, h.c⟩
theorem ChIn.set (h : ChIn X w c C p v D) (s : Int) : ChIn X (w.setCell ⟨c, 3, none⟩ (.int .i64 s)) c ⟨C.t, C.dr, C.deep, s⟩ p v D := by
  have hF : Fr [c] w (w.setCell ⟨c, 3, none⟩ (.int .i64 s)) := (Fr.refl _ _).setCell (.inl (by simp)) _
  refine ⟨by simpa using obj_set h.box 3 (.int .i64 s), h.tr.frX hF (fun k hk => .inl (.inl (.inr (by simpa using hk)))), Kd.V_step h.dr (fun k hk hl => hF.block k hl (fun hm => (h.d k hk).2.1 (by simpa using hm))), fun k hk => ⟨(h.d k hk).1, (h.d k hk).2.1, Nat.lt_of_lt_of_le (h.d k hk).2.2 hF.size⟩, h.c⟩
end
end Go.Np.Try

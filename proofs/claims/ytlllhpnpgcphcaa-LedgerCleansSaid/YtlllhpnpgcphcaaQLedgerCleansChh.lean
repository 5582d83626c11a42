/- A text that the row of LedgerCleans needs. (Pruned by tools/prune.py.) -/
import Derived.Test.YtlllhpnpgcphcaaQLedgerCleansChf
set_option linter.unusedVariables false
set_option linter.unusedSimpArgs false
namespace Go.Np.Try
open Go.RowKit Go.Proofs Go.Proofs.Ytlllhpnpgcphcaa.PX Go.Proofs.YtlllhpnpgcphcaaW.PrintWords
theorem ch_takeC {X : Nat → Prop} {w : World} {c : Nat} {C C' : Ch} {L : List Int} {E : Int} (h : ChAt X w c C) (hG : C.t.Good) (hXw : ∀ k, X k → k < w.heap.size) (b : Blk) {A : Option Addr} {cb : Nat} (hC : k52.C w A b.f4.length b.f4) (hc : b.f4.length ≤ cb) (ht : C.take b = (C', L, E)) :
    Calls Try.prog 42 #[.pointer (some ⟨c, 0, none⟩), .agg #[.int .i64 b.f0, .int .i64 b.f1, .int .i64 b.f2, .int .i64 b.f3, .slice A b.f4.length cb]] w fun e w' =>
      ∃ D d, e = .returned (.tuple #[.slice D L.length d, .int .i64 E]) ∧ OwnI w.heap.size w' (.slice D L.length d) L ∧ ChAt X w' c C' ∧ FrX X w w' := by
  refine (ch_take h hG hXw ⟨b, A, cb⟩ hC hc).mono ?_
  rintro e w' h
  unfold ChTake at h
  rw [ht] at h
  obtain ⟨v, rfl, hO, hT, hF⟩ := h
  obtain ⟨A, c, rfl⟩ := hO.formN rfl
  exact ⟨A, c, rfl, hO, hT, hF⟩
theorem txs_made (w : World) (l : List S52) (hl : l.length ≤ 1000) : k52.C (w.alloc (.cells (flatT l).toArray 52)) (some ⟨w.heap.size, 0, none⟩) l.length l := by
  have h : (w.alloc (.cells (flatT l).toArray 52)).ownsRow 0 52 2 (.slice (some ⟨w.heap.size, 0, none⟩) l.length l.length) l.length (flatT l) := by
    refine ⟨flatT_len l, .inr ⟨w.heap.size, l.length, (flatT l).toArray, rfl, Nat.zero_le _, heap_alloc_new w _, Nat.le_refl _, by unfold maxLen; omega, by simp [flatT_len], ?_⟩⟩
    rw [← flatT_len l]; simp
  obtain ⟨A, c, e, _, h2⟩ := flatT_C h
  injection e with e1 _ _
  rw [e1]; exact h2
end Go.Np.Try

/- A text that the row of LedgerCleans needs. (Pruned by tools/prune.py.) -/
import Derived.Test.YtlllhpnpgcphcaaQLedgerCleansTrC
import Derived.Test.YtlllhpnpgcphcaaQLedgerCleansPXx0
import Derived.Test.YtlllhpnpgcphcaaQLedgerCleansPXx2
import Derived.Test.YtlllhpnpgcphcaaQLedgerCleansPXx3
import Derived.Test.YtlllhpnpgcphcaaQLedgerCleansPXx15
import Derived.Deep.SlicePairs
import Derived.SizedLaws
set_option linter.unusedVariables false
set_option linter.unusedSimpArgs false
set_option linter.unusedVariables false
set_option linter.unusedSimpArgs false
set_option linter.unusedVariables false
set_option linter.unusedSimpArgs false
namespace Go.Np.Try
open Go.RowKit Go.Proofs Go.Proofs.Ytlllhpnpgcphcaa.PX Go.Proofs.YtlllhpnpgcphcaaW.PrintWords
def BlkIn (W : World) (g : Nat) (q : BV) : Prop := W.heap[g]? = some (.cells #[.int .i64 q.b.f0, .int .i64 q.b.f1, .int .i64 q.b.f2, .int .i64 q.b.f3, .slice q.A q.b.f4.length q.c] 32 (0, 0))
theorem BlkIn.cells {W : World} {g : Nat} {q : BV} (h : BlkIn W g q) : W.cell? ⟨g, 0, none⟩ = some (.int .i64 q.b.f0) ∧ W.cell? ⟨g, 1, none⟩ = some (.int .i64 q.b.f1) ∧ W.cell? ⟨g, 2, none⟩ = some (.int .i64 q.b.f2) ∧ W.cell? ⟨g, 3, none⟩ = some (.int .i64 q.b.f3) ∧ W.cell? ⟨g, 4, none⟩ = some (.slice q.A q.b.f4.length q.c) := by
  have e0 := cell_of h 0
  have e1 := cell_of h 1
  have e2 := cell_of h 2
  have e3 := cell_of h 3
  have e4 := cell_of h 4
  simp at e0 e1 e2 e3 e4
  exact ⟨e0, e1, e2, e3, e4⟩
theorem BlkIn.fr {W W' : World} {g : Nat} {q : BV} (h : BlkIn W g q) (hF : Fr [] W W') : BlkIn W' g q := (hF.block g (Array.getElem?_eq_some_iff.1 h).1 (by simp)).trans h
theorem BlkIn.frX {X : Nat → Prop} {W W' : World} {g : Nat} {q : BV} (h : BlkIn W g q) (hF : FrX X W W') (hx : X g) : BlkIn W' g q := (hF.block (Array.getElem?_eq_some_iff.1 h).1 hx).trans h
theorem BlkIn.made {w W : World} {q : BV} (hW : W = w.alloc (.cells #[.int .i64 q.b.f0, .int .i64 q.b.f1, .int .i64 q.b.f2, .int .i64 q.b.f3, .slice q.A q.b.f4.length q.c] 32)) : BlkIn W w.heap.size q := by rw [hW]; exact heap_alloc_new _ _
end Go.Np.Try
set_option linter.unusedVariables false
set_option linter.unusedSimpArgs false
set_option linter.unusedVariables false
set_option linter.unusedSimpArgs false
set_option linter.unusedVariables false
set_option linter.unusedSimpArgs false
set_option linter.unusedVariables false
set_option linter.unusedSimpArgs false
set_option linter.unusedVariables false
set_option linter.unusedSimpArgs false
namespace Go.Np.Try
open Go.RowKit Go.Proofs Go.Proofs.Ytlllhpnpgcphcaa.PX Go.Proofs.YtlllhpnpgcphcaaW.PrintWords
theorem SlI.nil (w : World) : SlI w (.slice none 0 0) [] := ⟨none, 0, rfl, Nat.le_refl _, ⟨rfl, Nat.zero_le _, fun h => absurd h (Nat.lt_irrefl 0)⟩⟩
end Go.Np.Try

/- What ChainRuns needs. -/
import Derived.Test.YtlllhpnpgcphcaaGreatQChainRunsLedq
set_option linter.unusedVariables false
set_option linter.unusedSimpArgs false
namespace Go.Np.Tryz
open Go.RowKit Go.Proofs Go.Proofs.YtlllhpnpgcphcaaGreat.PX Go.Proofs.YtlllhpnpgcphcaaGreatW.PrintWords
def ActIn (W : World) (g : Nat) (a : Ac) : Prop := W.heap[g]? = some (.cells #[.int .i64 a.kind, .int .i64 a.n, .int .i64 a.blk.f0, .int .i64 a.blk.f1, .int .i64 a.blk.f2, .int .i64 a.blk.f3, .slice a.A4 a.blk.f4.length a.c4, .slice a.At a.txs.length a.ct] 37 (0, 0))
theorem ActIn.cells {W : World} {g : Nat} {a : Ac} (h : ActIn W g a) : W.cell? ⟨g, 0, none⟩ = some (.int .i64 a.kind) ∧ W.cell? ⟨g, 1, none⟩ = some (.int .i64 a.n) ∧ W.cell? ⟨g, 2, none⟩ = some (.int .i64 a.blk.f0) ∧ W.cell? ⟨g, 3, none⟩ = some (.int .i64 a.blk.f1) ∧ W.cell? ⟨g, 4, none⟩ = some (.int .i64 a.blk.f2) ∧ W.cell? ⟨g, 5, none⟩ = some (.int .i64 a.blk.f3) ∧ W.cell? ⟨g, 6, none⟩ = some (.slice a.A4 a.blk.f4.length a.c4) := by
  have e0 := cell_of h 0
  have e1 := cell_of h 1
  have e2 := cell_of h 2
  have e3 := cell_of h 3
  have e4 := cell_of h 4
  have e5 := cell_of h 5
  have e6 := cell_of h 6
  simp at e0 e1 e2 e3 e4 e5 e6
  exact ⟨e0, e1, e2, e3, e4, e5, e6⟩
theorem ActIn.fr {W W' : World} {g : Nat} {a : Ac} (h : ActIn W g a) (hF : Fr [] W W') : ActIn W' g a := (hF.block g (Array.getElem?_eq_some_iff.1 h).1 (by simp)).trans h
theorem ActIn.frX {X : Nat → Prop} {W W' : World} {g : Nat} {a : Ac} (h : ActIn W g a) (hF : FrX X W W') (hx : X g) : ActIn W' g a := (hF.block (Array.getElem?_eq_some_iff.1 h).1 hx).trans h
end Go.Np.Tryz

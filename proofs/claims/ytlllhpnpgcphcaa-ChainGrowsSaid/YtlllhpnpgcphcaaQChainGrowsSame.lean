/- A text that the row of ChainGrows needs. (Pruned by tools/prune.py.) -/
import Derived.Test.YtlllhpnpgcphcaaProg
import Derived.Test.YtlllhpnpgcphcaaQChainGrowsNpD
import Derived.Test.YtlllhpnpgcphcaaQChainGrowsWWords
import Derived.Deep.QuietTactic
import Derived.BigQuiet
import Derived.KernelRfl
set_option linter.unusedVariables false
set_option linter.unusedSimpArgs false
namespace Go.Np
open Go.RowKit Go.Proofs.YtlllhpnpgcphcaaW.PrintWords
theorem int_at {w : World} {q : IntKind} {A : Option Addr} {xs : List Int} (h : (Kd.int q).C w A xs.length xs) (k : Nat) (hk : k < xs.length) : ∃ ad, A = some ad ∧ w.cell? (ad.add k) = some (.int q (xs.getD k 0)) := by
  obtain ⟨ad, e, hc⟩ := Kd.at_int h (k : Int) (by omega) (by omega)
  exact ⟨ad, e, by simpa [rd] using hc⟩
end Go.Np

/- A text that the row of LedgerCleans needs. (Pruned by tools/prune.py.) -/
import Derived.Test.YtlllhpnpgcphcaaQLedgerCleansChe
import Derived.Test.YtlllhpnpgcphcaaQLedgerCleansDocA
import Derived.Test.YtlllhpnpgcphcaaProg
import Derived.KernelRfl
import Derived.OpenShut
import Derived.WideKeyArr2
set_option linter.unusedVariables false
set_option linter.unusedSimpArgs false
namespace Go.Np.Try
open Go.RowKit Go.Proofs Go.Proofs.Ytlllhpnpgcphcaa.PX Go.Proofs.YtlllhpnpgcphcaaW.PrintWords
def pickT (old : List Int) (acc : List S52) (t : S52) : List S52 := if acc.length < 3 ∧ t.f0 ∉ old then acc ++ [t] else acc
def Ch.blk (C : Ch) (me : Int) (txs : List S52) : Blk := ⟨C.slot, me, 0, C.t.tip, txs.foldl (pickT (C.txs C.t.tip)) []⟩
end Go.Np.Try

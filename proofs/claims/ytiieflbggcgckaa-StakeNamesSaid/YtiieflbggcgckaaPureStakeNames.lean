/- StakeNames is true: the error and the limits have their numbers; no condition. -/
import Derived.Test.YtiieflbggcgckaaStEv
namespace Go.Proofs.Ytiieflbggcgckaa.Pure
open Go.RowKit Go.Proofs.Ytiieflbggcgckaa.PX Go.Proofs.YtiieflbggcgckaaW.PrintWords Go.Np
theorem StakeNames : neaptidelaw03_StakeNames.Pure := ⟨12, by decide +kernel⟩
end Go.Proofs.Ytiieflbggcgckaa.Pure

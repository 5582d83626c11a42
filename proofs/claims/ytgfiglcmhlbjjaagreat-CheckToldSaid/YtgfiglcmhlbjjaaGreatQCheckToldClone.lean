/- What CheckTold needs. -/
import Derived.Test.YtgfiglcmhlbjjaaGreatQCheckToldNpD
import Derived.Test.YtgfiglcmhlbjjaaGreatQCheckToldShelf
import Derived.Test.YtgfiglcmhlbjjaaGreatQCheckToldWWords
import Derived.Test.YtgfiglcmhlbjjaaGreatQCheckToldSame
import Derived.Lib.LaidU8
set_option linter.unusedVariables false
set_option linter.unusedSimpArgs false
namespace Go.Np.Tryz
open Go.RowKit Go.Proofs Go.Proofs.YtgfiglcmhlbjjaaGreatW.PrintWords
theorem addr_add (a : Addr) (n : Nat) (h : a.spot = none) : a.add n = ⟨a.block, a.off + n, none⟩ := by
  obtain ⟨b, o, s⟩ := a
  simp only at h
  subst h
  unfold Addr.add
  by_cases h1 : n = 0 <;> simp [h1]
end Go.Np.Tryz

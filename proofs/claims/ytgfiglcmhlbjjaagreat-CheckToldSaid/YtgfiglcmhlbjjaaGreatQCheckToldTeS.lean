/- What CheckTold needs. -/
import Derived.Test.YtgfiglcmhlbjjaaGreatQCheckToldTaB
namespace Go.Np.Tryz
structure S41 where
  (f0 f1 f2 f3 : Int)
deriving DecidableEq
end Go.Np.Tryz

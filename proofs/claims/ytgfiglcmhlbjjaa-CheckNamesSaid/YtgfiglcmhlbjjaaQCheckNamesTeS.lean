/- What CheckNames needs. -/
import Derived.Test.YtgfiglcmhlbjjaaQCheckNamesTaB
namespace Go.Np.Try
structure S41 where
  (f0 f1 f2 f3 : Int)
deriving DecidableEq
end Go.Np.Try

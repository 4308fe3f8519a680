/-
  Part of a proof: NdF.
-/
import Derived.Test.YtcaigcmbgihhkaaDoorZNdE
import Derived.Test.YtcaigcmbgihhkaaDoorZPpA
namespace Go.Proofs.YtcaigcmbgihhkaaDoor
end Go.Proofs.YtcaigcmbgihhkaaDoor

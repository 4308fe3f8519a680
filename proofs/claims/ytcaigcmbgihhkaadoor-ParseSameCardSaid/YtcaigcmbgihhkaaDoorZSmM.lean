/-
  Part of a proof: SmM.
-/
import Derived.Test.YtcaigcmbgihhkaaDoorZSmK
import Derived.Test.YtcaigcmbgihhkaaDoorZPpA
namespace Go.Proofs.YtcaigcmbgihhkaaDoor
end Go.Proofs.YtcaigcmbgihhkaaDoor

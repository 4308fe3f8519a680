/-
  Part of a proof: PpC.
-/
import Derived.Test.YtcaigcmbgihhkaaDoorZPpB
import Derived.Test.YtcaigcmbgihhkaaDoorZPpA
namespace Go.Proofs.YtcaigcmbgihhkaaDoor
end Go.Proofs.YtcaigcmbgihhkaaDoor

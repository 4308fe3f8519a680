/-
  Part of a proof: SmN.
-/
import Derived.Test.YtcaigcmbgihhkaaDoorZSmL
import Derived.Test.YtcaigcmbgihhkaaDoorZPpA
namespace Go.Proofs.YtcaigcmbgihhkaaDoor
end Go.Proofs.YtcaigcmbgihhkaaDoor

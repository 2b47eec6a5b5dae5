/- The iterator over a plan's parts; sizeOk. -/
import Derived.Test.YtebciagembenjaaDoorGSPd
set_option linter.unusedVariables false
set_option linter.unusedSimpArgs false
/- The iterator over a plan's parts; sizeOk. -/
set_option maxHeartbeats 4000000
namespace Go.Proofs.YtebciagembenjaaDoor
open Go Go.Am
end Go.Proofs.YtebciagembenjaaDoor

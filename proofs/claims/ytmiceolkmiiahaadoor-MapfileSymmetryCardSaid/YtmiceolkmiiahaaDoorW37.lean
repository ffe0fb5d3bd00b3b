/- Walks: the reference's Same, on files that are the same. -/
import Derived.Test.YtmiceolkmiiahaaDoorW36
import Derived.Test.YtmiceolkmiiahaaDoorP6
namespace Go.Proofs.YtmiceolkmiiahaaDoor
open Go.RowKit
set_option linter.unusedVariables false
set_option linter.unusedSimpArgs false
set_option maxRecDepth 100000
set_option maxHeartbeats 8000000

end Go.Proofs.YtmiceolkmiiahaaDoor

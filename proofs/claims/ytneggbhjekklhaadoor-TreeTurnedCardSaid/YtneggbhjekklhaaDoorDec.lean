/- Numbers as texts: the document's below and Decimal. -/
import Derived.Test.YtneggbhjekklhaaDoorStr
namespace Go.Proofs.YtneggbhjekklhaaDoor
open Go Go.RowKit
set_option linter.unusedVariables false
set_option linter.unusedSimpArgs false
set_option maxHeartbeats 1000000
set_option maxRecDepth 100000




end Go.Proofs.YtneggbhjekklhaaDoor

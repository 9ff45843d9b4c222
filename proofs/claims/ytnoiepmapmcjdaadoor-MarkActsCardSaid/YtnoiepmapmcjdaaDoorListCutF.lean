/- Cut of the program: what it answers lies in blocks of its own. -/
import Derived.Test.YtnoiepmapmcjdaaDoorListCut
set_option linter.unusedVariables false
set_option linter.unusedSimpArgs false
namespace Go.Proofs.YtnoiepmapmcjdaaDoor
open Go.RowKit
end Go.Proofs.YtnoiepmapmcjdaaDoor

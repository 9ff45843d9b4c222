/- Put of the reference. -/
import Derived.Test.YtnoiepmapmcjdaaDoorListTake
import Derived.Test.YtnoiepmapmcjdaaDoorListRHas
set_option linter.unusedVariables false
set_option linter.unusedSimpArgs false
namespace Go.Proofs.YtnoiepmapmcjdaaDoor
open Go.RowKit

end Go.Proofs.YtnoiepmapmcjdaaDoor

/- Put of the reference. -/
import Derived.Test.YtgdpagiblflfbaaDoorListTake
import Derived.Test.YtgdpagiblflfbaaDoorListRHas
set_option linter.unusedVariables false
set_option linter.unusedSimpArgs false
namespace Go.Proofs.YtgdpagiblflfbaaDoor
open Go.RowKit

end Go.Proofs.YtgdpagiblflfbaaDoor

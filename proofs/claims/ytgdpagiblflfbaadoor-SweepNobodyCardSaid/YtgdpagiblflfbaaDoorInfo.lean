/- Rows of the program's table of types. -/
import Derived.Test.YtgdpagiblflfbaaDoorChecked
import Derived.Test.YtgdpagiblflfbaaDoorBase
namespace Go.Proofs.YtgdpagiblflfbaaDoor
theorem int_info : (Tryd.prog.info? 3).map (fun i => (i.zero, i.size, i.bytes)) = some (some (.int .i64 0), 1, 8) := by kernel_rfl
end Go.Proofs.YtgdpagiblflfbaaDoor

/- Rows of the program's table of types. -/
import Derived.Test.YtcaboknbdamlhaaGreatDoorChecked
import Derived.Test.YtcaboknbdamlhaaGreatDoorBase
namespace Go.Proofs.YtcaboknbdamlhaaGreatDoor
theorem int_info : (Tryz.prog.info? 3).map (fun i => (i.zero, i.size, i.bytes)) = some (some (.int .i64 0), 1, 8) := by kernel_rfl
end Go.Proofs.YtcaboknbdamlhaaGreatDoor

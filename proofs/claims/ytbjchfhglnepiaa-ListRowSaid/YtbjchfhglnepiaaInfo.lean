/- Rows of the program's table of types. -/
import Derived.Test.YtbjchfhglnepiaaChecked
import Derived.Test.YtbjchfhglnepiaaBase
namespace Go.Proofs.Ytbjchfhglnepiaa
theorem int_info : (Try.prog.info? 3).map (fun i => (i.zero, i.size, i.bytes)) = some (some (.int .i64 0), 1, 8) := by kernel_rfl
end Go.Proofs.Ytbjchfhglnepiaa

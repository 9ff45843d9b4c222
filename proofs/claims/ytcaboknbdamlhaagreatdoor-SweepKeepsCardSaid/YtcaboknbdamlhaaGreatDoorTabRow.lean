/- The library's table, out of the rows' condition; a world for the witness. -/
import Derived.Test.YtcaboknbdamlhaaGreatDoorRowKit
import Derived.Test.YtcaboknbdamlhaaGreatDoorOpenRd
import Derived.Test.YtcaboknbdamlhaaGreatDoorBitNext
import Derived.Test.YtcaboknbdamlhaaGreatDoorCards
import Derived.Test.YtcaboknbdamlhaaGreatDoorTie
import Derived.Deep.DeepHandedRow
import Derived.Lib.LaidTab
set_option linter.unusedVariables false
set_option linter.unusedSimpArgs false
namespace Go.Proofs.YtcaboknbdamlhaaGreatDoor
open Go.ChangeShapes Go.WideShapes Go.ChangeAt Go.RowKit
theorem gTab : Tryz.prog.globalNamed "math/bits.deBruijn64tab" = some 0 := by kernel_rfl
theorem gTabType : (Tryz.prog.globals[0]?).map (·.type) = some 149 := by kernel_rfl
theorem tabCells : Tryz.prog.cellsOf 149 = 64 := by kernel_rfl
theorem u8Cells : Tryz.prog.cellsOf 5 = 1 := by kernel_rfl
def tabInts : List Int := Lib.deBruijn64tab.map (fun n : Nat => (n : Int))
theorem tabInts_eq : (Rows.laid_math_bits_deBruijn64tab (H := Unit)) = Lib.tabData .u8 tabInts := rfl
theorem tab_of_laid {W : World} {rest : List (String × DataW Unit)} (h : laidMet Tryz.prog (("math/bits.deBruijn64tab", Rows.laid_math_bits_deBruijn64tab) :: rest) W) : TabW W := by
  rw [tabInts_eq] at h
  have hT := Lib.tabIs_of_head gTab gTabType Tryz.underlying149 Tryz.underlying5 u8Cells tabCells h
  intro j hj
  have := hT.cell gTab j (by simpa [tabInts, Lib.deBruijn64tab] using hj)
  rw [this]
  have e : tabInts.getD j 0 = ((Lib.deBruijn64tab.getD j 0 : Nat) : Int) := by
    unfold tabInts
    have hl : j < Lib.deBruijn64tab.length := hj
    simp [List.getD, hl]
  rw [e]
/-- A world for the witness: the settled one, the table holding what its initialiser lays. -/
noncomputable def laidWorld (os : Os) : World :=
  { World.holding Tryz.prog os ⟨#[], #[], []⟩ with heap := (World.holding Tryz.prog os ⟨#[], #[], []⟩).heap.modify 0 fun
      | .cells _ t frozen => .cells (tabInts.map fun n => Value.int .u8 n).toArray t frozen
      | o => o }
end Go.Proofs.YtcaboknbdamlhaaGreatDoor

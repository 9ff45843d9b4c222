/-
  NARROWER THAN 'FOR EVERY INPUT', by the rows' own cells (each row's printed sentence says how): HeapActs: laid · HeapApart: laid · HeapRoom: laid · HeapJunk: laid · HeapNobody: laid · HeapLast: laid · HeapFits: laid.
  DERIVED. THE GIVEN ROWS OF THIS SEAT. 7 by the template 'for every input the law returns true; each argument reads behind the call as it read before'; 0 by the template 'total and deterministic' (their statements: YtoodfioecabglaaDoorTotals.lean).
  GIVEN WITH THE SEED: the statements are not yours to turn. If you find one false, say at which input.
  Laid BY PROGRAM, IN A SANDBOX (cutbox-rows.mjs): the forced cells as the released guide's own fill.sh prints them over the translation 9299c1666d30e6f2… (all of the seat's roots in one cut). By AI agents, Wed Nov 11 2026. No macro, syntax, notation, axiom, sorry.
-/
import Derived.Test.YtoodfioecabglaaDoorChecked
import GoSem.Claim
import GoSem.ClaimJoined
import GoSem.ClaimMapViews
import Derived.JoinedTies
import Derived.KernelRfl
namespace Go.Proofs.YtoodfioecabglaaDoor
/- THE CELL 'sum', in the pinned program and in every row, IS THE sha256 OF THE DUMP (.gsa) THAT YtoodfioecabglaaDoorProg.lean LOADS. Nothing in Lean hashes anything: it is a label: what it is worth is what the hold of that sum in a sandbox is worth. -/
noncomputable def Tryd.pinned : Pinned := { name := "ytoodfioecabglaadoor", sum := "9299c1666d30e6f2ce9520317c2ff769caf4e57c753d8e012b805d72ba24df7a", checked := Tryd.checked }
namespace Rows
def none {H : Type} : Left H := { results := [], args := [] }

/- WHAT THE LISTED PACKAGE-LEVEL VARIABLES READ AS WHEN THE CALL BEGINS. Each datum BY PROGRAM (the guide's laid-datum.mjs) off the statement by which the dump's own 'gosem.cut.vars' lays the variable. In a bare row this is a premise. The card (YtoodfioecabglaaDoorCards.lean) ties it to the program's text. -/
def laid_math_bits_deBruijn64tab {H : Type} : DataW H := .agg [.lit (.int .u8 0), .lit (.int .u8 1), .lit (.int .u8 56), .lit (.int .u8 2), .lit (.int .u8 57), .lit (.int .u8 49), .lit (.int .u8 28), .lit (.int .u8 3), .lit (.int .u8 61), .lit (.int .u8 58), .lit (.int .u8 42), .lit (.int .u8 50), .lit (.int .u8 38), .lit (.int .u8 29), .lit (.int .u8 17), .lit (.int .u8 4), .lit (.int .u8 62), .lit (.int .u8 47), .lit (.int .u8 59), .lit (.int .u8 36), .lit (.int .u8 45), .lit (.int .u8 43), .lit (.int .u8 51), .lit (.int .u8 22), .lit (.int .u8 53), .lit (.int .u8 39), .lit (.int .u8 33), .lit (.int .u8 30), .lit (.int .u8 24), .lit (.int .u8 18), .lit (.int .u8 12), .lit (.int .u8 5), .lit (.int .u8 63), .lit (.int .u8 55), .lit (.int .u8 48), .lit (.int .u8 27), .lit (.int .u8 60), .lit (.int .u8 41), .lit (.int .u8 37), .lit (.int .u8 16), .lit (.int .u8 46), .lit (.int .u8 35), .lit (.int .u8 44), .lit (.int .u8 21), .lit (.int .u8 52), .lit (.int .u8 32), .lit (.int .u8 23), .lit (.int .u8 11), .lit (.int .u8 54), .lit (.int .u8 26), .lit (.int .u8 40), .lit (.int .u8 15), .lit (.int .u8 34), .lit (.int .u8 20), .lit (.int .u8 31), .lit (.int .u8 10), .lit (.int .u8 25), .lit (.int .u8 14), .lit (.int .u8 19), .lit (.int .u8 9), .lit (.int .u8 13), .lit (.int .u8 8), .lit (.int .u8 7), .lit (.int .u8 6)]

/-- 'lockstitchlaw16.HeapActs': WHATEVER THE INPUT: true; the input reads as it did. -/
def heapActsSpec : ChangeSpec := { name := "heapActs", fn := fun _ => fun
  | [d1, d2] => { results := [.lit (.bool true)], args := [d1, d2] }
  | _ => none }
def heapActsRow : OpenClaim := { program := "ytoodfioecabglaadoor", sum := "9299c1666d30e6f2ce9520317c2ff769caf4e57c753d8e012b805d72ba24df7a", func := "lockstitch/lockstitchlaw16.HeapActs", spec := "heapActs", unfollowed := true, recurses := true, named := ["math/bits.deBruijn64tab"], apart := false, laid := [("math/bits.deBruijn64tab", laid_math_bits_deBruijn64tab)] }
def HeapActsSaid : Prop := heapActsRow.holds Tryd.pinned (OpenSpec.ofChange heapActsSpec)

/-- ITS FALSE NEIGHBOUR: 'it returns false'. Refute it at one input. -/
def heapActsWrong : ChangeSpec := { name := "heapActs", fn := fun _ => fun
  | [d1, d2] => { results := [.lit (.bool false)], args := [d1, d2] }
  | _ => none }
def HeapActsWrongFalsely : Prop := heapActsRow.holds Tryd.pinned (OpenSpec.ofChange heapActsWrong)

/-- 'lockstitchlaw16.HeapApart': WHATEVER THE INPUT: true; the input reads as it did. -/
def heapApartSpec : ChangeSpec := { name := "heapApart", fn := fun _ => fun
  | [d1, d2, d3] => { results := [.lit (.bool true)], args := [d1, d2, d3] }
  | _ => none }
def heapApartRow : OpenClaim := { program := "ytoodfioecabglaadoor", sum := "9299c1666d30e6f2ce9520317c2ff769caf4e57c753d8e012b805d72ba24df7a", func := "lockstitch/lockstitchlaw16.HeapApart", spec := "heapApart", unfollowed := true, recurses := true, named := ["math/bits.deBruijn64tab"], apart := false, laid := [("math/bits.deBruijn64tab", laid_math_bits_deBruijn64tab)] }
def HeapApartSaid : Prop := heapApartRow.holds Tryd.pinned (OpenSpec.ofChange heapApartSpec)

/-- ITS FALSE NEIGHBOUR: 'it returns false'. Refute it at one input. -/
def heapApartWrong : ChangeSpec := { name := "heapApart", fn := fun _ => fun
  | [d1, d2, d3] => { results := [.lit (.bool false)], args := [d1, d2, d3] }
  | _ => none }
def HeapApartWrongFalsely : Prop := heapApartRow.holds Tryd.pinned (OpenSpec.ofChange heapApartWrong)

/-- 'lockstitchlaw16.HeapRoom': WHATEVER THE INPUT: true; the input reads as it did. -/
def heapRoomSpec : ChangeSpec := { name := "heapRoom", fn := fun _ => fun
  | [d1, d2, d3] => { results := [.lit (.bool true)], args := [d1, d2, d3] }
  | _ => none }
def heapRoomRow : OpenClaim := { program := "ytoodfioecabglaadoor", sum := "9299c1666d30e6f2ce9520317c2ff769caf4e57c753d8e012b805d72ba24df7a", func := "lockstitch/lockstitchlaw16.HeapRoom", spec := "heapRoom", unfollowed := true, recurses := true, named := ["math/bits.deBruijn64tab"], apart := false, laid := [("math/bits.deBruijn64tab", laid_math_bits_deBruijn64tab)] }
def HeapRoomSaid : Prop := heapRoomRow.holds Tryd.pinned (OpenSpec.ofChange heapRoomSpec)

/-- ITS FALSE NEIGHBOUR: 'it returns false'. Refute it at one input. -/
def heapRoomWrong : ChangeSpec := { name := "heapRoom", fn := fun _ => fun
  | [d1, d2, d3] => { results := [.lit (.bool false)], args := [d1, d2, d3] }
  | _ => none }
def HeapRoomWrongFalsely : Prop := heapRoomRow.holds Tryd.pinned (OpenSpec.ofChange heapRoomWrong)

/-- 'lockstitchlaw16.HeapJunk': WHATEVER THE INPUT: true; the input reads as it did. -/
def heapJunkSpec : ChangeSpec := { name := "heapJunk", fn := fun _ => fun
  | [d1, d2, d3] => { results := [.lit (.bool true)], args := [d1, d2, d3] }
  | _ => none }
def heapJunkRow : OpenClaim := { program := "ytoodfioecabglaadoor", sum := "9299c1666d30e6f2ce9520317c2ff769caf4e57c753d8e012b805d72ba24df7a", func := "lockstitch/lockstitchlaw16.HeapJunk", spec := "heapJunk", unfollowed := true, recurses := true, named := ["math/bits.deBruijn64tab"], apart := false, laid := [("math/bits.deBruijn64tab", laid_math_bits_deBruijn64tab)] }
def HeapJunkSaid : Prop := heapJunkRow.holds Tryd.pinned (OpenSpec.ofChange heapJunkSpec)

/-- ITS FALSE NEIGHBOUR: 'it returns false'. Refute it at one input. -/
def heapJunkWrong : ChangeSpec := { name := "heapJunk", fn := fun _ => fun
  | [d1, d2, d3] => { results := [.lit (.bool false)], args := [d1, d2, d3] }
  | _ => none }
def HeapJunkWrongFalsely : Prop := heapJunkRow.holds Tryd.pinned (OpenSpec.ofChange heapJunkWrong)

/-- 'lockstitchlaw16.HeapNobody': WHATEVER THE INPUT: true; the input reads as it did. -/
def heapNobodySpec : ChangeSpec := { name := "heapNobody", fn := fun _ => fun
  | [d1, d2, d3] => { results := [.lit (.bool true)], args := [d1, d2, d3] }
  | _ => none }
def heapNobodyRow : OpenClaim := { program := "ytoodfioecabglaadoor", sum := "9299c1666d30e6f2ce9520317c2ff769caf4e57c753d8e012b805d72ba24df7a", func := "lockstitch/lockstitchlaw16.HeapNobody", spec := "heapNobody", unfollowed := true, recurses := true, named := ["math/bits.deBruijn64tab"], apart := false, laid := [("math/bits.deBruijn64tab", laid_math_bits_deBruijn64tab)] }
def HeapNobodySaid : Prop := heapNobodyRow.holds Tryd.pinned (OpenSpec.ofChange heapNobodySpec)

/-- ITS FALSE NEIGHBOUR: 'it returns false'. Refute it at one input. -/
def heapNobodyWrong : ChangeSpec := { name := "heapNobody", fn := fun _ => fun
  | [d1, d2, d3] => { results := [.lit (.bool false)], args := [d1, d2, d3] }
  | _ => none }
def HeapNobodyWrongFalsely : Prop := heapNobodyRow.holds Tryd.pinned (OpenSpec.ofChange heapNobodyWrong)

/-- 'lockstitchlaw16.HeapLast': WHATEVER THE INPUT: true; the input reads as it did. -/
def heapLastSpec : ChangeSpec := { name := "heapLast", fn := fun _ => fun
  | [d1, d2] => { results := [.lit (.bool true)], args := [d1, d2] }
  | _ => none }
def heapLastRow : OpenClaim := { program := "ytoodfioecabglaadoor", sum := "9299c1666d30e6f2ce9520317c2ff769caf4e57c753d8e012b805d72ba24df7a", func := "lockstitch/lockstitchlaw16.HeapLast", spec := "heapLast", unfollowed := true, recurses := true, named := ["math/bits.deBruijn64tab"], apart := false, laid := [("math/bits.deBruijn64tab", laid_math_bits_deBruijn64tab)] }
def HeapLastSaid : Prop := heapLastRow.holds Tryd.pinned (OpenSpec.ofChange heapLastSpec)

/-- ITS FALSE NEIGHBOUR: 'it returns false'. Refute it at one input. -/
def heapLastWrong : ChangeSpec := { name := "heapLast", fn := fun _ => fun
  | [d1, d2] => { results := [.lit (.bool false)], args := [d1, d2] }
  | _ => none }
def HeapLastWrongFalsely : Prop := heapLastRow.holds Tryd.pinned (OpenSpec.ofChange heapLastWrong)

/-- 'lockstitchlaw16.HeapFits': WHATEVER THE INPUT: true; the input reads as it did. -/
def heapFitsSpec : ChangeSpec := { name := "heapFits", fn := fun _ => fun
  | [d1, d2, d3] => { results := [.lit (.bool true)], args := [d1, d2, d3] }
  | _ => none }
def heapFitsRow : OpenClaim := { program := "ytoodfioecabglaadoor", sum := "9299c1666d30e6f2ce9520317c2ff769caf4e57c753d8e012b805d72ba24df7a", func := "lockstitch/lockstitchlaw16.HeapFits", spec := "heapFits", unfollowed := true, recurses := true, named := ["math/bits.deBruijn64tab"], apart := false, laid := [("math/bits.deBruijn64tab", laid_math_bits_deBruijn64tab)] }
def HeapFitsSaid : Prop := heapFitsRow.holds Tryd.pinned (OpenSpec.ofChange heapFitsSpec)

/-- ITS FALSE NEIGHBOUR: 'it returns false'. Refute it at one input. -/
def heapFitsWrong : ChangeSpec := { name := "heapFits", fn := fun _ => fun
  | [d1, d2, d3] => { results := [.lit (.bool false)], args := [d1, d2, d3] }
  | _ => none }
def HeapFitsWrongFalsely : Prop := heapFitsRow.holds Tryd.pinned (OpenSpec.ofChange heapFitsWrong)

/- THE SECOND FORM. 'bulk': how many values and letters a reading holds, each counted each time it is reached (what is shared counts as often as it is met; a slice's spare places count too). A statement '..UptoSaid' is the law's where the arguments, and the package variables that the reading takes, are together of bulk at most 1048576: NARROWER than '..Said'. Prove '..Said' where nothing that the law and all that it calls make is longer than what came in: it says more and counts as full. Else prove '..UptoSaid'. A law counts once. -/
mutual
def uptoBulk {H : Type} : DataW H → Nat
  | .lit (.string bytes) => bytes.length + 1
  | .lit _ => 1
  | .nil => 1
  | .ptr d => uptoBulk d + 1
  | .slice elems spare => uptoBulkAll elems + uptoBulkAll spare + 1
  | .agg parts => uptoBulkAll parts + 1
  | .iface _ d => uptoBulk d + 1
  | .map entries => uptoBulkEntries entries + 1
  | .held _ => 1
def uptoBulkAll {H : Type} : List (DataW H) → Nat
  | [] => 0
  | d :: r => uptoBulk d + uptoBulkAll r
def uptoBulkEntries {H : Type} : List (Lit × DataW H) → Nat
  | [] => 0
  | x :: r => uptoBulkEntry x + uptoBulkEntries r
def uptoBulkEntry {H : Type} : Lit × DataW H → Nat
  | (.string bytes, d) => bytes.length + uptoBulk d + 1
  | (_, d) => uptoBulk d + 1
 end
def uptoSmall : (H : Type) → List (DataW H) → Bool := fun _ ds => decide (uptoBulkAll ds ≤ 1048576)
def OpenSpec.upto (s : _root_.Go.ChangeSpec) : _root_.Go.OpenSpec := { _root_.Go.OpenSpec.ofChange s with cond := some uptoSmall }

/-- 'lockstitchlaw16.HeapActs', WHERE WHAT IT READS IS OF BULK AT MOST 1048576: true; the input reads as it did. -/
def heapActsUptoRow : OpenClaim := { program := "ytoodfioecabglaadoor", sum := "9299c1666d30e6f2ce9520317c2ff769caf4e57c753d8e012b805d72ba24df7a", func := "lockstitch/lockstitchlaw16.HeapActs", spec := "heapActs", unfollowed := true, recurses := true, named := ["math/bits.deBruijn64tab"], apart := false, laid := [("math/bits.deBruijn64tab", laid_math_bits_deBruijn64tab)], narrowed := true }
def HeapActsUptoSaid : Prop := heapActsUptoRow.holds Tryd.pinned (OpenSpec.upto heapActsSpec)

/-- 'lockstitchlaw16.HeapApart', WHERE WHAT IT READS IS OF BULK AT MOST 1048576: true; the input reads as it did. -/
def heapApartUptoRow : OpenClaim := { program := "ytoodfioecabglaadoor", sum := "9299c1666d30e6f2ce9520317c2ff769caf4e57c753d8e012b805d72ba24df7a", func := "lockstitch/lockstitchlaw16.HeapApart", spec := "heapApart", unfollowed := true, recurses := true, named := ["math/bits.deBruijn64tab"], apart := false, laid := [("math/bits.deBruijn64tab", laid_math_bits_deBruijn64tab)], narrowed := true }
def HeapApartUptoSaid : Prop := heapApartUptoRow.holds Tryd.pinned (OpenSpec.upto heapApartSpec)

/-- 'lockstitchlaw16.HeapRoom', WHERE WHAT IT READS IS OF BULK AT MOST 1048576: true; the input reads as it did. -/
def heapRoomUptoRow : OpenClaim := { program := "ytoodfioecabglaadoor", sum := "9299c1666d30e6f2ce9520317c2ff769caf4e57c753d8e012b805d72ba24df7a", func := "lockstitch/lockstitchlaw16.HeapRoom", spec := "heapRoom", unfollowed := true, recurses := true, named := ["math/bits.deBruijn64tab"], apart := false, laid := [("math/bits.deBruijn64tab", laid_math_bits_deBruijn64tab)], narrowed := true }
def HeapRoomUptoSaid : Prop := heapRoomUptoRow.holds Tryd.pinned (OpenSpec.upto heapRoomSpec)

/-- 'lockstitchlaw16.HeapJunk', WHERE WHAT IT READS IS OF BULK AT MOST 1048576: true; the input reads as it did. -/
def heapJunkUptoRow : OpenClaim := { program := "ytoodfioecabglaadoor", sum := "9299c1666d30e6f2ce9520317c2ff769caf4e57c753d8e012b805d72ba24df7a", func := "lockstitch/lockstitchlaw16.HeapJunk", spec := "heapJunk", unfollowed := true, recurses := true, named := ["math/bits.deBruijn64tab"], apart := false, laid := [("math/bits.deBruijn64tab", laid_math_bits_deBruijn64tab)], narrowed := true }
def HeapJunkUptoSaid : Prop := heapJunkUptoRow.holds Tryd.pinned (OpenSpec.upto heapJunkSpec)

/-- 'lockstitchlaw16.HeapNobody', WHERE WHAT IT READS IS OF BULK AT MOST 1048576: true; the input reads as it did. -/
def heapNobodyUptoRow : OpenClaim := { program := "ytoodfioecabglaadoor", sum := "9299c1666d30e6f2ce9520317c2ff769caf4e57c753d8e012b805d72ba24df7a", func := "lockstitch/lockstitchlaw16.HeapNobody", spec := "heapNobody", unfollowed := true, recurses := true, named := ["math/bits.deBruijn64tab"], apart := false, laid := [("math/bits.deBruijn64tab", laid_math_bits_deBruijn64tab)], narrowed := true }
def HeapNobodyUptoSaid : Prop := heapNobodyUptoRow.holds Tryd.pinned (OpenSpec.upto heapNobodySpec)

/-- 'lockstitchlaw16.HeapLast', WHERE WHAT IT READS IS OF BULK AT MOST 1048576: true; the input reads as it did. -/
def heapLastUptoRow : OpenClaim := { program := "ytoodfioecabglaadoor", sum := "9299c1666d30e6f2ce9520317c2ff769caf4e57c753d8e012b805d72ba24df7a", func := "lockstitch/lockstitchlaw16.HeapLast", spec := "heapLast", unfollowed := true, recurses := true, named := ["math/bits.deBruijn64tab"], apart := false, laid := [("math/bits.deBruijn64tab", laid_math_bits_deBruijn64tab)], narrowed := true }
def HeapLastUptoSaid : Prop := heapLastUptoRow.holds Tryd.pinned (OpenSpec.upto heapLastSpec)

/-- 'lockstitchlaw16.HeapFits', WHERE WHAT IT READS IS OF BULK AT MOST 1048576: true; the input reads as it did. -/
def heapFitsUptoRow : OpenClaim := { program := "ytoodfioecabglaadoor", sum := "9299c1666d30e6f2ce9520317c2ff769caf4e57c753d8e012b805d72ba24df7a", func := "lockstitch/lockstitchlaw16.HeapFits", spec := "heapFits", unfollowed := true, recurses := true, named := ["math/bits.deBruijn64tab"], apart := false, laid := [("math/bits.deBruijn64tab", laid_math_bits_deBruijn64tab)], narrowed := true }
def HeapFitsUptoSaid : Prop := heapFitsUptoRow.holds Tryd.pinned (OpenSpec.upto heapFitsSpec)

end Rows
end Go.Proofs.YtoodfioecabglaaDoor

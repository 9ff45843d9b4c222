/-
  No cell of these rows narrows 'for every input' (looked for: loops, veiled, ifaces, maps, wideKeys, modest, calm, conditions, laid).
  DERIVED. THE GIVEN ROWS OF THIS SEAT. 10 by the template 'for every input the law returns true; each argument reads behind the call as it read before'; 0 by the template 'total and deterministic' (their statements: YtbjchfhglnepiaaTotals.lean).
  GIVEN WITH THE SEED: the statements are not yours to turn. If you find one false, say at which input.
  Laid BY PROGRAM, IN A SANDBOX (cutbox-rows.mjs): the forced cells as the released guide's own fill.sh prints them over the translation 033e17e1b55e1735… (all of the seat's roots in one cut). By AI agents, Wed Nov 11 2026. No macro, syntax, notation, axiom, sorry.
-/
import Derived.Test.YtbjchfhglnepiaaChecked
import GoSem.Claim
import GoSem.ClaimJoined
import GoSem.ClaimMapViews
import Derived.JoinedTies
import Derived.KernelRfl
namespace Go.Proofs.Ytbjchfhglnepiaa
/- THE CELL 'sum', in the pinned program and in every row, IS THE sha256 OF THE DUMP (.gsa) THAT YtbjchfhglnepiaaProg.lean LOADS. Nothing in Lean hashes anything: it is a label: what it is worth is what the hold of that sum in a sandbox is worth. -/
noncomputable def Try.pinned : Pinned := { name := "ytbjchfhglnepiaa", sum := "033e17e1b55e1735c167d957828af3398a5acca5c8b6570ca15d6e3a016b90a7", checked := Try.checked }
namespace Rows
def none {H : Type} : Left H := { results := [], args := [] }

/-- 'lockstitchlaw13.ClassTells': WHATEVER THE INPUT: true; the input reads as it did. -/
def classTellsSpec : ChangeSpec := { name := "classTells", fn := fun _ => fun
  | [d1, d2, d3] => { results := [.lit (.bool true)], args := [d1, d2, d3] }
  | _ => none }
def classTellsRow : OpenClaim := { program := "ytbjchfhglnepiaa", sum := "033e17e1b55e1735c167d957828af3398a5acca5c8b6570ca15d6e3a016b90a7", func := "lockstitch/lockstitchlaw13.ClassTells", spec := "classTells", apart := false }
def ClassTellsSaid : Prop := classTellsRow.holds Try.pinned (OpenSpec.ofChange classTellsSpec)

/-- ITS FALSE NEIGHBOUR: 'it returns false'. Refute it at one input. -/
def classTellsWrong : ChangeSpec := { name := "classTells", fn := fun _ => fun
  | [d1, d2, d3] => { results := [.lit (.bool false)], args := [d1, d2, d3] }
  | _ => none }
def ClassTellsWrongFalsely : Prop := classTellsRow.holds Try.pinned (OpenSpec.ofChange classTellsWrong)

/-- 'lockstitchlaw13.ClassWhole': WHATEVER THE INPUT: true; the input reads as it did. -/
def classWholeSpec : ChangeSpec := { name := "classWhole", fn := fun _ => fun
  | [d1, d2] => { results := [.lit (.bool true)], args := [d1, d2] }
  | _ => none }
def classWholeRow : OpenClaim := { program := "ytbjchfhglnepiaa", sum := "033e17e1b55e1735c167d957828af3398a5acca5c8b6570ca15d6e3a016b90a7", func := "lockstitch/lockstitchlaw13.ClassWhole", spec := "classWhole", apart := false }
def ClassWholeSaid : Prop := classWholeRow.holds Try.pinned (OpenSpec.ofChange classWholeSpec)

/-- ITS FALSE NEIGHBOUR: 'it returns false'. Refute it at one input. -/
def classWholeWrong : ChangeSpec := { name := "classWhole", fn := fun _ => fun
  | [d1, d2] => { results := [.lit (.bool false)], args := [d1, d2] }
  | _ => none }
def ClassWholeWrongFalsely : Prop := classWholeRow.holds Try.pinned (OpenSpec.ofChange classWholeWrong)

/-- 'lockstitchlaw13.ClassFits': WHATEVER THE INPUT: true; the input reads as it did. -/
def classFitsSpec : ChangeSpec := { name := "classFits", fn := fun _ => fun
  | [d1, d2] => { results := [.lit (.bool true)], args := [d1, d2] }
  | _ => none }
def classFitsRow : OpenClaim := { program := "ytbjchfhglnepiaa", sum := "033e17e1b55e1735c167d957828af3398a5acca5c8b6570ca15d6e3a016b90a7", func := "lockstitch/lockstitchlaw13.ClassFits", spec := "classFits", apart := false }
def ClassFitsSaid : Prop := classFitsRow.holds Try.pinned (OpenSpec.ofChange classFitsSpec)

/-- ITS FALSE NEIGHBOUR: 'it returns false'. Refute it at one input. -/
def classFitsWrong : ChangeSpec := { name := "classFits", fn := fun _ => fun
  | [d1, d2] => { results := [.lit (.bool false)], args := [d1, d2] }
  | _ => none }
def ClassFitsWrongFalsely : Prop := classFitsRow.holds Try.pinned (OpenSpec.ofChange classFitsWrong)

/-- 'lockstitchlaw13.ClassDoubles': WHATEVER THE INPUT: true; the input reads as it did. -/
def classDoublesSpec : ChangeSpec := { name := "classDoubles", fn := fun _ => fun
  | [d1, d2] => { results := [.lit (.bool true)], args := [d1, d2] }
  | _ => none }
def classDoublesRow : OpenClaim := { program := "ytbjchfhglnepiaa", sum := "033e17e1b55e1735c167d957828af3398a5acca5c8b6570ca15d6e3a016b90a7", func := "lockstitch/lockstitchlaw13.ClassDoubles", spec := "classDoubles", apart := false }
def ClassDoublesSaid : Prop := classDoublesRow.holds Try.pinned (OpenSpec.ofChange classDoublesSpec)

/-- ITS FALSE NEIGHBOUR: 'it returns false'. Refute it at one input. -/
def classDoublesWrong : ChangeSpec := { name := "classDoubles", fn := fun _ => fun
  | [d1, d2] => { results := [.lit (.bool false)], args := [d1, d2] }
  | _ => none }
def ClassDoublesWrongFalsely : Prop := classDoublesRow.holds Try.pinned (OpenSpec.ofChange classDoublesWrong)

/-- 'lockstitchlaw13.ClassNext': WHATEVER THE INPUT: true; the input reads as it did. -/
def classNextSpec : ChangeSpec := { name := "classNext", fn := fun _ => fun
  | [d] => { results := [.lit (.bool true)], args := [d] }
  | _ => none }
def classNextRow : OpenClaim := { program := "ytbjchfhglnepiaa", sum := "033e17e1b55e1735c167d957828af3398a5acca5c8b6570ca15d6e3a016b90a7", func := "lockstitch/lockstitchlaw13.ClassNext", spec := "classNext", apart := false }
def ClassNextSaid : Prop := classNextRow.holds Try.pinned (OpenSpec.ofChange classNextSpec)

/-- ITS FALSE NEIGHBOUR: 'it returns false'. Refute it at one input. -/
def classNextWrong : ChangeSpec := { name := "classNext", fn := fun _ => fun
  | [d] => { results := [.lit (.bool false)], args := [d] }
  | _ => none }
def ClassNextWrongFalsely : Prop := classNextRow.holds Try.pinned (OpenSpec.ofChange classNextWrong)

/-- 'lockstitchlaw15.ListCalls': WHATEVER THE INPUT: true; the input reads as it did. -/
def listCallsSpec : ChangeSpec := { name := "listCalls", fn := fun _ => fun
  | [d1, d2] => { results := [.lit (.bool true)], args := [d1, d2] }
  | _ => none }
def listCallsRow : OpenClaim := { program := "ytbjchfhglnepiaa", sum := "033e17e1b55e1735c167d957828af3398a5acca5c8b6570ca15d6e3a016b90a7", func := "lockstitch/lockstitchlaw15.ListCalls", spec := "listCalls", unfollowed := true, recurses := true, apart := false }
def ListCallsSaid : Prop := listCallsRow.holds Try.pinned (OpenSpec.ofChange listCallsSpec)

/-- ITS FALSE NEIGHBOUR: 'it returns false'. Refute it at one input. -/
def listCallsWrong : ChangeSpec := { name := "listCalls", fn := fun _ => fun
  | [d1, d2] => { results := [.lit (.bool false)], args := [d1, d2] }
  | _ => none }
def ListCallsWrongFalsely : Prop := listCallsRow.holds Try.pinned (OpenSpec.ofChange listCallsWrong)

/-- 'lockstitchlaw15.ListRow': WHATEVER THE INPUT: true; the input reads as it did. -/
def listRowSpec : ChangeSpec := { name := "listRow", fn := fun _ => fun
  | [d] => { results := [.lit (.bool true)], args := [d] }
  | _ => none }
def listRowRow : OpenClaim := { program := "ytbjchfhglnepiaa", sum := "033e17e1b55e1735c167d957828af3398a5acca5c8b6570ca15d6e3a016b90a7", func := "lockstitch/lockstitchlaw15.ListRow", spec := "listRow", unfollowed := true, recurses := true, apart := false }
def ListRowSaid : Prop := listRowRow.holds Try.pinned (OpenSpec.ofChange listRowSpec)

/-- ITS FALSE NEIGHBOUR: 'it returns false'. Refute it at one input. -/
def listRowWrong : ChangeSpec := { name := "listRow", fn := fun _ => fun
  | [d] => { results := [.lit (.bool false)], args := [d] }
  | _ => none }
def ListRowWrongFalsely : Prop := listRowRow.holds Try.pinned (OpenSpec.ofChange listRowWrong)

/-- 'lockstitchlaw15.ListBack': WHATEVER THE INPUT: true; the input reads as it did. -/
def listBackSpec : ChangeSpec := { name := "listBack", fn := fun _ => fun
  | [d1, d2, d3] => { results := [.lit (.bool true)], args := [d1, d2, d3] }
  | _ => none }
def listBackRow : OpenClaim := { program := "ytbjchfhglnepiaa", sum := "033e17e1b55e1735c167d957828af3398a5acca5c8b6570ca15d6e3a016b90a7", func := "lockstitch/lockstitchlaw15.ListBack", spec := "listBack", unfollowed := true, recurses := true, apart := false }
def ListBackSaid : Prop := listBackRow.holds Try.pinned (OpenSpec.ofChange listBackSpec)

/-- ITS FALSE NEIGHBOUR: 'it returns false'. Refute it at one input. -/
def listBackWrong : ChangeSpec := { name := "listBack", fn := fun _ => fun
  | [d1, d2, d3] => { results := [.lit (.bool false)], args := [d1, d2, d3] }
  | _ => none }
def ListBackWrongFalsely : Prop := listBackRow.holds Try.pinned (OpenSpec.ofChange listBackWrong)

/-- 'lockstitchlaw15.ListCounts': WHATEVER THE INPUT: true; the input reads as it did. -/
def listCountsSpec : ChangeSpec := { name := "listCounts", fn := fun _ => fun
  | [d] => { results := [.lit (.bool true)], args := [d] }
  | _ => none }
def listCountsRow : OpenClaim := { program := "ytbjchfhglnepiaa", sum := "033e17e1b55e1735c167d957828af3398a5acca5c8b6570ca15d6e3a016b90a7", func := "lockstitch/lockstitchlaw15.ListCounts", spec := "listCounts", unfollowed := true, recurses := true, apart := false }
def ListCountsSaid : Prop := listCountsRow.holds Try.pinned (OpenSpec.ofChange listCountsSpec)

/-- ITS FALSE NEIGHBOUR: 'it returns false'. Refute it at one input. -/
def listCountsWrong : ChangeSpec := { name := "listCounts", fn := fun _ => fun
  | [d] => { results := [.lit (.bool false)], args := [d] }
  | _ => none }
def ListCountsWrongFalsely : Prop := listCountsRow.holds Try.pinned (OpenSpec.ofChange listCountsWrong)

/-- 'lockstitchlaw15.ListCuts': WHATEVER THE INPUT: true; the input reads as it did. -/
def listCutsSpec : ChangeSpec := { name := "listCuts", fn := fun _ => fun
  | [d1, d2] => { results := [.lit (.bool true)], args := [d1, d2] }
  | _ => none }
def listCutsRow : OpenClaim := { program := "ytbjchfhglnepiaa", sum := "033e17e1b55e1735c167d957828af3398a5acca5c8b6570ca15d6e3a016b90a7", func := "lockstitch/lockstitchlaw15.ListCuts", spec := "listCuts", unfollowed := true, recurses := true, apart := false }
def ListCutsSaid : Prop := listCutsRow.holds Try.pinned (OpenSpec.ofChange listCutsSpec)

/-- ITS FALSE NEIGHBOUR: 'it returns false'. Refute it at one input. -/
def listCutsWrong : ChangeSpec := { name := "listCuts", fn := fun _ => fun
  | [d1, d2] => { results := [.lit (.bool false)], args := [d1, d2] }
  | _ => none }
def ListCutsWrongFalsely : Prop := listCutsRow.holds Try.pinned (OpenSpec.ofChange listCutsWrong)

/- THE SECOND FORM. 'bulk': how many values and letters a reading holds, each counted each time it is reached (what is shared counts as often as it is met; a slice's spare places count too). A statement '..UptoSaid' is the law's where the arguments, and the package variables that the reading takes, are together of bulk at most 1048576: NARROWER than '..Said'. Prove '..Said' where nothing that the law and all that it calls make is longer than what came in: it says more and counts as full. Else prove '..UptoSaid'. A law counts once. -/
mutual
def uptoBulk {H : Type} : DataW H → Nat
  | .lit (.string bytes) => bytes.length + 1
  | .lit _ => 1
  | .nil => 1
  | .ptr d => uptoBulk d + 1
  | .slice elems spare => uptoBulkAll elems + uptoBulkAll spare + 1
  | .agg parts => uptoBulkAll parts + 1
  | .iface _ d => uptoBulk d + 1
  | .map entries => uptoBulkEntries entries + 1
  | .held _ => 1
def uptoBulkAll {H : Type} : List (DataW H) → Nat
  | [] => 0
  | d :: r => uptoBulk d + uptoBulkAll r
def uptoBulkEntries {H : Type} : List (Lit × DataW H) → Nat
  | [] => 0
  | x :: r => uptoBulkEntry x + uptoBulkEntries r
def uptoBulkEntry {H : Type} : Lit × DataW H → Nat
  | (.string bytes, d) => bytes.length + uptoBulk d + 1
  | (_, d) => uptoBulk d + 1
 end
def uptoSmall : (H : Type) → List (DataW H) → Bool := fun _ ds => decide (uptoBulkAll ds ≤ 1048576)
def OpenSpec.upto (s : _root_.Go.ChangeSpec) : _root_.Go.OpenSpec := { _root_.Go.OpenSpec.ofChange s with cond := some uptoSmall }

/-- 'lockstitchlaw13.ClassTells', WHERE WHAT IT READS IS OF BULK AT MOST 1048576: true; the input reads as it did. -/
def classTellsUptoRow : OpenClaim := { program := "ytbjchfhglnepiaa", sum := "033e17e1b55e1735c167d957828af3398a5acca5c8b6570ca15d6e3a016b90a7", func := "lockstitch/lockstitchlaw13.ClassTells", spec := "classTells", apart := false, narrowed := true }
def ClassTellsUptoSaid : Prop := classTellsUptoRow.holds Try.pinned (OpenSpec.upto classTellsSpec)

/-- 'lockstitchlaw13.ClassWhole', WHERE WHAT IT READS IS OF BULK AT MOST 1048576: true; the input reads as it did. -/
def classWholeUptoRow : OpenClaim := { program := "ytbjchfhglnepiaa", sum := "033e17e1b55e1735c167d957828af3398a5acca5c8b6570ca15d6e3a016b90a7", func := "lockstitch/lockstitchlaw13.ClassWhole", spec := "classWhole", apart := false, narrowed := true }
def ClassWholeUptoSaid : Prop := classWholeUptoRow.holds Try.pinned (OpenSpec.upto classWholeSpec)

/-- 'lockstitchlaw13.ClassFits', WHERE WHAT IT READS IS OF BULK AT MOST 1048576: true; the input reads as it did. -/
def classFitsUptoRow : OpenClaim := { program := "ytbjchfhglnepiaa", sum := "033e17e1b55e1735c167d957828af3398a5acca5c8b6570ca15d6e3a016b90a7", func := "lockstitch/lockstitchlaw13.ClassFits", spec := "classFits", apart := false, narrowed := true }
def ClassFitsUptoSaid : Prop := classFitsUptoRow.holds Try.pinned (OpenSpec.upto classFitsSpec)

/-- 'lockstitchlaw13.ClassDoubles', WHERE WHAT IT READS IS OF BULK AT MOST 1048576: true; the input reads as it did. -/
def classDoublesUptoRow : OpenClaim := { program := "ytbjchfhglnepiaa", sum := "033e17e1b55e1735c167d957828af3398a5acca5c8b6570ca15d6e3a016b90a7", func := "lockstitch/lockstitchlaw13.ClassDoubles", spec := "classDoubles", apart := false, narrowed := true }
def ClassDoublesUptoSaid : Prop := classDoublesUptoRow.holds Try.pinned (OpenSpec.upto classDoublesSpec)

/-- 'lockstitchlaw13.ClassNext', WHERE WHAT IT READS IS OF BULK AT MOST 1048576: true; the input reads as it did. -/
def classNextUptoRow : OpenClaim := { program := "ytbjchfhglnepiaa", sum := "033e17e1b55e1735c167d957828af3398a5acca5c8b6570ca15d6e3a016b90a7", func := "lockstitch/lockstitchlaw13.ClassNext", spec := "classNext", apart := false, narrowed := true }
def ClassNextUptoSaid : Prop := classNextUptoRow.holds Try.pinned (OpenSpec.upto classNextSpec)

/-- 'lockstitchlaw15.ListCalls', WHERE WHAT IT READS IS OF BULK AT MOST 1048576: true; the input reads as it did. -/
def listCallsUptoRow : OpenClaim := { program := "ytbjchfhglnepiaa", sum := "033e17e1b55e1735c167d957828af3398a5acca5c8b6570ca15d6e3a016b90a7", func := "lockstitch/lockstitchlaw15.ListCalls", spec := "listCalls", unfollowed := true, recurses := true, apart := false, narrowed := true }
def ListCallsUptoSaid : Prop := listCallsUptoRow.holds Try.pinned (OpenSpec.upto listCallsSpec)

/-- 'lockstitchlaw15.ListRow', WHERE WHAT IT READS IS OF BULK AT MOST 1048576: true; the input reads as it did. -/
def listRowUptoRow : OpenClaim := { program := "ytbjchfhglnepiaa", sum := "033e17e1b55e1735c167d957828af3398a5acca5c8b6570ca15d6e3a016b90a7", func := "lockstitch/lockstitchlaw15.ListRow", spec := "listRow", unfollowed := true, recurses := true, apart := false, narrowed := true }
def ListRowUptoSaid : Prop := listRowUptoRow.holds Try.pinned (OpenSpec.upto listRowSpec)

/-- 'lockstitchlaw15.ListBack', WHERE WHAT IT READS IS OF BULK AT MOST 1048576: true; the input reads as it did. -/
def listBackUptoRow : OpenClaim := { program := "ytbjchfhglnepiaa", sum := "033e17e1b55e1735c167d957828af3398a5acca5c8b6570ca15d6e3a016b90a7", func := "lockstitch/lockstitchlaw15.ListBack", spec := "listBack", unfollowed := true, recurses := true, apart := false, narrowed := true }
def ListBackUptoSaid : Prop := listBackUptoRow.holds Try.pinned (OpenSpec.upto listBackSpec)

/-- 'lockstitchlaw15.ListCounts', WHERE WHAT IT READS IS OF BULK AT MOST 1048576: true; the input reads as it did. -/
def listCountsUptoRow : OpenClaim := { program := "ytbjchfhglnepiaa", sum := "033e17e1b55e1735c167d957828af3398a5acca5c8b6570ca15d6e3a016b90a7", func := "lockstitch/lockstitchlaw15.ListCounts", spec := "listCounts", unfollowed := true, recurses := true, apart := false, narrowed := true }
def ListCountsUptoSaid : Prop := listCountsUptoRow.holds Try.pinned (OpenSpec.upto listCountsSpec)

/-- 'lockstitchlaw15.ListCuts', WHERE WHAT IT READS IS OF BULK AT MOST 1048576: true; the input reads as it did. -/
def listCutsUptoRow : OpenClaim := { program := "ytbjchfhglnepiaa", sum := "033e17e1b55e1735c167d957828af3398a5acca5c8b6570ca15d6e3a016b90a7", func := "lockstitch/lockstitchlaw15.ListCuts", spec := "listCuts", unfollowed := true, recurses := true, apart := false, narrowed := true }
def ListCutsUptoSaid : Prop := listCutsUptoRow.holds Try.pinned (OpenSpec.upto listCutsSpec)

end Rows
end Go.Proofs.Ytbjchfhglnepiaa

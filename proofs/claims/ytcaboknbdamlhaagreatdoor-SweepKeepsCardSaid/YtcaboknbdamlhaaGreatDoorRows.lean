/-
  NARROWER THAN 'FOR EVERY INPUT', by the rows' own cells (each row's printed sentence says how): SweepActs: laid · SweepKeeps: laid · SweepFull: laid · SweepEnds: laid · SweepPuts: laid · SweepMade: laid.
  DERIVED. THE GIVEN ROWS OF THIS SEAT. 6 by the template 'for every input the law returns true; each argument reads behind the call as it read before'; 0 by the template 'total and deterministic' (their statements: YtcaboknbdamlhaaGreatDoorTotals.lean).
  GIVEN WITH THE SEED: the statements are not yours to turn. If you find one false, say at which input.
  Laid BY PROGRAM, IN A SANDBOX (cutbox-rows.mjs): the forced cells as the released guide's own fill.sh prints them over the translation 03a6a6a0bec4a222… (all of the seat's roots in one cut). By AI agents, Wed Nov 11 2026. No macro, syntax, notation, axiom, sorry.
-/
import Derived.Test.YtcaboknbdamlhaaGreatDoorChecked
import GoSem.Claim
import GoSem.ClaimJoined
import GoSem.ClaimMapViews
import Derived.JoinedTies
import Derived.KernelRfl
namespace Go.Proofs.YtcaboknbdamlhaaGreatDoor
/- THE CELL 'sum', in the pinned program and in every row, IS THE sha256 OF THE DUMP (.gsa) THAT YtcaboknbdamlhaaGreatDoorProg.lean LOADS. Nothing in Lean hashes anything: it is a label: what it is worth is what the hold of that sum in a sandbox is worth. -/
noncomputable def Tryz.pinned : Pinned := { name := "ytcaboknbdamlhaagreatdoor", sum := "03a6a6a0bec4a2227d3763d67ae5b3d890fb6b44db17505c9eca7513297bb65b", checked := Tryz.checked }
namespace Rows
def none {H : Type} : Left H := { results := [], args := [] }

/- WHAT THE LISTED PACKAGE-LEVEL VARIABLES READ AS WHEN THE CALL BEGINS. Each datum BY PROGRAM (the guide's laid-datum.mjs) off the statement by which the dump's own 'gosem.cut.vars' lays the variable. In a bare row this is a premise. The card (YtcaboknbdamlhaaGreatDoorCards.lean) ties it to the program's text. -/
def laid_math_bits_deBruijn64tab {H : Type} : DataW H := .agg [.lit (.int .u8 0), .lit (.int .u8 1), .lit (.int .u8 56), .lit (.int .u8 2), .lit (.int .u8 57), .lit (.int .u8 49), .lit (.int .u8 28), .lit (.int .u8 3), .lit (.int .u8 61), .lit (.int .u8 58), .lit (.int .u8 42), .lit (.int .u8 50), .lit (.int .u8 38), .lit (.int .u8 29), .lit (.int .u8 17), .lit (.int .u8 4), .lit (.int .u8 62), .lit (.int .u8 47), .lit (.int .u8 59), .lit (.int .u8 36), .lit (.int .u8 45), .lit (.int .u8 43), .lit (.int .u8 51), .lit (.int .u8 22), .lit (.int .u8 53), .lit (.int .u8 39), .lit (.int .u8 33), .lit (.int .u8 30), .lit (.int .u8 24), .lit (.int .u8 18), .lit (.int .u8 12), .lit (.int .u8 5), .lit (.int .u8 63), .lit (.int .u8 55), .lit (.int .u8 48), .lit (.int .u8 27), .lit (.int .u8 60), .lit (.int .u8 41), .lit (.int .u8 37), .lit (.int .u8 16), .lit (.int .u8 46), .lit (.int .u8 35), .lit (.int .u8 44), .lit (.int .u8 21), .lit (.int .u8 52), .lit (.int .u8 32), .lit (.int .u8 23), .lit (.int .u8 11), .lit (.int .u8 54), .lit (.int .u8 26), .lit (.int .u8 40), .lit (.int .u8 15), .lit (.int .u8 34), .lit (.int .u8 20), .lit (.int .u8 31), .lit (.int .u8 10), .lit (.int .u8 25), .lit (.int .u8 14), .lit (.int .u8 19), .lit (.int .u8 9), .lit (.int .u8 13), .lit (.int .u8 8), .lit (.int .u8 7), .lit (.int .u8 6)]

/-- 'lockstitchlaw18.SweepActs': WHATEVER THE INPUT: true; the input reads as it did. -/
def sweepActsSpec : ChangeSpec := { name := "sweepActs", fn := fun _ => fun
  | [d1, d2] => { results := [.lit (.bool true)], args := [d1, d2] }
  | _ => none }
def sweepActsRow : OpenClaim := { program := "ytcaboknbdamlhaagreatdoor", sum := "03a6a6a0bec4a2227d3763d67ae5b3d890fb6b44db17505c9eca7513297bb65b", func := "lockstitch/lockstitchlaw18.SweepActs", spec := "sweepActs", unfollowed := true, recurses := true, named := ["math/bits.deBruijn64tab"], plainKeys := false, apart := false, laid := [("math/bits.deBruijn64tab", laid_math_bits_deBruijn64tab)] }
def SweepActsSaid : Prop := sweepActsRow.holds Tryz.pinned (OpenSpec.ofChange sweepActsSpec)

/-- ITS FALSE NEIGHBOUR: 'it returns false'. Refute it at one input. -/
def sweepActsWrong : ChangeSpec := { name := "sweepActs", fn := fun _ => fun
  | [d1, d2] => { results := [.lit (.bool false)], args := [d1, d2] }
  | _ => none }
def SweepActsWrongFalsely : Prop := sweepActsRow.holds Tryz.pinned (OpenSpec.ofChange sweepActsWrong)

/-- 'lockstitchlaw18.SweepKeeps': WHATEVER THE INPUT: true; the input reads as it did. -/
def sweepKeepsSpec : ChangeSpec := { name := "sweepKeeps", fn := fun _ => fun
  | [d1, d2, d3] => { results := [.lit (.bool true)], args := [d1, d2, d3] }
  | _ => none }
def sweepKeepsRow : OpenClaim := { program := "ytcaboknbdamlhaagreatdoor", sum := "03a6a6a0bec4a2227d3763d67ae5b3d890fb6b44db17505c9eca7513297bb65b", func := "lockstitch/lockstitchlaw18.SweepKeeps", spec := "sweepKeeps", unfollowed := true, recurses := true, named := ["math/bits.deBruijn64tab"], plainKeys := false, apart := false, laid := [("math/bits.deBruijn64tab", laid_math_bits_deBruijn64tab)] }
def SweepKeepsSaid : Prop := sweepKeepsRow.holds Tryz.pinned (OpenSpec.ofChange sweepKeepsSpec)

/-- ITS FALSE NEIGHBOUR: 'it returns false'. Refute it at one input. -/
def sweepKeepsWrong : ChangeSpec := { name := "sweepKeeps", fn := fun _ => fun
  | [d1, d2, d3] => { results := [.lit (.bool false)], args := [d1, d2, d3] }
  | _ => none }
def SweepKeepsWrongFalsely : Prop := sweepKeepsRow.holds Tryz.pinned (OpenSpec.ofChange sweepKeepsWrong)

/-- 'lockstitchlaw18.SweepFull': WHATEVER THE INPUT: true; the input reads as it did. -/
def sweepFullSpec : ChangeSpec := { name := "sweepFull", fn := fun _ => fun
  | [d1, d2, d3] => { results := [.lit (.bool true)], args := [d1, d2, d3] }
  | _ => none }
def sweepFullRow : OpenClaim := { program := "ytcaboknbdamlhaagreatdoor", sum := "03a6a6a0bec4a2227d3763d67ae5b3d890fb6b44db17505c9eca7513297bb65b", func := "lockstitch/lockstitchlaw18.SweepFull", spec := "sweepFull", unfollowed := true, recurses := true, named := ["math/bits.deBruijn64tab"], plainKeys := false, apart := false, laid := [("math/bits.deBruijn64tab", laid_math_bits_deBruijn64tab)] }
def SweepFullSaid : Prop := sweepFullRow.holds Tryz.pinned (OpenSpec.ofChange sweepFullSpec)

/-- ITS FALSE NEIGHBOUR: 'it returns false'. Refute it at one input. -/
def sweepFullWrong : ChangeSpec := { name := "sweepFull", fn := fun _ => fun
  | [d1, d2, d3] => { results := [.lit (.bool false)], args := [d1, d2, d3] }
  | _ => none }
def SweepFullWrongFalsely : Prop := sweepFullRow.holds Tryz.pinned (OpenSpec.ofChange sweepFullWrong)

/-- 'lockstitchlaw18.SweepEnds': WHATEVER THE INPUT: true; the input reads as it did. -/
def sweepEndsSpec : ChangeSpec := { name := "sweepEnds", fn := fun _ => fun
  | [d1, d2] => { results := [.lit (.bool true)], args := [d1, d2] }
  | _ => none }
def sweepEndsRow : OpenClaim := { program := "ytcaboknbdamlhaagreatdoor", sum := "03a6a6a0bec4a2227d3763d67ae5b3d890fb6b44db17505c9eca7513297bb65b", func := "lockstitch/lockstitchlaw18.SweepEnds", spec := "sweepEnds", unfollowed := true, recurses := true, named := ["math/bits.deBruijn64tab"], plainKeys := false, apart := false, laid := [("math/bits.deBruijn64tab", laid_math_bits_deBruijn64tab)] }
def SweepEndsSaid : Prop := sweepEndsRow.holds Tryz.pinned (OpenSpec.ofChange sweepEndsSpec)

/-- ITS FALSE NEIGHBOUR: 'it returns false'. Refute it at one input. -/
def sweepEndsWrong : ChangeSpec := { name := "sweepEnds", fn := fun _ => fun
  | [d1, d2] => { results := [.lit (.bool false)], args := [d1, d2] }
  | _ => none }
def SweepEndsWrongFalsely : Prop := sweepEndsRow.holds Tryz.pinned (OpenSpec.ofChange sweepEndsWrong)

/-- 'lockstitchlaw18.SweepPuts': WHATEVER THE INPUT: true; the input reads as it did. -/
def sweepPutsSpec : ChangeSpec := { name := "sweepPuts", fn := fun _ => fun
  | [d1, d2, d3] => { results := [.lit (.bool true)], args := [d1, d2, d3] }
  | _ => none }
def sweepPutsRow : OpenClaim := { program := "ytcaboknbdamlhaagreatdoor", sum := "03a6a6a0bec4a2227d3763d67ae5b3d890fb6b44db17505c9eca7513297bb65b", func := "lockstitch/lockstitchlaw18.SweepPuts", spec := "sweepPuts", unfollowed := true, recurses := true, named := ["math/bits.deBruijn64tab"], plainKeys := false, apart := false, laid := [("math/bits.deBruijn64tab", laid_math_bits_deBruijn64tab)] }
def SweepPutsSaid : Prop := sweepPutsRow.holds Tryz.pinned (OpenSpec.ofChange sweepPutsSpec)

/-- ITS FALSE NEIGHBOUR: 'it returns false'. Refute it at one input. -/
def sweepPutsWrong : ChangeSpec := { name := "sweepPuts", fn := fun _ => fun
  | [d1, d2, d3] => { results := [.lit (.bool false)], args := [d1, d2, d3] }
  | _ => none }
def SweepPutsWrongFalsely : Prop := sweepPutsRow.holds Tryz.pinned (OpenSpec.ofChange sweepPutsWrong)

/-- 'lockstitchlaw18.SweepMade': WHATEVER THE INPUT: true; the input reads as it did. -/
def sweepMadeSpec : ChangeSpec := { name := "sweepMade", fn := fun _ => fun
  | [d1, d2] => { results := [.lit (.bool true)], args := [d1, d2] }
  | _ => none }
def sweepMadeRow : OpenClaim := { program := "ytcaboknbdamlhaagreatdoor", sum := "03a6a6a0bec4a2227d3763d67ae5b3d890fb6b44db17505c9eca7513297bb65b", func := "lockstitch/lockstitchlaw18.SweepMade", spec := "sweepMade", unfollowed := true, recurses := true, named := ["math/bits.deBruijn64tab"], plainKeys := false, apart := false, laid := [("math/bits.deBruijn64tab", laid_math_bits_deBruijn64tab)] }
def SweepMadeSaid : Prop := sweepMadeRow.holds Tryz.pinned (OpenSpec.ofChange sweepMadeSpec)

/-- ITS FALSE NEIGHBOUR: 'it returns false'. Refute it at one input. -/
def sweepMadeWrong : ChangeSpec := { name := "sweepMade", fn := fun _ => fun
  | [d1, d2] => { results := [.lit (.bool false)], args := [d1, d2] }
  | _ => none }
def SweepMadeWrongFalsely : Prop := sweepMadeRow.holds Tryz.pinned (OpenSpec.ofChange sweepMadeWrong)

/- THE SECOND FORM. 'bulk': how many values and letters a reading holds, each counted each time it is reached (what is shared counts as often as it is met; a slice's spare places count too). A statement '..UptoSaid' is the law's where the arguments, and the package variables that the reading takes, are together of bulk at most 1048576: NARROWER than '..Said'. Prove '..Said' where nothing that the law and all that it calls make is longer than what came in: it says more and counts as full. Else prove '..UptoSaid'. A law counts once. -/
mutual
def uptoBulk {H : Type} : DataW H → Nat
  | .lit (.string bytes) => bytes.length + 1
  | .lit _ => 1
  | .nil => 1
  | .ptr d => uptoBulk d + 1
  | .slice elems spare => uptoBulkAll elems + uptoBulkAll spare + 1
  | .agg parts => uptoBulkAll parts + 1
  | .iface _ d => uptoBulk d + 1
  | .map entries => uptoBulkEntries entries + 1
  | .held _ => 1
def uptoBulkAll {H : Type} : List (DataW H) → Nat
  | [] => 0
  | d :: r => uptoBulk d + uptoBulkAll r
def uptoBulkEntries {H : Type} : List (Lit × DataW H) → Nat
  | [] => 0
  | x :: r => uptoBulkEntry x + uptoBulkEntries r
def uptoBulkEntry {H : Type} : Lit × DataW H → Nat
  | (.string bytes, d) => bytes.length + uptoBulk d + 1
  | (_, d) => uptoBulk d + 1
 end
def uptoSmall : (H : Type) → List (DataW H) → Bool := fun _ ds => decide (uptoBulkAll ds ≤ 1048576)
def OpenSpec.upto (s : _root_.Go.ChangeSpec) : _root_.Go.OpenSpec := { _root_.Go.OpenSpec.ofChange s with cond := some uptoSmall }

/-- 'lockstitchlaw18.SweepActs', WHERE WHAT IT READS IS OF BULK AT MOST 1048576: true; the input reads as it did. -/
def sweepActsUptoRow : OpenClaim := { program := "ytcaboknbdamlhaagreatdoor", sum := "03a6a6a0bec4a2227d3763d67ae5b3d890fb6b44db17505c9eca7513297bb65b", func := "lockstitch/lockstitchlaw18.SweepActs", spec := "sweepActs", unfollowed := true, recurses := true, named := ["math/bits.deBruijn64tab"], plainKeys := false, apart := false, laid := [("math/bits.deBruijn64tab", laid_math_bits_deBruijn64tab)], narrowed := true }
def SweepActsUptoSaid : Prop := sweepActsUptoRow.holds Tryz.pinned (OpenSpec.upto sweepActsSpec)

/-- 'lockstitchlaw18.SweepKeeps', WHERE WHAT IT READS IS OF BULK AT MOST 1048576: true; the input reads as it did. -/
def sweepKeepsUptoRow : OpenClaim := { program := "ytcaboknbdamlhaagreatdoor", sum := "03a6a6a0bec4a2227d3763d67ae5b3d890fb6b44db17505c9eca7513297bb65b", func := "lockstitch/lockstitchlaw18.SweepKeeps", spec := "sweepKeeps", unfollowed := true, recurses := true, named := ["math/bits.deBruijn64tab"], plainKeys := false, apart := false, laid := [("math/bits.deBruijn64tab", laid_math_bits_deBruijn64tab)], narrowed := true }
def SweepKeepsUptoSaid : Prop := sweepKeepsUptoRow.holds Tryz.pinned (OpenSpec.upto sweepKeepsSpec)

/-- 'lockstitchlaw18.SweepFull', WHERE WHAT IT READS IS OF BULK AT MOST 1048576: true; the input reads as it did. -/
def sweepFullUptoRow : OpenClaim := { program := "ytcaboknbdamlhaagreatdoor", sum := "03a6a6a0bec4a2227d3763d67ae5b3d890fb6b44db17505c9eca7513297bb65b", func := "lockstitch/lockstitchlaw18.SweepFull", spec := "sweepFull", unfollowed := true, recurses := true, named := ["math/bits.deBruijn64tab"], plainKeys := false, apart := false, laid := [("math/bits.deBruijn64tab", laid_math_bits_deBruijn64tab)], narrowed := true }
def SweepFullUptoSaid : Prop := sweepFullUptoRow.holds Tryz.pinned (OpenSpec.upto sweepFullSpec)

/-- 'lockstitchlaw18.SweepEnds', WHERE WHAT IT READS IS OF BULK AT MOST 1048576: true; the input reads as it did. -/
def sweepEndsUptoRow : OpenClaim := { program := "ytcaboknbdamlhaagreatdoor", sum := "03a6a6a0bec4a2227d3763d67ae5b3d890fb6b44db17505c9eca7513297bb65b", func := "lockstitch/lockstitchlaw18.SweepEnds", spec := "sweepEnds", unfollowed := true, recurses := true, named := ["math/bits.deBruijn64tab"], plainKeys := false, apart := false, laid := [("math/bits.deBruijn64tab", laid_math_bits_deBruijn64tab)], narrowed := true }
def SweepEndsUptoSaid : Prop := sweepEndsUptoRow.holds Tryz.pinned (OpenSpec.upto sweepEndsSpec)

/-- 'lockstitchlaw18.SweepPuts', WHERE WHAT IT READS IS OF BULK AT MOST 1048576: true; the input reads as it did. -/
def sweepPutsUptoRow : OpenClaim := { program := "ytcaboknbdamlhaagreatdoor", sum := "03a6a6a0bec4a2227d3763d67ae5b3d890fb6b44db17505c9eca7513297bb65b", func := "lockstitch/lockstitchlaw18.SweepPuts", spec := "sweepPuts", unfollowed := true, recurses := true, named := ["math/bits.deBruijn64tab"], plainKeys := false, apart := false, laid := [("math/bits.deBruijn64tab", laid_math_bits_deBruijn64tab)], narrowed := true }
def SweepPutsUptoSaid : Prop := sweepPutsUptoRow.holds Tryz.pinned (OpenSpec.upto sweepPutsSpec)

/-- 'lockstitchlaw18.SweepMade', WHERE WHAT IT READS IS OF BULK AT MOST 1048576: true; the input reads as it did. -/
def sweepMadeUptoRow : OpenClaim := { program := "ytcaboknbdamlhaagreatdoor", sum := "03a6a6a0bec4a2227d3763d67ae5b3d890fb6b44db17505c9eca7513297bb65b", func := "lockstitch/lockstitchlaw18.SweepMade", spec := "sweepMade", unfollowed := true, recurses := true, named := ["math/bits.deBruijn64tab"], plainKeys := false, apart := false, laid := [("math/bits.deBruijn64tab", laid_math_bits_deBruijn64tab)], narrowed := true }
def SweepMadeUptoSaid : Prop := sweepMadeUptoRow.holds Tryz.pinned (OpenSpec.upto sweepMadeSpec)

end Rows
end Go.Proofs.YtcaboknbdamlhaaGreatDoor

/-
  NARROWER THAN 'FOR EVERY INPUT', by the rows' own cells (each row's printed sentence says how): MarkReached: laid · MarkChanges: laid · MarkMore: laid · MarkOnce: laid · MarkActs: laid · MarkNobody: laid.
  DERIVED. THE GIVEN ROWS OF THIS SEAT. 6 by the template 'for every input the law returns true; each argument reads behind the call as it read before'; 0 by the template 'total and deterministic' (their statements: YtnoiepmapmcjdaaDoorTotals.lean).
  GIVEN WITH THE SEED: the statements are not yours to turn. If you find one false, say at which input.
  Laid BY PROGRAM, IN A SANDBOX (cutbox-rows.mjs): the forced cells as the released guide's own fill.sh prints them over the translation ebae472c386e9ab6… (all of the seat's roots in one cut). By AI agents, Wed Nov 11 2026. No macro, syntax, notation, axiom, sorry.
-/
import Derived.Test.YtnoiepmapmcjdaaDoorChecked
import GoSem.Claim
import GoSem.ClaimJoined
import GoSem.ClaimMapViews
import Derived.JoinedTies
import Derived.KernelRfl
namespace Go.Proofs.YtnoiepmapmcjdaaDoor
/- THE CELL 'sum', in the pinned program and in every row, IS THE sha256 OF THE DUMP (.gsa) THAT YtnoiepmapmcjdaaDoorProg.lean LOADS. Nothing in Lean hashes anything: it is a label: what it is worth is what the hold of that sum in a sandbox is worth. -/
noncomputable def Tryd.pinned : Pinned := { name := "ytnoiepmapmcjdaadoor", sum := "ebae472c386e9ab6fbe89ff28605b0fb170cd5f0fea338bc975970e462e42b22", checked := Tryd.checked }
namespace Rows
def none {H : Type} : Left H := { results := [], args := [] }

/- WHAT THE LISTED PACKAGE-LEVEL VARIABLES READ AS WHEN THE CALL BEGINS. Each datum BY PROGRAM (the guide's laid-datum.mjs) off the statement by which the dump's own 'gosem.cut.vars' lays the variable. In a bare row this is a premise. The card (YtnoiepmapmcjdaaDoorCards.lean) ties it to the program's text. -/
def laid_math_bits_deBruijn64tab {H : Type} : DataW H := .agg [.lit (.int .u8 0), .lit (.int .u8 1), .lit (.int .u8 56), .lit (.int .u8 2), .lit (.int .u8 57), .lit (.int .u8 49), .lit (.int .u8 28), .lit (.int .u8 3), .lit (.int .u8 61), .lit (.int .u8 58), .lit (.int .u8 42), .lit (.int .u8 50), .lit (.int .u8 38), .lit (.int .u8 29), .lit (.int .u8 17), .lit (.int .u8 4), .lit (.int .u8 62), .lit (.int .u8 47), .lit (.int .u8 59), .lit (.int .u8 36), .lit (.int .u8 45), .lit (.int .u8 43), .lit (.int .u8 51), .lit (.int .u8 22), .lit (.int .u8 53), .lit (.int .u8 39), .lit (.int .u8 33), .lit (.int .u8 30), .lit (.int .u8 24), .lit (.int .u8 18), .lit (.int .u8 12), .lit (.int .u8 5), .lit (.int .u8 63), .lit (.int .u8 55), .lit (.int .u8 48), .lit (.int .u8 27), .lit (.int .u8 60), .lit (.int .u8 41), .lit (.int .u8 37), .lit (.int .u8 16), .lit (.int .u8 46), .lit (.int .u8 35), .lit (.int .u8 44), .lit (.int .u8 21), .lit (.int .u8 52), .lit (.int .u8 32), .lit (.int .u8 23), .lit (.int .u8 11), .lit (.int .u8 54), .lit (.int .u8 26), .lit (.int .u8 40), .lit (.int .u8 15), .lit (.int .u8 34), .lit (.int .u8 20), .lit (.int .u8 31), .lit (.int .u8 10), .lit (.int .u8 25), .lit (.int .u8 14), .lit (.int .u8 19), .lit (.int .u8 9), .lit (.int .u8 13), .lit (.int .u8 8), .lit (.int .u8 7), .lit (.int .u8 6)]

/-- 'lockstitchlaw17.MarkReached': WHATEVER THE INPUT: true; the input reads as it did. -/
def markReachedSpec : ChangeSpec := { name := "markReached", fn := fun _ => fun
  | [d1, d2, d3] => { results := [.lit (.bool true)], args := [d1, d2, d3] }
  | _ => none }
def markReachedRow : OpenClaim := { program := "ytnoiepmapmcjdaadoor", sum := "ebae472c386e9ab6fbe89ff28605b0fb170cd5f0fea338bc975970e462e42b22", func := "lockstitch/lockstitchlaw17.MarkReached", spec := "markReached", unfollowed := true, recurses := true, named := ["math/bits.deBruijn64tab"], apart := false, laid := [("math/bits.deBruijn64tab", laid_math_bits_deBruijn64tab)] }
def MarkReachedSaid : Prop := markReachedRow.holds Tryd.pinned (OpenSpec.ofChange markReachedSpec)

/-- ITS FALSE NEIGHBOUR: 'it returns false'. Refute it at one input. -/
def markReachedWrong : ChangeSpec := { name := "markReached", fn := fun _ => fun
  | [d1, d2, d3] => { results := [.lit (.bool false)], args := [d1, d2, d3] }
  | _ => none }
def MarkReachedWrongFalsely : Prop := markReachedRow.holds Tryd.pinned (OpenSpec.ofChange markReachedWrong)

/-- 'lockstitchlaw17.MarkChanges': WHATEVER THE INPUT: true; the input reads as it did. -/
def markChangesSpec : ChangeSpec := { name := "markChanges", fn := fun _ => fun
  | [d1, d2, d3] => { results := [.lit (.bool true)], args := [d1, d2, d3] }
  | _ => none }
def markChangesRow : OpenClaim := { program := "ytnoiepmapmcjdaadoor", sum := "ebae472c386e9ab6fbe89ff28605b0fb170cd5f0fea338bc975970e462e42b22", func := "lockstitch/lockstitchlaw17.MarkChanges", spec := "markChanges", unfollowed := true, recurses := true, named := ["math/bits.deBruijn64tab"], apart := false, laid := [("math/bits.deBruijn64tab", laid_math_bits_deBruijn64tab)] }
def MarkChangesSaid : Prop := markChangesRow.holds Tryd.pinned (OpenSpec.ofChange markChangesSpec)

/-- ITS FALSE NEIGHBOUR: 'it returns false'. Refute it at one input. -/
def markChangesWrong : ChangeSpec := { name := "markChanges", fn := fun _ => fun
  | [d1, d2, d3] => { results := [.lit (.bool false)], args := [d1, d2, d3] }
  | _ => none }
def MarkChangesWrongFalsely : Prop := markChangesRow.holds Tryd.pinned (OpenSpec.ofChange markChangesWrong)

/-- 'lockstitchlaw17.MarkMore': WHATEVER THE INPUT: true; the input reads as it did. -/
def markMoreSpec : ChangeSpec := { name := "markMore", fn := fun _ => fun
  | [d1, d2, d3] => { results := [.lit (.bool true)], args := [d1, d2, d3] }
  | _ => none }
def markMoreRow : OpenClaim := { program := "ytnoiepmapmcjdaadoor", sum := "ebae472c386e9ab6fbe89ff28605b0fb170cd5f0fea338bc975970e462e42b22", func := "lockstitch/lockstitchlaw17.MarkMore", spec := "markMore", unfollowed := true, recurses := true, named := ["math/bits.deBruijn64tab"], apart := false, laid := [("math/bits.deBruijn64tab", laid_math_bits_deBruijn64tab)] }
def MarkMoreSaid : Prop := markMoreRow.holds Tryd.pinned (OpenSpec.ofChange markMoreSpec)

/-- ITS FALSE NEIGHBOUR: 'it returns false'. Refute it at one input. -/
def markMoreWrong : ChangeSpec := { name := "markMore", fn := fun _ => fun
  | [d1, d2, d3] => { results := [.lit (.bool false)], args := [d1, d2, d3] }
  | _ => none }
def MarkMoreWrongFalsely : Prop := markMoreRow.holds Tryd.pinned (OpenSpec.ofChange markMoreWrong)

/-- 'lockstitchlaw17.MarkOnce': WHATEVER THE INPUT: true; the input reads as it did. -/
def markOnceSpec : ChangeSpec := { name := "markOnce", fn := fun _ => fun
  | [d1, d2, d3] => { results := [.lit (.bool true)], args := [d1, d2, d3] }
  | _ => none }
def markOnceRow : OpenClaim := { program := "ytnoiepmapmcjdaadoor", sum := "ebae472c386e9ab6fbe89ff28605b0fb170cd5f0fea338bc975970e462e42b22", func := "lockstitch/lockstitchlaw17.MarkOnce", spec := "markOnce", unfollowed := true, recurses := true, named := ["math/bits.deBruijn64tab"], apart := false, laid := [("math/bits.deBruijn64tab", laid_math_bits_deBruijn64tab)] }
def MarkOnceSaid : Prop := markOnceRow.holds Tryd.pinned (OpenSpec.ofChange markOnceSpec)

/-- ITS FALSE NEIGHBOUR: 'it returns false'. Refute it at one input. -/
def markOnceWrong : ChangeSpec := { name := "markOnce", fn := fun _ => fun
  | [d1, d2, d3] => { results := [.lit (.bool false)], args := [d1, d2, d3] }
  | _ => none }
def MarkOnceWrongFalsely : Prop := markOnceRow.holds Tryd.pinned (OpenSpec.ofChange markOnceWrong)

/-- 'lockstitchlaw17.MarkActs': WHATEVER THE INPUT: true; the input reads as it did. -/
def markActsSpec : ChangeSpec := { name := "markActs", fn := fun _ => fun
  | [d1, d2] => { results := [.lit (.bool true)], args := [d1, d2] }
  | _ => none }
def markActsRow : OpenClaim := { program := "ytnoiepmapmcjdaadoor", sum := "ebae472c386e9ab6fbe89ff28605b0fb170cd5f0fea338bc975970e462e42b22", func := "lockstitch/lockstitchlaw17.MarkActs", spec := "markActs", unfollowed := true, recurses := true, named := ["math/bits.deBruijn64tab"], apart := false, laid := [("math/bits.deBruijn64tab", laid_math_bits_deBruijn64tab)] }
def MarkActsSaid : Prop := markActsRow.holds Tryd.pinned (OpenSpec.ofChange markActsSpec)

/-- ITS FALSE NEIGHBOUR: 'it returns false'. Refute it at one input. -/
def markActsWrong : ChangeSpec := { name := "markActs", fn := fun _ => fun
  | [d1, d2] => { results := [.lit (.bool false)], args := [d1, d2] }
  | _ => none }
def MarkActsWrongFalsely : Prop := markActsRow.holds Tryd.pinned (OpenSpec.ofChange markActsWrong)

/-- 'lockstitchlaw17.MarkNobody': WHATEVER THE INPUT: true; the input reads as it did. -/
def markNobodySpec : ChangeSpec := { name := "markNobody", fn := fun _ => fun
  | [d] => { results := [.lit (.bool true)], args := [d] }
  | _ => none }
def markNobodyRow : OpenClaim := { program := "ytnoiepmapmcjdaadoor", sum := "ebae472c386e9ab6fbe89ff28605b0fb170cd5f0fea338bc975970e462e42b22", func := "lockstitch/lockstitchlaw17.MarkNobody", spec := "markNobody", unfollowed := true, recurses := true, named := ["math/bits.deBruijn64tab"], apart := false, laid := [("math/bits.deBruijn64tab", laid_math_bits_deBruijn64tab)] }
def MarkNobodySaid : Prop := markNobodyRow.holds Tryd.pinned (OpenSpec.ofChange markNobodySpec)

/-- ITS FALSE NEIGHBOUR: 'it returns false'. Refute it at one input. -/
def markNobodyWrong : ChangeSpec := { name := "markNobody", fn := fun _ => fun
  | [d] => { results := [.lit (.bool false)], args := [d] }
  | _ => none }
def MarkNobodyWrongFalsely : Prop := markNobodyRow.holds Tryd.pinned (OpenSpec.ofChange markNobodyWrong)

/- THE SECOND FORM. 'bulk': how many values and letters a reading holds, each counted each time it is reached (what is shared counts as often as it is met; a slice's spare places count too). A statement '..UptoSaid' is the law's where the arguments, and the package variables that the reading takes, are together of bulk at most 1048576: NARROWER than '..Said'. Prove '..Said' where nothing that the law and all that it calls make is longer than what came in: it says more and counts as full. Else prove '..UptoSaid'. A law counts once. -/
mutual
def uptoBulk {H : Type} : DataW H → Nat
  | .lit (.string bytes) => bytes.length + 1
  | .lit _ => 1
  | .nil => 1
  | .ptr d => uptoBulk d + 1
  | .slice elems spare => uptoBulkAll elems + uptoBulkAll spare + 1
  | .agg parts => uptoBulkAll parts + 1
  | .iface _ d => uptoBulk d + 1
  | .map entries => uptoBulkEntries entries + 1
  | .held _ => 1
def uptoBulkAll {H : Type} : List (DataW H) → Nat
  | [] => 0
  | d :: r => uptoBulk d + uptoBulkAll r
def uptoBulkEntries {H : Type} : List (Lit × DataW H) → Nat
  | [] => 0
  | x :: r => uptoBulkEntry x + uptoBulkEntries r
def uptoBulkEntry {H : Type} : Lit × DataW H → Nat
  | (.string bytes, d) => bytes.length + uptoBulk d + 1
  | (_, d) => uptoBulk d + 1
 end
def uptoSmall : (H : Type) → List (DataW H) → Bool := fun _ ds => decide (uptoBulkAll ds ≤ 1048576)
def OpenSpec.upto (s : _root_.Go.ChangeSpec) : _root_.Go.OpenSpec := { _root_.Go.OpenSpec.ofChange s with cond := some uptoSmall }

/-- 'lockstitchlaw17.MarkReached', WHERE WHAT IT READS IS OF BULK AT MOST 1048576: true; the input reads as it did. -/
def markReachedUptoRow : OpenClaim := { program := "ytnoiepmapmcjdaadoor", sum := "ebae472c386e9ab6fbe89ff28605b0fb170cd5f0fea338bc975970e462e42b22", func := "lockstitch/lockstitchlaw17.MarkReached", spec := "markReached", unfollowed := true, recurses := true, named := ["math/bits.deBruijn64tab"], apart := false, laid := [("math/bits.deBruijn64tab", laid_math_bits_deBruijn64tab)], narrowed := true }
def MarkReachedUptoSaid : Prop := markReachedUptoRow.holds Tryd.pinned (OpenSpec.upto markReachedSpec)

/-- 'lockstitchlaw17.MarkChanges', WHERE WHAT IT READS IS OF BULK AT MOST 1048576: true; the input reads as it did. -/
def markChangesUptoRow : OpenClaim := { program := "ytnoiepmapmcjdaadoor", sum := "ebae472c386e9ab6fbe89ff28605b0fb170cd5f0fea338bc975970e462e42b22", func := "lockstitch/lockstitchlaw17.MarkChanges", spec := "markChanges", unfollowed := true, recurses := true, named := ["math/bits.deBruijn64tab"], apart := false, laid := [("math/bits.deBruijn64tab", laid_math_bits_deBruijn64tab)], narrowed := true }
def MarkChangesUptoSaid : Prop := markChangesUptoRow.holds Tryd.pinned (OpenSpec.upto markChangesSpec)

/-- 'lockstitchlaw17.MarkMore', WHERE WHAT IT READS IS OF BULK AT MOST 1048576: true; the input reads as it did. -/
def markMoreUptoRow : OpenClaim := { program := "ytnoiepmapmcjdaadoor", sum := "ebae472c386e9ab6fbe89ff28605b0fb170cd5f0fea338bc975970e462e42b22", func := "lockstitch/lockstitchlaw17.MarkMore", spec := "markMore", unfollowed := true, recurses := true, named := ["math/bits.deBruijn64tab"], apart := false, laid := [("math/bits.deBruijn64tab", laid_math_bits_deBruijn64tab)], narrowed := true }
def MarkMoreUptoSaid : Prop := markMoreUptoRow.holds Tryd.pinned (OpenSpec.upto markMoreSpec)

/-- 'lockstitchlaw17.MarkOnce', WHERE WHAT IT READS IS OF BULK AT MOST 1048576: true; the input reads as it did. -/
def markOnceUptoRow : OpenClaim := { program := "ytnoiepmapmcjdaadoor", sum := "ebae472c386e9ab6fbe89ff28605b0fb170cd5f0fea338bc975970e462e42b22", func := "lockstitch/lockstitchlaw17.MarkOnce", spec := "markOnce", unfollowed := true, recurses := true, named := ["math/bits.deBruijn64tab"], apart := false, laid := [("math/bits.deBruijn64tab", laid_math_bits_deBruijn64tab)], narrowed := true }
def MarkOnceUptoSaid : Prop := markOnceUptoRow.holds Tryd.pinned (OpenSpec.upto markOnceSpec)

/-- 'lockstitchlaw17.MarkActs', WHERE WHAT IT READS IS OF BULK AT MOST 1048576: true; the input reads as it did. -/
def markActsUptoRow : OpenClaim := { program := "ytnoiepmapmcjdaadoor", sum := "ebae472c386e9ab6fbe89ff28605b0fb170cd5f0fea338bc975970e462e42b22", func := "lockstitch/lockstitchlaw17.MarkActs", spec := "markActs", unfollowed := true, recurses := true, named := ["math/bits.deBruijn64tab"], apart := false, laid := [("math/bits.deBruijn64tab", laid_math_bits_deBruijn64tab)], narrowed := true }
def MarkActsUptoSaid : Prop := markActsUptoRow.holds Tryd.pinned (OpenSpec.upto markActsSpec)

/-- 'lockstitchlaw17.MarkNobody', WHERE WHAT IT READS IS OF BULK AT MOST 1048576: true; the input reads as it did. -/
def markNobodyUptoRow : OpenClaim := { program := "ytnoiepmapmcjdaadoor", sum := "ebae472c386e9ab6fbe89ff28605b0fb170cd5f0fea338bc975970e462e42b22", func := "lockstitch/lockstitchlaw17.MarkNobody", spec := "markNobody", unfollowed := true, recurses := true, named := ["math/bits.deBruijn64tab"], apart := false, laid := [("math/bits.deBruijn64tab", laid_math_bits_deBruijn64tab)], narrowed := true }
def MarkNobodyUptoSaid : Prop := markNobodyUptoRow.holds Tryd.pinned (OpenSpec.upto markNobodySpec)

end Rows
end Go.Proofs.YtnoiepmapmcjdaaDoor

/-
  DERIVED. GIVEN WITH THE SEED: THE CARDS: each row of YtnoiepmapmcjdaaDoorRows.lean that lists a variable, with what it lists TIED to the program's text (the seventh form; the later family's looks); each row that meets fmt, with fmt's text TOLD by the authors' own Lean function (tested against real Go, not proved from fmt's source: count such statements apart). THE CARD IS WHAT COUNTS. Prove the row's statement (the work); the ties are given (YtnoiepmapmcjdaaDoorTie.lean); close each card by the builder's one call (the guide's Derived/Test/ToyasCard.lean, 'card_holds'). Laid BY PROGRAM, IN A SANDBOX (cutbox-door.mjs). By AI agents, Wed Nov 11 2026. No macro, syntax, notation, axiom, sorry.
-/
import Derived.Test.YtnoiepmapmcjdaaDoorRows
import GoSem.ClaimSeven
namespace Go.Proofs.YtnoiepmapmcjdaaDoor
namespace Rows

/-- THE TIED CARD OF 'lockstitchlaw17.MarkReached'. -/
def markReachedCard : Claim7 := { stood := { row := markReachedRow, standIns := [], harness := (true, "53cf56708b777eb3a7930c1386b0a7f57286ad57a074789a533e0f678e6075e9"), looks := false }, kinds := [], alts := [], laidByText := true, laidKinds := [.data], laidTests := true, laidLooks := .later }
def MarkReachedCardSaid : Prop := Claim7.holds Tryd.pinned (.plain (OpenSpec.ofChange markReachedSpec)) markReachedCard

/-- THE TIED CARD OF 'lockstitchlaw17.MarkChanges'. -/
def markChangesCard : Claim7 := { stood := { row := markChangesRow, standIns := [], harness := (true, "53cf56708b777eb3a7930c1386b0a7f57286ad57a074789a533e0f678e6075e9"), looks := false }, kinds := [], alts := [], laidByText := true, laidKinds := [.data], laidTests := true, laidLooks := .later }
def MarkChangesCardSaid : Prop := Claim7.holds Tryd.pinned (.plain (OpenSpec.ofChange markChangesSpec)) markChangesCard

/-- THE TIED CARD OF 'lockstitchlaw17.MarkMore'. -/
def markMoreCard : Claim7 := { stood := { row := markMoreRow, standIns := [], harness := (true, "53cf56708b777eb3a7930c1386b0a7f57286ad57a074789a533e0f678e6075e9"), looks := false }, kinds := [], alts := [], laidByText := true, laidKinds := [.data], laidTests := true, laidLooks := .later }
def MarkMoreCardSaid : Prop := Claim7.holds Tryd.pinned (.plain (OpenSpec.ofChange markMoreSpec)) markMoreCard

/-- THE TIED CARD OF 'lockstitchlaw17.MarkOnce'. -/
def markOnceCard : Claim7 := { stood := { row := markOnceRow, standIns := [], harness := (true, "53cf56708b777eb3a7930c1386b0a7f57286ad57a074789a533e0f678e6075e9"), looks := false }, kinds := [], alts := [], laidByText := true, laidKinds := [.data], laidTests := true, laidLooks := .later }
def MarkOnceCardSaid : Prop := Claim7.holds Tryd.pinned (.plain (OpenSpec.ofChange markOnceSpec)) markOnceCard

/-- THE TIED CARD OF 'lockstitchlaw17.MarkActs'. -/
def markActsCard : Claim7 := { stood := { row := markActsRow, standIns := [], harness := (true, "53cf56708b777eb3a7930c1386b0a7f57286ad57a074789a533e0f678e6075e9"), looks := false }, kinds := [], alts := [], laidByText := true, laidKinds := [.data], laidTests := true, laidLooks := .later }
def MarkActsCardSaid : Prop := Claim7.holds Tryd.pinned (.plain (OpenSpec.ofChange markActsSpec)) markActsCard

/-- THE TIED CARD OF 'lockstitchlaw17.MarkNobody'. -/
def markNobodyCard : Claim7 := { stood := { row := markNobodyRow, standIns := [], harness := (true, "53cf56708b777eb3a7930c1386b0a7f57286ad57a074789a533e0f678e6075e9"), looks := false }, kinds := [], alts := [], laidByText := true, laidKinds := [.data], laidTests := true, laidLooks := .later }
def MarkNobodyCardSaid : Prop := Claim7.holds Tryd.pinned (.plain (OpenSpec.ofChange markNobodySpec)) markNobodyCard

/-- THE SECOND FORM's CARD OF 'lockstitchlaw17.MarkReached'. -/
def markReachedUptoCard : Claim7 := { stood := { row := markReachedUptoRow, standIns := [], harness := (true, "53cf56708b777eb3a7930c1386b0a7f57286ad57a074789a533e0f678e6075e9"), looks := false }, kinds := [], alts := [], laidByText := true, laidKinds := [.data], laidTests := true, laidLooks := .later }
def MarkReachedUptoCardSaid : Prop := Claim7.holds Tryd.pinned (.plain (OpenSpec.upto markReachedSpec)) markReachedUptoCard

/-- THE SECOND FORM's CARD OF 'lockstitchlaw17.MarkChanges'. -/
def markChangesUptoCard : Claim7 := { stood := { row := markChangesUptoRow, standIns := [], harness := (true, "53cf56708b777eb3a7930c1386b0a7f57286ad57a074789a533e0f678e6075e9"), looks := false }, kinds := [], alts := [], laidByText := true, laidKinds := [.data], laidTests := true, laidLooks := .later }
def MarkChangesUptoCardSaid : Prop := Claim7.holds Tryd.pinned (.plain (OpenSpec.upto markChangesSpec)) markChangesUptoCard

/-- THE SECOND FORM's CARD OF 'lockstitchlaw17.MarkMore'. -/
def markMoreUptoCard : Claim7 := { stood := { row := markMoreUptoRow, standIns := [], harness := (true, "53cf56708b777eb3a7930c1386b0a7f57286ad57a074789a533e0f678e6075e9"), looks := false }, kinds := [], alts := [], laidByText := true, laidKinds := [.data], laidTests := true, laidLooks := .later }
def MarkMoreUptoCardSaid : Prop := Claim7.holds Tryd.pinned (.plain (OpenSpec.upto markMoreSpec)) markMoreUptoCard

/-- THE SECOND FORM's CARD OF 'lockstitchlaw17.MarkOnce'. -/
def markOnceUptoCard : Claim7 := { stood := { row := markOnceUptoRow, standIns := [], harness := (true, "53cf56708b777eb3a7930c1386b0a7f57286ad57a074789a533e0f678e6075e9"), looks := false }, kinds := [], alts := [], laidByText := true, laidKinds := [.data], laidTests := true, laidLooks := .later }
def MarkOnceUptoCardSaid : Prop := Claim7.holds Tryd.pinned (.plain (OpenSpec.upto markOnceSpec)) markOnceUptoCard

/-- THE SECOND FORM's CARD OF 'lockstitchlaw17.MarkActs'. -/
def markActsUptoCard : Claim7 := { stood := { row := markActsUptoRow, standIns := [], harness := (true, "53cf56708b777eb3a7930c1386b0a7f57286ad57a074789a533e0f678e6075e9"), looks := false }, kinds := [], alts := [], laidByText := true, laidKinds := [.data], laidTests := true, laidLooks := .later }
def MarkActsUptoCardSaid : Prop := Claim7.holds Tryd.pinned (.plain (OpenSpec.upto markActsSpec)) markActsUptoCard

/-- THE SECOND FORM's CARD OF 'lockstitchlaw17.MarkNobody'. -/
def markNobodyUptoCard : Claim7 := { stood := { row := markNobodyUptoRow, standIns := [], harness := (true, "53cf56708b777eb3a7930c1386b0a7f57286ad57a074789a533e0f678e6075e9"), looks := false }, kinds := [], alts := [], laidByText := true, laidKinds := [.data], laidTests := true, laidLooks := .later }
def MarkNobodyUptoCardSaid : Prop := Claim7.holds Tryd.pinned (.plain (OpenSpec.upto markNobodySpec)) markNobodyUptoCard
end Rows
end Go.Proofs.YtnoiepmapmcjdaaDoor

/-
  DERIVED. GIVEN WITH THE SEED: THE CARDS: each row of YtibmjednieopfaaDoorRows.lean that lists a variable, with what it lists TIED to the program's text (the seventh form; the later family's looks); each row that meets fmt, with fmt's text TOLD by the authors' own Lean function (tested against real Go, not proved from fmt's source: count such statements apart). THE CARD IS WHAT COUNTS. Prove the row's statement (the work); the ties are given (YtibmjednieopfaaDoorTie.lean); close each card by the builder's one call (the guide's Derived/Test/ToyasCard.lean, 'card_holds'). Laid BY PROGRAM, IN A SANDBOX (cutbox-door.mjs). By AI agents, Wed Nov 11 2026. No macro, syntax, notation, axiom, sorry.
-/
import Derived.Test.YtibmjednieopfaaDoorRows
import GoSem.ClaimSeven
namespace Go.Proofs.YtibmjednieopfaaDoor
namespace Rows

/-- THE TIED CARD OF 'lockstitchlaw14.BitsTells'. -/
def bitsTellsCard : Claim7 := { stood := { row := bitsTellsRow, standIns := [], harness := (true, "465a5125112231585f6a1b57a6defd894bf66030cfd27644dea79fbec04ab55e"), looks := false }, kinds := [], alts := [], laidByText := true, laidKinds := [.data], laidTests := true, laidLooks := .later }
def BitsTellsCardSaid : Prop := Claim7.holds Tryd.pinned (.plain (OpenSpec.ofChange bitsTellsSpec)) bitsTellsCard

/-- THE TIED CARD OF 'lockstitchlaw14.BitsThrough'. -/
def bitsThroughCard : Claim7 := { stood := { row := bitsThroughRow, standIns := [], harness := (true, "465a5125112231585f6a1b57a6defd894bf66030cfd27644dea79fbec04ab55e"), looks := false }, kinds := [], alts := [], laidByText := true, laidKinds := [.data], laidTests := true, laidLooks := .later }
def BitsThroughCardSaid : Prop := Claim7.holds Tryd.pinned (.plain (OpenSpec.ofChange bitsThroughSpec)) bitsThroughCard

/-- THE TIED CARD OF 'lockstitchlaw14.BitsBoth'. -/
def bitsBothCard : Claim7 := { stood := { row := bitsBothRow, standIns := [], harness := (true, "465a5125112231585f6a1b57a6defd894bf66030cfd27644dea79fbec04ab55e"), looks := false }, kinds := [], alts := [], laidByText := true, laidKinds := [.data], laidTests := true, laidLooks := .later }
def BitsBothCardSaid : Prop := Claim7.holds Tryd.pinned (.plain (OpenSpec.ofChange bitsBothSpec)) bitsBothCard

/-- THE TIED CARD OF 'lockstitchlaw14.BitsSet'. -/
def bitsSetCard : Claim7 := { stood := { row := bitsSetRow, standIns := [], harness := (true, "465a5125112231585f6a1b57a6defd894bf66030cfd27644dea79fbec04ab55e"), looks := false }, kinds := [], alts := [], laidByText := true, laidKinds := [.data], laidTests := true, laidLooks := .later }
def BitsSetCardSaid : Prop := Claim7.holds Tryd.pinned (.plain (OpenSpec.ofChange bitsSetSpec)) bitsSetCard

/-- THE TIED CARD OF 'lockstitchlaw14.BitsCounts'. -/
def bitsCountsCard : Claim7 := { stood := { row := bitsCountsRow, standIns := [], harness := (true, "465a5125112231585f6a1b57a6defd894bf66030cfd27644dea79fbec04ab55e"), looks := false }, kinds := [], alts := [], laidByText := true, laidKinds := [.data], laidTests := true, laidLooks := .later }
def BitsCountsCardSaid : Prop := Claim7.holds Tryd.pinned (.plain (OpenSpec.ofChange bitsCountsSpec)) bitsCountsCard

/-- THE TIED CARD OF 'lockstitchlaw14.BitsShort'. -/
def bitsShortCard : Claim7 := { stood := { row := bitsShortRow, standIns := [], harness := (true, "465a5125112231585f6a1b57a6defd894bf66030cfd27644dea79fbec04ab55e"), looks := false }, kinds := [], alts := [], laidByText := true, laidKinds := [.data], laidTests := true, laidLooks := .later }
def BitsShortCardSaid : Prop := Claim7.holds Tryd.pinned (.plain (OpenSpec.ofChange bitsShortSpec)) bitsShortCard

/-- THE TIED CARD OF 'lockstitchlaw14.BitsLaws'. -/
def bitsLawsCard : Claim7 := { stood := { row := bitsLawsRow, standIns := [], harness := (true, "465a5125112231585f6a1b57a6defd894bf66030cfd27644dea79fbec04ab55e"), looks := false }, kinds := [], alts := [], laidByText := true, laidKinds := [.data], laidTests := true, laidLooks := .later }
def BitsLawsCardSaid : Prop := Claim7.holds Tryd.pinned (.plain (OpenSpec.ofChange bitsLawsSpec)) bitsLawsCard

/-- THE SECOND FORM's CARD OF 'lockstitchlaw14.BitsTells'. -/
def bitsTellsUptoCard : Claim7 := { stood := { row := bitsTellsUptoRow, standIns := [], harness := (true, "465a5125112231585f6a1b57a6defd894bf66030cfd27644dea79fbec04ab55e"), looks := false }, kinds := [], alts := [], laidByText := true, laidKinds := [.data], laidTests := true, laidLooks := .later }
def BitsTellsUptoCardSaid : Prop := Claim7.holds Tryd.pinned (.plain (OpenSpec.upto bitsTellsSpec)) bitsTellsUptoCard

/-- THE SECOND FORM's CARD OF 'lockstitchlaw14.BitsThrough'. -/
def bitsThroughUptoCard : Claim7 := { stood := { row := bitsThroughUptoRow, standIns := [], harness := (true, "465a5125112231585f6a1b57a6defd894bf66030cfd27644dea79fbec04ab55e"), looks := false }, kinds := [], alts := [], laidByText := true, laidKinds := [.data], laidTests := true, laidLooks := .later }
def BitsThroughUptoCardSaid : Prop := Claim7.holds Tryd.pinned (.plain (OpenSpec.upto bitsThroughSpec)) bitsThroughUptoCard

/-- THE SECOND FORM's CARD OF 'lockstitchlaw14.BitsBoth'. -/
def bitsBothUptoCard : Claim7 := { stood := { row := bitsBothUptoRow, standIns := [], harness := (true, "465a5125112231585f6a1b57a6defd894bf66030cfd27644dea79fbec04ab55e"), looks := false }, kinds := [], alts := [], laidByText := true, laidKinds := [.data], laidTests := true, laidLooks := .later }
def BitsBothUptoCardSaid : Prop := Claim7.holds Tryd.pinned (.plain (OpenSpec.upto bitsBothSpec)) bitsBothUptoCard

/-- THE SECOND FORM's CARD OF 'lockstitchlaw14.BitsSet'. -/
def bitsSetUptoCard : Claim7 := { stood := { row := bitsSetUptoRow, standIns := [], harness := (true, "465a5125112231585f6a1b57a6defd894bf66030cfd27644dea79fbec04ab55e"), looks := false }, kinds := [], alts := [], laidByText := true, laidKinds := [.data], laidTests := true, laidLooks := .later }
def BitsSetUptoCardSaid : Prop := Claim7.holds Tryd.pinned (.plain (OpenSpec.upto bitsSetSpec)) bitsSetUptoCard

/-- THE SECOND FORM's CARD OF 'lockstitchlaw14.BitsCounts'. -/
def bitsCountsUptoCard : Claim7 := { stood := { row := bitsCountsUptoRow, standIns := [], harness := (true, "465a5125112231585f6a1b57a6defd894bf66030cfd27644dea79fbec04ab55e"), looks := false }, kinds := [], alts := [], laidByText := true, laidKinds := [.data], laidTests := true, laidLooks := .later }
def BitsCountsUptoCardSaid : Prop := Claim7.holds Tryd.pinned (.plain (OpenSpec.upto bitsCountsSpec)) bitsCountsUptoCard

/-- THE SECOND FORM's CARD OF 'lockstitchlaw14.BitsShort'. -/
def bitsShortUptoCard : Claim7 := { stood := { row := bitsShortUptoRow, standIns := [], harness := (true, "465a5125112231585f6a1b57a6defd894bf66030cfd27644dea79fbec04ab55e"), looks := false }, kinds := [], alts := [], laidByText := true, laidKinds := [.data], laidTests := true, laidLooks := .later }
def BitsShortUptoCardSaid : Prop := Claim7.holds Tryd.pinned (.plain (OpenSpec.upto bitsShortSpec)) bitsShortUptoCard

/-- THE SECOND FORM's CARD OF 'lockstitchlaw14.BitsLaws'. -/
def bitsLawsUptoCard : Claim7 := { stood := { row := bitsLawsUptoRow, standIns := [], harness := (true, "465a5125112231585f6a1b57a6defd894bf66030cfd27644dea79fbec04ab55e"), looks := false }, kinds := [], alts := [], laidByText := true, laidKinds := [.data], laidTests := true, laidLooks := .later }
def BitsLawsUptoCardSaid : Prop := Claim7.holds Tryd.pinned (.plain (OpenSpec.upto bitsLawsSpec)) bitsLawsUptoCard
end Rows
end Go.Proofs.YtibmjednieopfaaDoor

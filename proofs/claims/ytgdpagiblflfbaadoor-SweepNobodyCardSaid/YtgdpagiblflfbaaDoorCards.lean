/-
  DERIVED. GIVEN WITH THE SEED: THE CARDS: each row of YtgdpagiblflfbaaDoorRows.lean that lists a variable, with what it lists TIED to the program's text (the seventh form; the later family's looks); each row that meets fmt, with fmt's text TOLD by the authors' own Lean function (tested against real Go, not proved from fmt's source: count such statements apart). THE CARD IS WHAT COUNTS. Prove the row's statement (the work); the ties are given (YtgdpagiblflfbaaDoorTie.lean); close each card by the builder's one call (the guide's Derived/Test/ToyasCard.lean, 'card_holds'). Laid BY PROGRAM, IN A SANDBOX (cutbox-door.mjs). By AI agents, Wed Nov 11 2026. No macro, syntax, notation, axiom, sorry.
-/
import Derived.Test.YtgdpagiblflfbaaDoorRows
import GoSem.ClaimSeven
namespace Go.Proofs.YtgdpagiblflfbaaDoor
namespace Rows

/-- THE TIED CARD OF 'lockstitchlaw18.SweepNobody'. -/
def sweepNobodyCard : Claim7 := { stood := { row := sweepNobodyRow, standIns := [], harness := (true, "a242048b4addc69a12f98d52af10c0be6be5af68f1a12f02491699a020ff98ae"), looks := false }, kinds := [], alts := [], laidByText := true, laidKinds := [.data], laidTests := true, laidLooks := .later }
def SweepNobodyCardSaid : Prop := Claim7.holds Tryd.pinned (.plain (OpenSpec.ofChange sweepNobodySpec)) sweepNobodyCard

/-- THE SECOND FORM's CARD OF 'lockstitchlaw18.SweepNobody'. -/
def sweepNobodyUptoCard : Claim7 := { stood := { row := sweepNobodyUptoRow, standIns := [], harness := (true, "a242048b4addc69a12f98d52af10c0be6be5af68f1a12f02491699a020ff98ae"), looks := false }, kinds := [], alts := [], laidByText := true, laidKinds := [.data], laidTests := true, laidLooks := .later }
def SweepNobodyUptoCardSaid : Prop := Claim7.holds Tryd.pinned (.plain (OpenSpec.upto sweepNobodySpec)) sweepNobodyUptoCard
end Rows
end Go.Proofs.YtgdpagiblflfbaaDoor

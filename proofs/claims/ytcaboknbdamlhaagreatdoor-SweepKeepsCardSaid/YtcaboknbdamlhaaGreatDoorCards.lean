/-
  DERIVED. GIVEN WITH THE SEED: THE CARDS: each row of YtcaboknbdamlhaaGreatDoorRows.lean that lists a variable, with what it lists TIED to the program's text (the seventh form; the later family's looks); each row that meets fmt, with fmt's text TOLD by the authors' own Lean function (tested against real Go, not proved from fmt's source: count such statements apart). THE CARD IS WHAT COUNTS. Prove the row's statement (the work); the ties are given (YtcaboknbdamlhaaGreatDoorTie.lean); close each card by the builder's one call (the guide's Derived/Test/ToyasCard.lean, 'card_holds'). Laid BY PROGRAM, IN A SANDBOX (cutbox-door.mjs). By AI agents, Wed Nov 11 2026. No macro, syntax, notation, axiom, sorry.
-/
import Derived.Test.YtcaboknbdamlhaaGreatDoorRows
import GoSem.ClaimSeven
namespace Go.Proofs.YtcaboknbdamlhaaGreatDoor
namespace Rows

/-- THE TIED CARD OF 'lockstitchlaw18.SweepActs'. -/
def sweepActsCard : Claim7 := { stood := { row := sweepActsRow, standIns := [], harness := (true, "b1c245ff0fe06719dae5d1f3cba83fe441dd94d9c7b5773ace1e82daaa7f59db"), looks := false }, kinds := [], alts := [], laidByText := true, laidKinds := [.data], laidTests := true, laidLooks := .later }
def SweepActsCardSaid : Prop := Claim7.holds Tryz.pinned (.plain (OpenSpec.ofChange sweepActsSpec)) sweepActsCard

/-- THE TIED CARD OF 'lockstitchlaw18.SweepKeeps'. -/
def sweepKeepsCard : Claim7 := { stood := { row := sweepKeepsRow, standIns := [], harness := (true, "b1c245ff0fe06719dae5d1f3cba83fe441dd94d9c7b5773ace1e82daaa7f59db"), looks := false }, kinds := [], alts := [], laidByText := true, laidKinds := [.data], laidTests := true, laidLooks := .later }
def SweepKeepsCardSaid : Prop := Claim7.holds Tryz.pinned (.plain (OpenSpec.ofChange sweepKeepsSpec)) sweepKeepsCard

/-- THE TIED CARD OF 'lockstitchlaw18.SweepFull'. -/
def sweepFullCard : Claim7 := { stood := { row := sweepFullRow, standIns := [], harness := (true, "b1c245ff0fe06719dae5d1f3cba83fe441dd94d9c7b5773ace1e82daaa7f59db"), looks := false }, kinds := [], alts := [], laidByText := true, laidKinds := [.data], laidTests := true, laidLooks := .later }
def SweepFullCardSaid : Prop := Claim7.holds Tryz.pinned (.plain (OpenSpec.ofChange sweepFullSpec)) sweepFullCard

/-- THE TIED CARD OF 'lockstitchlaw18.SweepEnds'. -/
def sweepEndsCard : Claim7 := { stood := { row := sweepEndsRow, standIns := [], harness := (true, "b1c245ff0fe06719dae5d1f3cba83fe441dd94d9c7b5773ace1e82daaa7f59db"), looks := false }, kinds := [], alts := [], laidByText := true, laidKinds := [.data], laidTests := true, laidLooks := .later }
def SweepEndsCardSaid : Prop := Claim7.holds Tryz.pinned (.plain (OpenSpec.ofChange sweepEndsSpec)) sweepEndsCard

/-- THE TIED CARD OF 'lockstitchlaw18.SweepPuts'. -/
def sweepPutsCard : Claim7 := { stood := { row := sweepPutsRow, standIns := [], harness := (true, "b1c245ff0fe06719dae5d1f3cba83fe441dd94d9c7b5773ace1e82daaa7f59db"), looks := false }, kinds := [], alts := [], laidByText := true, laidKinds := [.data], laidTests := true, laidLooks := .later }
def SweepPutsCardSaid : Prop := Claim7.holds Tryz.pinned (.plain (OpenSpec.ofChange sweepPutsSpec)) sweepPutsCard

/-- THE TIED CARD OF 'lockstitchlaw18.SweepMade'. -/
def sweepMadeCard : Claim7 := { stood := { row := sweepMadeRow, standIns := [], harness := (true, "b1c245ff0fe06719dae5d1f3cba83fe441dd94d9c7b5773ace1e82daaa7f59db"), looks := false }, kinds := [], alts := [], laidByText := true, laidKinds := [.data], laidTests := true, laidLooks := .later }
def SweepMadeCardSaid : Prop := Claim7.holds Tryz.pinned (.plain (OpenSpec.ofChange sweepMadeSpec)) sweepMadeCard

/-- THE SECOND FORM's CARD OF 'lockstitchlaw18.SweepActs'. -/
def sweepActsUptoCard : Claim7 := { stood := { row := sweepActsUptoRow, standIns := [], harness := (true, "b1c245ff0fe06719dae5d1f3cba83fe441dd94d9c7b5773ace1e82daaa7f59db"), looks := false }, kinds := [], alts := [], laidByText := true, laidKinds := [.data], laidTests := true, laidLooks := .later }
def SweepActsUptoCardSaid : Prop := Claim7.holds Tryz.pinned (.plain (OpenSpec.upto sweepActsSpec)) sweepActsUptoCard

/-- THE SECOND FORM's CARD OF 'lockstitchlaw18.SweepKeeps'. -/
def sweepKeepsUptoCard : Claim7 := { stood := { row := sweepKeepsUptoRow, standIns := [], harness := (true, "b1c245ff0fe06719dae5d1f3cba83fe441dd94d9c7b5773ace1e82daaa7f59db"), looks := false }, kinds := [], alts := [], laidByText := true, laidKinds := [.data], laidTests := true, laidLooks := .later }
def SweepKeepsUptoCardSaid : Prop := Claim7.holds Tryz.pinned (.plain (OpenSpec.upto sweepKeepsSpec)) sweepKeepsUptoCard

/-- THE SECOND FORM's CARD OF 'lockstitchlaw18.SweepFull'. -/
def sweepFullUptoCard : Claim7 := { stood := { row := sweepFullUptoRow, standIns := [], harness := (true, "b1c245ff0fe06719dae5d1f3cba83fe441dd94d9c7b5773ace1e82daaa7f59db"), looks := false }, kinds := [], alts := [], laidByText := true, laidKinds := [.data], laidTests := true, laidLooks := .later }
def SweepFullUptoCardSaid : Prop := Claim7.holds Tryz.pinned (.plain (OpenSpec.upto sweepFullSpec)) sweepFullUptoCard

/-- THE SECOND FORM's CARD OF 'lockstitchlaw18.SweepEnds'. -/
def sweepEndsUptoCard : Claim7 := { stood := { row := sweepEndsUptoRow, standIns := [], harness := (true, "b1c245ff0fe06719dae5d1f3cba83fe441dd94d9c7b5773ace1e82daaa7f59db"), looks := false }, kinds := [], alts := [], laidByText := true, laidKinds := [.data], laidTests := true, laidLooks := .later }
def SweepEndsUptoCardSaid : Prop := Claim7.holds Tryz.pinned (.plain (OpenSpec.upto sweepEndsSpec)) sweepEndsUptoCard

/-- THE SECOND FORM's CARD OF 'lockstitchlaw18.SweepPuts'. -/
def sweepPutsUptoCard : Claim7 := { stood := { row := sweepPutsUptoRow, standIns := [], harness := (true, "b1c245ff0fe06719dae5d1f3cba83fe441dd94d9c7b5773ace1e82daaa7f59db"), looks := false }, kinds := [], alts := [], laidByText := true, laidKinds := [.data], laidTests := true, laidLooks := .later }
def SweepPutsUptoCardSaid : Prop := Claim7.holds Tryz.pinned (.plain (OpenSpec.upto sweepPutsSpec)) sweepPutsUptoCard

/-- THE SECOND FORM's CARD OF 'lockstitchlaw18.SweepMade'. -/
def sweepMadeUptoCard : Claim7 := { stood := { row := sweepMadeUptoRow, standIns := [], harness := (true, "b1c245ff0fe06719dae5d1f3cba83fe441dd94d9c7b5773ace1e82daaa7f59db"), looks := false }, kinds := [], alts := [], laidByText := true, laidKinds := [.data], laidTests := true, laidLooks := .later }
def SweepMadeUptoCardSaid : Prop := Claim7.holds Tryz.pinned (.plain (OpenSpec.upto sweepMadeSpec)) sweepMadeUptoCard
end Rows
end Go.Proofs.YtcaboknbdamlhaaGreatDoor

/-
  DERIVED. GIVEN WITH THE SEED: THE CARDS: each row of YtoodfioecabglaaDoorRows.lean that lists a variable, with what it lists TIED to the program's text (the seventh form; the later family's looks); each row that meets fmt, with fmt's text TOLD by the authors' own Lean function (tested against real Go, not proved from fmt's source: count such statements apart). THE CARD IS WHAT COUNTS. Prove the row's statement (the work); the ties are given (YtoodfioecabglaaDoorTie.lean); close each card by the builder's one call (the guide's Derived/Test/ToyasCard.lean, 'card_holds'). Laid BY PROGRAM, IN A SANDBOX (cutbox-door.mjs). By AI agents, Wed Nov 11 2026. No macro, syntax, notation, axiom, sorry.
-/
import Derived.Test.YtoodfioecabglaaDoorRows
import GoSem.ClaimSeven
namespace Go.Proofs.YtoodfioecabglaaDoor
namespace Rows

/-- THE TIED CARD OF 'lockstitchlaw16.HeapActs'. -/
def heapActsCard : Claim7 := { stood := { row := heapActsRow, standIns := [], harness := (true, "710464506a5770ae117b4d55d81d048cc2955853c752bb863c7661bf854d5b82"), looks := false }, kinds := [], alts := [], laidByText := true, laidKinds := [.data], laidTests := true, laidLooks := .later }
def HeapActsCardSaid : Prop := Claim7.holds Tryd.pinned (.plain (OpenSpec.ofChange heapActsSpec)) heapActsCard

/-- THE TIED CARD OF 'lockstitchlaw16.HeapApart'. -/
def heapApartCard : Claim7 := { stood := { row := heapApartRow, standIns := [], harness := (true, "710464506a5770ae117b4d55d81d048cc2955853c752bb863c7661bf854d5b82"), looks := false }, kinds := [], alts := [], laidByText := true, laidKinds := [.data], laidTests := true, laidLooks := .later }
def HeapApartCardSaid : Prop := Claim7.holds Tryd.pinned (.plain (OpenSpec.ofChange heapApartSpec)) heapApartCard

/-- THE TIED CARD OF 'lockstitchlaw16.HeapRoom'. -/
def heapRoomCard : Claim7 := { stood := { row := heapRoomRow, standIns := [], harness := (true, "710464506a5770ae117b4d55d81d048cc2955853c752bb863c7661bf854d5b82"), looks := false }, kinds := [], alts := [], laidByText := true, laidKinds := [.data], laidTests := true, laidLooks := .later }
def HeapRoomCardSaid : Prop := Claim7.holds Tryd.pinned (.plain (OpenSpec.ofChange heapRoomSpec)) heapRoomCard

/-- THE TIED CARD OF 'lockstitchlaw16.HeapJunk'. -/
def heapJunkCard : Claim7 := { stood := { row := heapJunkRow, standIns := [], harness := (true, "710464506a5770ae117b4d55d81d048cc2955853c752bb863c7661bf854d5b82"), looks := false }, kinds := [], alts := [], laidByText := true, laidKinds := [.data], laidTests := true, laidLooks := .later }
def HeapJunkCardSaid : Prop := Claim7.holds Tryd.pinned (.plain (OpenSpec.ofChange heapJunkSpec)) heapJunkCard

/-- THE TIED CARD OF 'lockstitchlaw16.HeapNobody'. -/
def heapNobodyCard : Claim7 := { stood := { row := heapNobodyRow, standIns := [], harness := (true, "710464506a5770ae117b4d55d81d048cc2955853c752bb863c7661bf854d5b82"), looks := false }, kinds := [], alts := [], laidByText := true, laidKinds := [.data], laidTests := true, laidLooks := .later }
def HeapNobodyCardSaid : Prop := Claim7.holds Tryd.pinned (.plain (OpenSpec.ofChange heapNobodySpec)) heapNobodyCard

/-- THE TIED CARD OF 'lockstitchlaw16.HeapLast'. -/
def heapLastCard : Claim7 := { stood := { row := heapLastRow, standIns := [], harness := (true, "710464506a5770ae117b4d55d81d048cc2955853c752bb863c7661bf854d5b82"), looks := false }, kinds := [], alts := [], laidByText := true, laidKinds := [.data], laidTests := true, laidLooks := .later }
def HeapLastCardSaid : Prop := Claim7.holds Tryd.pinned (.plain (OpenSpec.ofChange heapLastSpec)) heapLastCard

/-- THE TIED CARD OF 'lockstitchlaw16.HeapFits'. -/
def heapFitsCard : Claim7 := { stood := { row := heapFitsRow, standIns := [], harness := (true, "710464506a5770ae117b4d55d81d048cc2955853c752bb863c7661bf854d5b82"), looks := false }, kinds := [], alts := [], laidByText := true, laidKinds := [.data], laidTests := true, laidLooks := .later }
def HeapFitsCardSaid : Prop := Claim7.holds Tryd.pinned (.plain (OpenSpec.ofChange heapFitsSpec)) heapFitsCard

/-- THE SECOND FORM's CARD OF 'lockstitchlaw16.HeapActs'. -/
def heapActsUptoCard : Claim7 := { stood := { row := heapActsUptoRow, standIns := [], harness := (true, "710464506a5770ae117b4d55d81d048cc2955853c752bb863c7661bf854d5b82"), looks := false }, kinds := [], alts := [], laidByText := true, laidKinds := [.data], laidTests := true, laidLooks := .later }
def HeapActsUptoCardSaid : Prop := Claim7.holds Tryd.pinned (.plain (OpenSpec.upto heapActsSpec)) heapActsUptoCard

/-- THE SECOND FORM's CARD OF 'lockstitchlaw16.HeapApart'. -/
def heapApartUptoCard : Claim7 := { stood := { row := heapApartUptoRow, standIns := [], harness := (true, "710464506a5770ae117b4d55d81d048cc2955853c752bb863c7661bf854d5b82"), looks := false }, kinds := [], alts := [], laidByText := true, laidKinds := [.data], laidTests := true, laidLooks := .later }
def HeapApartUptoCardSaid : Prop := Claim7.holds Tryd.pinned (.plain (OpenSpec.upto heapApartSpec)) heapApartUptoCard

/-- THE SECOND FORM's CARD OF 'lockstitchlaw16.HeapRoom'. -/
def heapRoomUptoCard : Claim7 := { stood := { row := heapRoomUptoRow, standIns := [], harness := (true, "710464506a5770ae117b4d55d81d048cc2955853c752bb863c7661bf854d5b82"), looks := false }, kinds := [], alts := [], laidByText := true, laidKinds := [.data], laidTests := true, laidLooks := .later }
def HeapRoomUptoCardSaid : Prop := Claim7.holds Tryd.pinned (.plain (OpenSpec.upto heapRoomSpec)) heapRoomUptoCard

/-- THE SECOND FORM's CARD OF 'lockstitchlaw16.HeapJunk'. -/
def heapJunkUptoCard : Claim7 := { stood := { row := heapJunkUptoRow, standIns := [], harness := (true, "710464506a5770ae117b4d55d81d048cc2955853c752bb863c7661bf854d5b82"), looks := false }, kinds := [], alts := [], laidByText := true, laidKinds := [.data], laidTests := true, laidLooks := .later }
def HeapJunkUptoCardSaid : Prop := Claim7.holds Tryd.pinned (.plain (OpenSpec.upto heapJunkSpec)) heapJunkUptoCard

/-- THE SECOND FORM's CARD OF 'lockstitchlaw16.HeapNobody'. -/
def heapNobodyUptoCard : Claim7 := { stood := { row := heapNobodyUptoRow, standIns := [], harness := (true, "710464506a5770ae117b4d55d81d048cc2955853c752bb863c7661bf854d5b82"), looks := false }, kinds := [], alts := [], laidByText := true, laidKinds := [.data], laidTests := true, laidLooks := .later }
def HeapNobodyUptoCardSaid : Prop := Claim7.holds Tryd.pinned (.plain (OpenSpec.upto heapNobodySpec)) heapNobodyUptoCard

/-- THE SECOND FORM's CARD OF 'lockstitchlaw16.HeapLast'. -/
def heapLastUptoCard : Claim7 := { stood := { row := heapLastUptoRow, standIns := [], harness := (true, "710464506a5770ae117b4d55d81d048cc2955853c752bb863c7661bf854d5b82"), looks := false }, kinds := [], alts := [], laidByText := true, laidKinds := [.data], laidTests := true, laidLooks := .later }
def HeapLastUptoCardSaid : Prop := Claim7.holds Tryd.pinned (.plain (OpenSpec.upto heapLastSpec)) heapLastUptoCard

/-- THE SECOND FORM's CARD OF 'lockstitchlaw16.HeapFits'. -/
def heapFitsUptoCard : Claim7 := { stood := { row := heapFitsUptoRow, standIns := [], harness := (true, "710464506a5770ae117b4d55d81d048cc2955853c752bb863c7661bf854d5b82"), looks := false }, kinds := [], alts := [], laidByText := true, laidKinds := [.data], laidTests := true, laidLooks := .later }
def HeapFitsUptoCardSaid : Prop := Claim7.holds Tryd.pinned (.plain (OpenSpec.upto heapFitsSpec)) heapFitsUptoCard
end Rows
end Go.Proofs.YtoodfioecabglaaDoor

/-
  DERIVED. GIVEN WITH THE SEED: THE CARDS: each row of YtibabfedpdoofaaGreatDoorRows.lean that lists a variable, with what it lists TIED to the program's text (the seventh form; the later family's looks); each row that meets fmt, with fmt's text TOLD by the authors' own Lean function (tested against real Go, not proved from fmt's source: count such statements apart). THE CARD IS WHAT COUNTS. Prove the row's statement (the work); the ties are given (YtibabfedpdoofaaGreatDoorTie.lean); close each card by the builder's one call (the guide's Derived/Test/ToyasCard.lean, 'card_holds'). Laid BY PROGRAM, IN A SANDBOX (cutbox-door.mjs). By AI agents, Wed Nov 11 2026. No macro, syntax, notation, axiom, sorry.
-/
import Derived.Test.YtibabfedpdoofaaGreatDoorRows
import GoSem.ClaimSeven
namespace Go.Proofs.YtibabfedpdoofaaGreatDoor
namespace Rows

/-- THE TIED CARD OF 'consignorlaw34.AgainTell'. -/
def againTellCard : Claim7 := { stood := { row := againTellRow, standIns := [], harness := (true, "e9fdcb1b7228ae87c21836de50169ec90061273439696e22494ff67d6fd146c5"), looks := true }, kinds := [], alts := [], laidByText := true, laidKinds := [.data, .data, .data, .data, .mapped], laidTests := true, laidLooks := .later }
def AgainTellCardSaid : Prop := Claim7.holds Tryz.pinned (.plain (OpenSpec.ofChange againTellSpec)) againTellCard

/-- THE TIED CARD OF 'consignorlaw30.AgingSee'. -/
def agingSeeCard : Claim7 := { stood := { row := agingSeeRow, standIns := [], harness := (true, "e9fdcb1b7228ae87c21836de50169ec90061273439696e22494ff67d6fd146c5"), looks := true }, kinds := [], alts := [], laidByText := true, laidKinds := [.data, .data, .data, .data, .mapped], laidTests := true, laidLooks := .later }
def AgingSeeCardSaid : Prop := Claim7.holds Tryz.pinned (.plain (OpenSpec.ofChange agingSeeSpec)) agingSeeCard

/-- THE TIED CARD OF 'consignorlaw34.AgainPlaced'. -/
def againPlacedCard : Claim7 := { stood := { row := againPlacedRow, standIns := [], harness := (true, "e9fdcb1b7228ae87c21836de50169ec90061273439696e22494ff67d6fd146c5"), looks := true }, kinds := [], alts := [], laidByText := true, laidKinds := [.data, .data, .data, .data, .mapped], laidTests := true, laidLooks := .later }
def AgainPlacedCardSaid : Prop := Claim7.holds Tryz.pinned (.plain (OpenSpec.ofChange againPlacedSpec)) againPlacedCard

/-- THE TIED CARD OF 'consignorlaw32.DeskOpen'. -/
def deskOpenCard : Claim7 := { stood := { row := deskOpenRow, standIns := [], harness := (true, "e9fdcb1b7228ae87c21836de50169ec90061273439696e22494ff67d6fd146c5"), looks := true }, kinds := [], alts := [], laidByText := true, laidKinds := [.data, .data, .data, .data, .mapped], laidTests := true, laidLooks := .later }
def DeskOpenCardSaid : Prop := Claim7.holds Tryz.pinned (.plain (OpenSpec.ofChange deskOpenSpec)) deskOpenCard

/-- THE TIED CARD OF 'consignorlaw32.DeskNone'. -/
def deskNoneCard : Claim7 := { stood := { row := deskNoneRow, standIns := [], harness := (true, "e9fdcb1b7228ae87c21836de50169ec90061273439696e22494ff67d6fd146c5"), looks := true }, kinds := [], alts := [], laidByText := true, laidKinds := [.data, .data, .data, .data, .mapped], laidTests := true, laidLooks := .later }
def DeskNoneCardSaid : Prop := Claim7.holds Tryz.pinned (.plain (OpenSpec.ofChange deskNoneSpec)) deskNoneCard

/-- THE TIED CARD OF 'consignorlaw32.DeskTwo'. -/
def deskTwoCard : Claim7 := { stood := { row := deskTwoRow, standIns := [], harness := (true, "e9fdcb1b7228ae87c21836de50169ec90061273439696e22494ff67d6fd146c5"), looks := true }, kinds := [], alts := [], laidByText := true, laidKinds := [.data, .data, .data, .data, .mapped], laidTests := true, laidLooks := .later }
def DeskTwoCardSaid : Prop := Claim7.holds Tryz.pinned (.plain (OpenSpec.ofChange deskTwoSpec)) deskTwoCard

/-- THE TIED CARD OF 'consignorlaw32.DeskPlay'. -/
def deskPlayCard : Claim7 := { stood := { row := deskPlayRow, standIns := [], harness := (true, "e9fdcb1b7228ae87c21836de50169ec90061273439696e22494ff67d6fd146c5"), looks := true }, kinds := [], alts := [], laidByText := true, laidKinds := [.data, .data, .data, .data, .mapped], laidTests := true, laidLooks := .later }
def DeskPlayCardSaid : Prop := Claim7.holds Tryz.pinned (.plain (OpenSpec.ofChange deskPlaySpec)) deskPlayCard

/-- THE TIED CARD OF 'consignorlaw35.HistoryRaw'. -/
def historyRawCard : Claim7 := { stood := { row := historyRawRow, standIns := [], harness := (true, "e9fdcb1b7228ae87c21836de50169ec90061273439696e22494ff67d6fd146c5"), looks := true }, kinds := [], alts := [], laidByText := true, laidKinds := [.data, .data, .data, .data, .mapped], laidTests := true, laidLooks := .later }
def HistoryRawCardSaid : Prop := Claim7.holds Tryz.pinned (.plain (OpenSpec.ofChange historyRawSpec)) historyRawCard

/-- THE SECOND FORM's CARD OF 'consignorlaw34.AgainTell'. -/
def againTellUptoCard : Claim7 := { stood := { row := againTellUptoRow, standIns := [], harness := (true, "e9fdcb1b7228ae87c21836de50169ec90061273439696e22494ff67d6fd146c5"), looks := true }, kinds := [], alts := [], laidByText := true, laidKinds := [.data, .data, .data, .data, .mapped], laidTests := true, laidLooks := .later }
def AgainTellUptoCardSaid : Prop := Claim7.holds Tryz.pinned (.plain (OpenSpec.upto againTellSpec)) againTellUptoCard

/-- THE SECOND FORM's CARD OF 'consignorlaw30.AgingSee'. -/
def agingSeeUptoCard : Claim7 := { stood := { row := agingSeeUptoRow, standIns := [], harness := (true, "e9fdcb1b7228ae87c21836de50169ec90061273439696e22494ff67d6fd146c5"), looks := true }, kinds := [], alts := [], laidByText := true, laidKinds := [.data, .data, .data, .data, .mapped], laidTests := true, laidLooks := .later }
def AgingSeeUptoCardSaid : Prop := Claim7.holds Tryz.pinned (.plain (OpenSpec.upto agingSeeSpec)) agingSeeUptoCard

/-- THE SECOND FORM's CARD OF 'consignorlaw34.AgainPlaced'. -/
def againPlacedUptoCard : Claim7 := { stood := { row := againPlacedUptoRow, standIns := [], harness := (true, "e9fdcb1b7228ae87c21836de50169ec90061273439696e22494ff67d6fd146c5"), looks := true }, kinds := [], alts := [], laidByText := true, laidKinds := [.data, .data, .data, .data, .mapped], laidTests := true, laidLooks := .later }
def AgainPlacedUptoCardSaid : Prop := Claim7.holds Tryz.pinned (.plain (OpenSpec.upto againPlacedSpec)) againPlacedUptoCard

/-- THE SECOND FORM's CARD OF 'consignorlaw32.DeskOpen'. -/
def deskOpenUptoCard : Claim7 := { stood := { row := deskOpenUptoRow, standIns := [], harness := (true, "e9fdcb1b7228ae87c21836de50169ec90061273439696e22494ff67d6fd146c5"), looks := true }, kinds := [], alts := [], laidByText := true, laidKinds := [.data, .data, .data, .data, .mapped], laidTests := true, laidLooks := .later }
def DeskOpenUptoCardSaid : Prop := Claim7.holds Tryz.pinned (.plain (OpenSpec.upto deskOpenSpec)) deskOpenUptoCard

/-- THE SECOND FORM's CARD OF 'consignorlaw32.DeskNone'. -/
def deskNoneUptoCard : Claim7 := { stood := { row := deskNoneUptoRow, standIns := [], harness := (true, "e9fdcb1b7228ae87c21836de50169ec90061273439696e22494ff67d6fd146c5"), looks := true }, kinds := [], alts := [], laidByText := true, laidKinds := [.data, .data, .data, .data, .mapped], laidTests := true, laidLooks := .later }
def DeskNoneUptoCardSaid : Prop := Claim7.holds Tryz.pinned (.plain (OpenSpec.upto deskNoneSpec)) deskNoneUptoCard

/-- THE SECOND FORM's CARD OF 'consignorlaw32.DeskTwo'. -/
def deskTwoUptoCard : Claim7 := { stood := { row := deskTwoUptoRow, standIns := [], harness := (true, "e9fdcb1b7228ae87c21836de50169ec90061273439696e22494ff67d6fd146c5"), looks := true }, kinds := [], alts := [], laidByText := true, laidKinds := [.data, .data, .data, .data, .mapped], laidTests := true, laidLooks := .later }
def DeskTwoUptoCardSaid : Prop := Claim7.holds Tryz.pinned (.plain (OpenSpec.upto deskTwoSpec)) deskTwoUptoCard

/-- THE SECOND FORM's CARD OF 'consignorlaw32.DeskPlay'. -/
def deskPlayUptoCard : Claim7 := { stood := { row := deskPlayUptoRow, standIns := [], harness := (true, "e9fdcb1b7228ae87c21836de50169ec90061273439696e22494ff67d6fd146c5"), looks := true }, kinds := [], alts := [], laidByText := true, laidKinds := [.data, .data, .data, .data, .mapped], laidTests := true, laidLooks := .later }
def DeskPlayUptoCardSaid : Prop := Claim7.holds Tryz.pinned (.plain (OpenSpec.upto deskPlaySpec)) deskPlayUptoCard

/-- THE SECOND FORM's CARD OF 'consignorlaw35.HistoryRaw'. -/
def historyRawUptoCard : Claim7 := { stood := { row := historyRawUptoRow, standIns := [], harness := (true, "e9fdcb1b7228ae87c21836de50169ec90061273439696e22494ff67d6fd146c5"), looks := true }, kinds := [], alts := [], laidByText := true, laidKinds := [.data, .data, .data, .data, .mapped], laidTests := true, laidLooks := .later }
def HistoryRawUptoCardSaid : Prop := Claim7.holds Tryz.pinned (.plain (OpenSpec.upto historyRawSpec)) historyRawUptoCard
end Rows
end Go.Proofs.YtibabfedpdoofaaGreatDoor

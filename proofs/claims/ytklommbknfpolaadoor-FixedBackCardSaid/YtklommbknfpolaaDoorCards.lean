/-
  DERIVED. GIVEN WITH THE SEED: THE CARDS: each row of YtklommbknfpolaaDoorRows.lean that lists a variable, with what it lists TIED to the program's text (the seventh form; the later family's looks); each row that meets fmt, with fmt's text TOLD by the authors' own Lean function (tested against real Go, not proved from fmt's source: count such statements apart). THE CARD IS WHAT COUNTS. Prove the row's statement (the work); the ties are given (YtklommbknfpolaaDoorTie.lean); close each card by the builder's one call (the guide's Derived/Test/ToyasCard.lean, 'card_holds'). Laid BY PROGRAM, IN A SANDBOX (cutbox-door.mjs). By AI agents, Wed Nov 11 2026. No macro, syntax, notation, axiom, sorry.
-/
import Derived.Test.YtklommbknfpolaaDoorRows
import GoSem.ClaimSeven
namespace Go.Proofs.YtklommbknfpolaaDoor
namespace Rows

/-- THE TIED CARD OF 'consignorlaw05.FixedPrint'. -/
def fixedPrintCard : Claim7 := { stood := { row := fixedPrintRow, standIns := [], harness := (true, "e853dbd956170a3e87572c855cbb50d74503a388e7ffb3b545dd5fb9b81bb009"), looks := false }, kinds := [], alts := [], laidByText := true, laidKinds := [.data, .pinned], laidTests := true, laidLooks := .later }
def FixedPrintCardSaid : Prop := Claim7.holds Tryd.pinned (.plain (OpenSpec.ofChange fixedPrintSpec)) fixedPrintCard

/-- THE TIED CARD OF 'consignorlaw05.FixedParse'. -/
def fixedParseCard : Claim7 := { stood := { row := fixedParseRow, standIns := [], harness := (true, "e853dbd956170a3e87572c855cbb50d74503a388e7ffb3b545dd5fb9b81bb009"), looks := false }, kinds := [], alts := [], laidByText := true, laidKinds := [.data, .pinned], laidTests := true, laidLooks := .later }
def FixedParseCardSaid : Prop := Claim7.holds Tryd.pinned (.plain (OpenSpec.ofChange fixedParseSpec)) fixedParseCard

/-- THE TIED CARD OF 'consignorlaw05.FixedBack'. -/
def fixedBackCard : Claim7 := { stood := { row := fixedBackRow, standIns := [], harness := (true, "e853dbd956170a3e87572c855cbb50d74503a388e7ffb3b545dd5fb9b81bb009"), looks := false }, kinds := [], alts := [], laidByText := true, laidKinds := [.data, .pinned], laidTests := true, laidLooks := .later }
def FixedBackCardSaid : Prop := Claim7.holds Tryd.pinned (.plain (OpenSpec.ofChange fixedBackSpec)) fixedBackCard

/-- THE TIED CARD OF 'consignorlaw05.FixedForm'. -/
def fixedFormCard : Claim7 := { stood := { row := fixedFormRow, standIns := [], harness := (true, "e853dbd956170a3e87572c855cbb50d74503a388e7ffb3b545dd5fb9b81bb009"), looks := false }, kinds := [], alts := [], laidByText := true, laidKinds := [.data, .pinned], laidTests := true, laidLooks := .later }
def FixedFormCardSaid : Prop := Claim7.holds Tryd.pinned (.plain (OpenSpec.ofChange fixedFormSpec)) fixedFormCard

/-- THE SECOND FORM's CARD OF 'consignorlaw05.FixedPrint'. -/
def fixedPrintUptoCard : Claim7 := { stood := { row := fixedPrintUptoRow, standIns := [], harness := (true, "e853dbd956170a3e87572c855cbb50d74503a388e7ffb3b545dd5fb9b81bb009"), looks := false }, kinds := [], alts := [], laidByText := true, laidKinds := [.data, .pinned], laidTests := true, laidLooks := .later }
def FixedPrintUptoCardSaid : Prop := Claim7.holds Tryd.pinned (.plain (OpenSpec.upto fixedPrintSpec)) fixedPrintUptoCard

/-- THE SECOND FORM's CARD OF 'consignorlaw05.FixedParse'. -/
def fixedParseUptoCard : Claim7 := { stood := { row := fixedParseUptoRow, standIns := [], harness := (true, "e853dbd956170a3e87572c855cbb50d74503a388e7ffb3b545dd5fb9b81bb009"), looks := false }, kinds := [], alts := [], laidByText := true, laidKinds := [.data, .pinned], laidTests := true, laidLooks := .later }
def FixedParseUptoCardSaid : Prop := Claim7.holds Tryd.pinned (.plain (OpenSpec.upto fixedParseSpec)) fixedParseUptoCard

/-- THE SECOND FORM's CARD OF 'consignorlaw05.FixedBack'. -/
def fixedBackUptoCard : Claim7 := { stood := { row := fixedBackUptoRow, standIns := [], harness := (true, "e853dbd956170a3e87572c855cbb50d74503a388e7ffb3b545dd5fb9b81bb009"), looks := false }, kinds := [], alts := [], laidByText := true, laidKinds := [.data, .pinned], laidTests := true, laidLooks := .later }
def FixedBackUptoCardSaid : Prop := Claim7.holds Tryd.pinned (.plain (OpenSpec.upto fixedBackSpec)) fixedBackUptoCard

/-- THE SECOND FORM's CARD OF 'consignorlaw05.FixedForm'. -/
def fixedFormUptoCard : Claim7 := { stood := { row := fixedFormUptoRow, standIns := [], harness := (true, "e853dbd956170a3e87572c855cbb50d74503a388e7ffb3b545dd5fb9b81bb009"), looks := false }, kinds := [], alts := [], laidByText := true, laidKinds := [.data, .pinned], laidTests := true, laidLooks := .later }
def FixedFormUptoCardSaid : Prop := Claim7.holds Tryd.pinned (.plain (OpenSpec.upto fixedFormSpec)) fixedFormUptoCard
end Rows
end Go.Proofs.YtklommbknfpolaaDoor

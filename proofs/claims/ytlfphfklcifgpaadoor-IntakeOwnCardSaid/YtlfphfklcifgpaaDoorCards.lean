/-
  DERIVED. GIVEN WITH THE SEED: THE CARDS: each row of YtlfphfklcifgpaaDoorRows.lean that lists a variable, with what it lists TIED to the program's text (the seventh form; the later family's looks); each row that meets fmt, with fmt's text TOLD by the authors' own Lean function (tested against real Go, not proved from fmt's source: count such statements apart). THE CARD IS WHAT COUNTS. Prove the row's statement (the work); the ties are given (YtlfphfklcifgpaaDoorTie.lean); close each card by the builder's one call (the guide's Derived/Test/ToyasCard.lean, 'card_holds'). Laid BY PROGRAM, IN A SANDBOX (cutbox-door.mjs). By AI agents, Wed Nov 11 2026. No macro, syntax, notation, axiom, sorry.
-/
import Derived.Test.YtlfphfklcifgpaaDoorRows
import GoSem.ClaimSeven
namespace Go.Proofs.YtlfphfklcifgpaaDoor
namespace Rows

/-- THE TIED CARD OF 'consignorlaw21.IntakeOrder'. -/
def intakeOrderCard : Claim7 := { stood := { row := intakeOrderRow, standIns := [], harness := (true, "e77de63256d4f909206d6dfffbaf6ce6507b888d84e0826ec5676c1455e5ba42"), looks := false }, kinds := [], alts := [], laidByText := true, laidKinds := [.data], laidTests := true, laidLooks := .later }
def IntakeOrderCardSaid : Prop := Claim7.holds Tryd.pinned (.plain (OpenSpec.ofChange intakeOrderSpec)) intakeOrderCard

/-- THE TIED CARD OF 'consignorlaw21.IntakeOwn'. -/
def intakeOwnCard : Claim7 := { stood := { row := intakeOwnRow, standIns := [], harness := (true, "e77de63256d4f909206d6dfffbaf6ce6507b888d84e0826ec5676c1455e5ba42"), looks := false }, kinds := [], alts := [], laidByText := true, laidKinds := [.data], laidTests := true, laidLooks := .later }
def IntakeOwnCardSaid : Prop := Claim7.holds Tryd.pinned (.plain (OpenSpec.ofChange intakeOwnSpec)) intakeOwnCard

/-- THE TIED CARD OF 'consignorlaw21.IntakePlay'. -/
def intakePlayCard : Claim7 := { stood := { row := intakePlayRow, standIns := [], harness := (true, "e77de63256d4f909206d6dfffbaf6ce6507b888d84e0826ec5676c1455e5ba42"), looks := false }, kinds := [], alts := [], laidByText := true, laidKinds := [.data], laidTests := true, laidLooks := .later }
def IntakePlayCardSaid : Prop := Claim7.holds Tryd.pinned (.plain (OpenSpec.ofChange intakePlaySpec)) intakePlayCard

/-- THE TIED CARD OF 'consignorlaw23.RepairTell'. -/
def repairTellCard : Claim7 := { stood := { row := repairTellRow, standIns := [], harness := (true, "e77de63256d4f909206d6dfffbaf6ce6507b888d84e0826ec5676c1455e5ba42"), looks := false }, kinds := [], alts := [], laidByText := true, laidKinds := [.data], laidTests := true, laidLooks := .later }
def RepairTellCardSaid : Prop := Claim7.holds Tryd.pinned (.plain (OpenSpec.ofChange repairTellSpec)) repairTellCard

/-- THE TIED CARD OF 'consignorlaw23.RepairOnce'. -/
def repairOnceCard : Claim7 := { stood := { row := repairOnceRow, standIns := [], harness := (true, "e77de63256d4f909206d6dfffbaf6ce6507b888d84e0826ec5676c1455e5ba42"), looks := false }, kinds := [], alts := [], laidByText := true, laidKinds := [.data], laidTests := true, laidLooks := .later }
def RepairOnceCardSaid : Prop := Claim7.holds Tryd.pinned (.plain (OpenSpec.ofChange repairOnceSpec)) repairOnceCard

/-- THE TIED CARD OF 'consignorlaw20.EntriesTell'. -/
def entriesTellCard : Claim7 := { stood := { row := entriesTellRow, standIns := [], harness := (true, "e77de63256d4f909206d6dfffbaf6ce6507b888d84e0826ec5676c1455e5ba42"), looks := false }, kinds := [], alts := [], laidByText := true, laidKinds := [.data], laidTests := true, laidLooks := .later }
def EntriesTellCardSaid : Prop := Claim7.holds Tryd.pinned (.plain (OpenSpec.ofChange entriesTellSpec)) entriesTellCard

/-- THE TIED CARD OF 'consignorlaw20.EntriesBack'. -/
def entriesBackCard : Claim7 := { stood := { row := entriesBackRow, standIns := [], harness := (true, "e77de63256d4f909206d6dfffbaf6ce6507b888d84e0826ec5676c1455e5ba42"), looks := false }, kinds := [], alts := [], laidByText := true, laidKinds := [.data], laidTests := true, laidLooks := .later }
def EntriesBackCardSaid : Prop := Claim7.holds Tryd.pinned (.plain (OpenSpec.ofChange entriesBackSpec)) entriesBackCard

/-- THE TIED CARD OF 'consignorlaw20.EntriesForm'. -/
def entriesFormCard : Claim7 := { stood := { row := entriesFormRow, standIns := [], harness := (true, "e77de63256d4f909206d6dfffbaf6ce6507b888d84e0826ec5676c1455e5ba42"), looks := false }, kinds := [], alts := [], laidByText := true, laidKinds := [.data], laidTests := true, laidLooks := .later }
def EntriesFormCardSaid : Prop := Claim7.holds Tryd.pinned (.plain (OpenSpec.ofChange entriesFormSpec)) entriesFormCard

/-- THE SECOND FORM's CARD OF 'consignorlaw21.IntakeOrder'. -/
def intakeOrderUptoCard : Claim7 := { stood := { row := intakeOrderUptoRow, standIns := [], harness := (true, "e77de63256d4f909206d6dfffbaf6ce6507b888d84e0826ec5676c1455e5ba42"), looks := false }, kinds := [], alts := [], laidByText := true, laidKinds := [.data], laidTests := true, laidLooks := .later }
def IntakeOrderUptoCardSaid : Prop := Claim7.holds Tryd.pinned (.plain (OpenSpec.upto intakeOrderSpec)) intakeOrderUptoCard

/-- THE SECOND FORM's CARD OF 'consignorlaw21.IntakeOwn'. -/
def intakeOwnUptoCard : Claim7 := { stood := { row := intakeOwnUptoRow, standIns := [], harness := (true, "e77de63256d4f909206d6dfffbaf6ce6507b888d84e0826ec5676c1455e5ba42"), looks := false }, kinds := [], alts := [], laidByText := true, laidKinds := [.data], laidTests := true, laidLooks := .later }
def IntakeOwnUptoCardSaid : Prop := Claim7.holds Tryd.pinned (.plain (OpenSpec.upto intakeOwnSpec)) intakeOwnUptoCard

/-- THE SECOND FORM's CARD OF 'consignorlaw21.IntakePlay'. -/
def intakePlayUptoCard : Claim7 := { stood := { row := intakePlayUptoRow, standIns := [], harness := (true, "e77de63256d4f909206d6dfffbaf6ce6507b888d84e0826ec5676c1455e5ba42"), looks := false }, kinds := [], alts := [], laidByText := true, laidKinds := [.data], laidTests := true, laidLooks := .later }
def IntakePlayUptoCardSaid : Prop := Claim7.holds Tryd.pinned (.plain (OpenSpec.upto intakePlaySpec)) intakePlayUptoCard

/-- THE SECOND FORM's CARD OF 'consignorlaw23.RepairTell'. -/
def repairTellUptoCard : Claim7 := { stood := { row := repairTellUptoRow, standIns := [], harness := (true, "e77de63256d4f909206d6dfffbaf6ce6507b888d84e0826ec5676c1455e5ba42"), looks := false }, kinds := [], alts := [], laidByText := true, laidKinds := [.data], laidTests := true, laidLooks := .later }
def RepairTellUptoCardSaid : Prop := Claim7.holds Tryd.pinned (.plain (OpenSpec.upto repairTellSpec)) repairTellUptoCard

/-- THE SECOND FORM's CARD OF 'consignorlaw23.RepairOnce'. -/
def repairOnceUptoCard : Claim7 := { stood := { row := repairOnceUptoRow, standIns := [], harness := (true, "e77de63256d4f909206d6dfffbaf6ce6507b888d84e0826ec5676c1455e5ba42"), looks := false }, kinds := [], alts := [], laidByText := true, laidKinds := [.data], laidTests := true, laidLooks := .later }
def RepairOnceUptoCardSaid : Prop := Claim7.holds Tryd.pinned (.plain (OpenSpec.upto repairOnceSpec)) repairOnceUptoCard

/-- THE SECOND FORM's CARD OF 'consignorlaw20.EntriesTell'. -/
def entriesTellUptoCard : Claim7 := { stood := { row := entriesTellUptoRow, standIns := [], harness := (true, "e77de63256d4f909206d6dfffbaf6ce6507b888d84e0826ec5676c1455e5ba42"), looks := false }, kinds := [], alts := [], laidByText := true, laidKinds := [.data], laidTests := true, laidLooks := .later }
def EntriesTellUptoCardSaid : Prop := Claim7.holds Tryd.pinned (.plain (OpenSpec.upto entriesTellSpec)) entriesTellUptoCard

/-- THE SECOND FORM's CARD OF 'consignorlaw20.EntriesBack'. -/
def entriesBackUptoCard : Claim7 := { stood := { row := entriesBackUptoRow, standIns := [], harness := (true, "e77de63256d4f909206d6dfffbaf6ce6507b888d84e0826ec5676c1455e5ba42"), looks := false }, kinds := [], alts := [], laidByText := true, laidKinds := [.data], laidTests := true, laidLooks := .later }
def EntriesBackUptoCardSaid : Prop := Claim7.holds Tryd.pinned (.plain (OpenSpec.upto entriesBackSpec)) entriesBackUptoCard

/-- THE SECOND FORM's CARD OF 'consignorlaw20.EntriesForm'. -/
def entriesFormUptoCard : Claim7 := { stood := { row := entriesFormUptoRow, standIns := [], harness := (true, "e77de63256d4f909206d6dfffbaf6ce6507b888d84e0826ec5676c1455e5ba42"), looks := false }, kinds := [], alts := [], laidByText := true, laidKinds := [.data], laidTests := true, laidLooks := .later }
def EntriesFormUptoCardSaid : Prop := Claim7.holds Tryd.pinned (.plain (OpenSpec.upto entriesFormSpec)) entriesFormUptoCard
end Rows
end Go.Proofs.YtlfphfklcifgpaaDoor

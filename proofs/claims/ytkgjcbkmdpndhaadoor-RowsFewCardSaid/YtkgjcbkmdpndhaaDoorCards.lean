/-
  DERIVED. GIVEN WITH THE SEED: THE CARDS: each row of YtkgjcbkmdpndhaaDoorRows.lean that lists a variable, with what it lists TIED to the program's text (the seventh form; the later family's looks); each row that meets fmt, with fmt's text TOLD by the authors' own Lean function (tested against real Go, not proved from fmt's source: count such statements apart). THE CARD IS WHAT COUNTS. Prove the row's statement (the work); the ties are given (YtkgjcbkmdpndhaaDoorTie.lean); close each card by the builder's one call (the guide's Derived/Test/ToyasCard.lean, 'card_holds'). Laid BY PROGRAM, IN A SANDBOX (cutbox-door.mjs). By AI agents, Wed Nov 11 2026. No macro, syntax, notation, axiom, sorry.
-/
import Derived.Test.YtkgjcbkmdpndhaaDoorRows
import GoSem.ClaimSeven
namespace Go.Proofs.YtkgjcbkmdpndhaaDoor
namespace Rows

/-- THE TIED CARD OF 'consignorlaw11.OrdersTell'. -/
def ordersTellCard : Claim7 := { stood := { row := ordersTellRow, standIns := [], harness := (true, "a86e4688b9b9c130ac6c0cfe12d951dfc37706f9e3b935040e99ec359fea2876"), looks := false }, kinds := [], alts := [], laidByText := true, laidKinds := [.data], laidTests := true, laidLooks := .later }
def OrdersTellCardSaid : Prop := Claim7.holds Tryd.pinned (.plain (OpenSpec.ofChange ordersTellSpec)) ordersTellCard

/-- THE TIED CARD OF 'consignorlaw12.RowsTell'. -/
def rowsTellCard : Claim7 := { stood := { row := rowsTellRow, standIns := [], harness := (true, "a86e4688b9b9c130ac6c0cfe12d951dfc37706f9e3b935040e99ec359fea2876"), looks := false }, kinds := [], alts := [], laidByText := true, laidKinds := [.data], laidTests := true, laidLooks := .later }
def RowsTellCardSaid : Prop := Claim7.holds Tryd.pinned (.plain (OpenSpec.ofChange rowsTellSpec)) rowsTellCard

/-- THE TIED CARD OF 'consignorlaw12.RowsFew'. -/
def rowsFewCard : Claim7 := { stood := { row := rowsFewRow, standIns := [], harness := (true, "a86e4688b9b9c130ac6c0cfe12d951dfc37706f9e3b935040e99ec359fea2876"), looks := false }, kinds := [], alts := [], laidByText := true, laidKinds := [.data], laidTests := true, laidLooks := .later }
def RowsFewCardSaid : Prop := Claim7.holds Tryd.pinned (.plain (OpenSpec.ofChange rowsFewSpec)) rowsFewCard

/-- THE TIED CARD OF 'consignorlaw11.OrdersForm'. -/
def ordersFormCard : Claim7 := { stood := { row := ordersFormRow, standIns := [], harness := (true, "a86e4688b9b9c130ac6c0cfe12d951dfc37706f9e3b935040e99ec359fea2876"), looks := false }, kinds := [], alts := [], laidByText := true, laidKinds := [.data], laidTests := true, laidLooks := .later }
def OrdersFormCardSaid : Prop := Claim7.holds Tryd.pinned (.plain (OpenSpec.ofChange ordersFormSpec)) ordersFormCard

/-- THE TIED CARD OF 'consignorlaw11.OrdersGet'. -/
def ordersGetCard : Claim7 := { stood := { row := ordersGetRow, standIns := [], harness := (true, "a86e4688b9b9c130ac6c0cfe12d951dfc37706f9e3b935040e99ec359fea2876"), looks := false }, kinds := [], alts := [], laidByText := true, laidKinds := [.data], laidTests := true, laidLooks := .later }
def OrdersGetCardSaid : Prop := Claim7.holds Tryd.pinned (.plain (OpenSpec.ofChange ordersGetSpec)) ordersGetCard

/-- THE TIED CARD OF 'consignorlaw11.OrdersBack'. -/
def ordersBackCard : Claim7 := { stood := { row := ordersBackRow, standIns := [], harness := (true, "a86e4688b9b9c130ac6c0cfe12d951dfc37706f9e3b935040e99ec359fea2876"), looks := false }, kinds := [], alts := [], laidByText := true, laidKinds := [.data], laidTests := true, laidLooks := .later }
def OrdersBackCardSaid : Prop := Claim7.holds Tryd.pinned (.plain (OpenSpec.ofChange ordersBackSpec)) ordersBackCard

/-- THE TIED CARD OF 'consignorlaw12.RowsGet'. -/
def rowsGetCard : Claim7 := { stood := { row := rowsGetRow, standIns := [], harness := (true, "a86e4688b9b9c130ac6c0cfe12d951dfc37706f9e3b935040e99ec359fea2876"), looks := false }, kinds := [], alts := [], laidByText := true, laidKinds := [.data], laidTests := true, laidLooks := .later }
def RowsGetCardSaid : Prop := Claim7.holds Tryd.pinned (.plain (OpenSpec.ofChange rowsGetSpec)) rowsGetCard

/-- THE TIED CARD OF 'consignorlaw12.RowsBack'. -/
def rowsBackCard : Claim7 := { stood := { row := rowsBackRow, standIns := [], harness := (true, "a86e4688b9b9c130ac6c0cfe12d951dfc37706f9e3b935040e99ec359fea2876"), looks := false }, kinds := [], alts := [], laidByText := true, laidKinds := [.data], laidTests := true, laidLooks := .later }
def RowsBackCardSaid : Prop := Claim7.holds Tryd.pinned (.plain (OpenSpec.ofChange rowsBackSpec)) rowsBackCard

/-- THE SECOND FORM's CARD OF 'consignorlaw11.OrdersTell'. -/
def ordersTellUptoCard : Claim7 := { stood := { row := ordersTellUptoRow, standIns := [], harness := (true, "a86e4688b9b9c130ac6c0cfe12d951dfc37706f9e3b935040e99ec359fea2876"), looks := false }, kinds := [], alts := [], laidByText := true, laidKinds := [.data], laidTests := true, laidLooks := .later }
def OrdersTellUptoCardSaid : Prop := Claim7.holds Tryd.pinned (.plain (OpenSpec.upto ordersTellSpec)) ordersTellUptoCard

/-- THE SECOND FORM's CARD OF 'consignorlaw12.RowsTell'. -/
def rowsTellUptoCard : Claim7 := { stood := { row := rowsTellUptoRow, standIns := [], harness := (true, "a86e4688b9b9c130ac6c0cfe12d951dfc37706f9e3b935040e99ec359fea2876"), looks := false }, kinds := [], alts := [], laidByText := true, laidKinds := [.data], laidTests := true, laidLooks := .later }
def RowsTellUptoCardSaid : Prop := Claim7.holds Tryd.pinned (.plain (OpenSpec.upto rowsTellSpec)) rowsTellUptoCard

/-- THE SECOND FORM's CARD OF 'consignorlaw12.RowsFew'. -/
def rowsFewUptoCard : Claim7 := { stood := { row := rowsFewUptoRow, standIns := [], harness := (true, "a86e4688b9b9c130ac6c0cfe12d951dfc37706f9e3b935040e99ec359fea2876"), looks := false }, kinds := [], alts := [], laidByText := true, laidKinds := [.data], laidTests := true, laidLooks := .later }
def RowsFewUptoCardSaid : Prop := Claim7.holds Tryd.pinned (.plain (OpenSpec.upto rowsFewSpec)) rowsFewUptoCard

/-- THE SECOND FORM's CARD OF 'consignorlaw11.OrdersForm'. -/
def ordersFormUptoCard : Claim7 := { stood := { row := ordersFormUptoRow, standIns := [], harness := (true, "a86e4688b9b9c130ac6c0cfe12d951dfc37706f9e3b935040e99ec359fea2876"), looks := false }, kinds := [], alts := [], laidByText := true, laidKinds := [.data], laidTests := true, laidLooks := .later }
def OrdersFormUptoCardSaid : Prop := Claim7.holds Tryd.pinned (.plain (OpenSpec.upto ordersFormSpec)) ordersFormUptoCard

/-- THE SECOND FORM's CARD OF 'consignorlaw11.OrdersGet'. -/
def ordersGetUptoCard : Claim7 := { stood := { row := ordersGetUptoRow, standIns := [], harness := (true, "a86e4688b9b9c130ac6c0cfe12d951dfc37706f9e3b935040e99ec359fea2876"), looks := false }, kinds := [], alts := [], laidByText := true, laidKinds := [.data], laidTests := true, laidLooks := .later }
def OrdersGetUptoCardSaid : Prop := Claim7.holds Tryd.pinned (.plain (OpenSpec.upto ordersGetSpec)) ordersGetUptoCard

/-- THE SECOND FORM's CARD OF 'consignorlaw11.OrdersBack'. -/
def ordersBackUptoCard : Claim7 := { stood := { row := ordersBackUptoRow, standIns := [], harness := (true, "a86e4688b9b9c130ac6c0cfe12d951dfc37706f9e3b935040e99ec359fea2876"), looks := false }, kinds := [], alts := [], laidByText := true, laidKinds := [.data], laidTests := true, laidLooks := .later }
def OrdersBackUptoCardSaid : Prop := Claim7.holds Tryd.pinned (.plain (OpenSpec.upto ordersBackSpec)) ordersBackUptoCard

/-- THE SECOND FORM's CARD OF 'consignorlaw12.RowsGet'. -/
def rowsGetUptoCard : Claim7 := { stood := { row := rowsGetUptoRow, standIns := [], harness := (true, "a86e4688b9b9c130ac6c0cfe12d951dfc37706f9e3b935040e99ec359fea2876"), looks := false }, kinds := [], alts := [], laidByText := true, laidKinds := [.data], laidTests := true, laidLooks := .later }
def RowsGetUptoCardSaid : Prop := Claim7.holds Tryd.pinned (.plain (OpenSpec.upto rowsGetSpec)) rowsGetUptoCard

/-- THE SECOND FORM's CARD OF 'consignorlaw12.RowsBack'. -/
def rowsBackUptoCard : Claim7 := { stood := { row := rowsBackUptoRow, standIns := [], harness := (true, "a86e4688b9b9c130ac6c0cfe12d951dfc37706f9e3b935040e99ec359fea2876"), looks := false }, kinds := [], alts := [], laidByText := true, laidKinds := [.data], laidTests := true, laidLooks := .later }
def RowsBackUptoCardSaid : Prop := Claim7.holds Tryd.pinned (.plain (OpenSpec.upto rowsBackSpec)) rowsBackUptoCard
end Rows
end Go.Proofs.YtkgjcbkmdpndhaaDoor

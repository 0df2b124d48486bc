/-
  NARROWER THAN 'FOR EVERY INPUT', by the rows' own cells (each row's printed sentence says how): OrdersTell: laid · RowsTell: laid · RowsFew: laid · OrdersForm: laid · OrdersGet: laid · OrdersBack: laid · RowsGet: laid · RowsBack: laid.
  DERIVED. THE GIVEN ROWS OF THIS SEAT. 8 by the template 'for every input the law returns true; each argument reads behind the call as it read before'; 0 by the template 'total and deterministic' (their statements: YtkgjcbkmdpndhaaDoorTotals.lean).
  GIVEN WITH THE SEED: the statements are not yours to turn. If you find one false, say at which input.
  Laid BY PROGRAM, IN A SANDBOX (cutbox-rows.mjs): the forced cells as the released guide's own fill.sh prints them over the translation b3de510fd41419f3… (all of the seat's roots in one cut). By AI agents, Wed Nov 11 2026. No macro, syntax, notation, axiom, sorry.
-/
import Derived.Test.YtkgjcbkmdpndhaaDoorChecked
import GoSem.Claim
import GoSem.ClaimJoined
import GoSem.ClaimMapViews
import Derived.JoinedTies
import Derived.KernelRfl
namespace Go.Proofs.YtkgjcbkmdpndhaaDoor
/- THE CELL 'sum', in the pinned program and in every row, IS THE sha256 OF THE DUMP (.gsa) THAT YtkgjcbkmdpndhaaDoorProg.lean LOADS. Nothing in Lean hashes anything: it is a label: what it is worth is what the hold of that sum in a sandbox is worth. -/
noncomputable def Tryd.pinned : Pinned := { name := "ytkgjcbkmdpndhaadoor", sum := "b3de510fd41419f350f28a8e9b7b360bb628ec7b2e244292edfce32dea7fddb7", checked := Tryd.checked }
namespace Rows
def none {H : Type} : Left H := { results := [], args := [] }

/- WHAT THE LISTED PACKAGE-LEVEL VARIABLES READ AS WHEN THE CALL BEGINS. Each datum BY PROGRAM (the guide's laid-datum.mjs) off the statement by which the dump's own 'gosem.cut.vars' lays the variable. In a bare row this is a premise. The card (YtkgjcbkmdpndhaaDoorCards.lean) ties it to the program's text. -/
def laid_consignor_keys_parties {H : Type} : DataW H := .agg [.lit (.int .i64 1), .lit (.int .i64 0), .lit (.int .i64 2), .lit (.int .i64 1), .lit (.int .i64 0), .lit (.int .i64 2)]

/-- 'consignorlaw11.OrdersTell': WHATEVER THE INPUT: true; the input reads as it did. -/
def ordersTellSpec : ChangeSpec := { name := "ordersTell", fn := fun _ => fun
  | [d1, d2] => { results := [.lit (.bool true)], args := [d1, d2] }
  | _ => none }
def ordersTellRow : OpenClaim := { program := "ytkgjcbkmdpndhaadoor", sum := "b3de510fd41419f350f28a8e9b7b360bb628ec7b2e244292edfce32dea7fddb7", func := "consignor/consignorlaw11.OrdersTell", spec := "ordersTell", recurses := true, named := ["consignor/keys.parties"], apart := false, laid := [("consignor/keys.parties", laid_consignor_keys_parties)] }
def OrdersTellSaid : Prop := ordersTellRow.holds Tryd.pinned (OpenSpec.ofChange ordersTellSpec)

/-- ITS FALSE NEIGHBOUR: 'it returns false'. Refute it at one input. -/
def ordersTellWrong : ChangeSpec := { name := "ordersTell", fn := fun _ => fun
  | [d1, d2] => { results := [.lit (.bool false)], args := [d1, d2] }
  | _ => none }
def OrdersTellWrongFalsely : Prop := ordersTellRow.holds Tryd.pinned (OpenSpec.ofChange ordersTellWrong)

/-- 'consignorlaw12.RowsTell': WHATEVER THE INPUT: true; the input reads as it did. -/
def rowsTellSpec : ChangeSpec := { name := "rowsTell", fn := fun _ => fun
  | [d1, d2, d3] => { results := [.lit (.bool true)], args := [d1, d2, d3] }
  | _ => none }
def rowsTellRow : OpenClaim := { program := "ytkgjcbkmdpndhaadoor", sum := "b3de510fd41419f350f28a8e9b7b360bb628ec7b2e244292edfce32dea7fddb7", func := "consignor/consignorlaw12.RowsTell", spec := "rowsTell", unfollowed := true, recurses := true, named := ["consignor/keys.parties"], apart := false, laid := [("consignor/keys.parties", laid_consignor_keys_parties)] }
def RowsTellSaid : Prop := rowsTellRow.holds Tryd.pinned (OpenSpec.ofChange rowsTellSpec)

/-- ITS FALSE NEIGHBOUR: 'it returns false'. Refute it at one input. -/
def rowsTellWrong : ChangeSpec := { name := "rowsTell", fn := fun _ => fun
  | [d1, d2, d3] => { results := [.lit (.bool false)], args := [d1, d2, d3] }
  | _ => none }
def RowsTellWrongFalsely : Prop := rowsTellRow.holds Tryd.pinned (OpenSpec.ofChange rowsTellWrong)

/-- 'consignorlaw12.RowsFew': WHATEVER THE INPUT: true; the input reads as it did. -/
def rowsFewSpec : ChangeSpec := { name := "rowsFew", fn := fun _ => fun
  | [d1, d2, d3] => { results := [.lit (.bool true)], args := [d1, d2, d3] }
  | _ => none }
def rowsFewRow : OpenClaim := { program := "ytkgjcbkmdpndhaadoor", sum := "b3de510fd41419f350f28a8e9b7b360bb628ec7b2e244292edfce32dea7fddb7", func := "consignor/consignorlaw12.RowsFew", spec := "rowsFew", unfollowed := true, recurses := true, named := ["consignor/keys.parties"], apart := false, laid := [("consignor/keys.parties", laid_consignor_keys_parties)] }
def RowsFewSaid : Prop := rowsFewRow.holds Tryd.pinned (OpenSpec.ofChange rowsFewSpec)

/-- ITS FALSE NEIGHBOUR: 'it returns false'. Refute it at one input. -/
def rowsFewWrong : ChangeSpec := { name := "rowsFew", fn := fun _ => fun
  | [d1, d2, d3] => { results := [.lit (.bool false)], args := [d1, d2, d3] }
  | _ => none }
def RowsFewWrongFalsely : Prop := rowsFewRow.holds Tryd.pinned (OpenSpec.ofChange rowsFewWrong)

/-- 'consignorlaw11.OrdersForm': WHATEVER THE INPUT: true; the input reads as it did. -/
def ordersFormSpec : ChangeSpec := { name := "ordersForm", fn := fun _ => fun
  | [d] => { results := [.lit (.bool true)], args := [d] }
  | _ => none }
def ordersFormRow : OpenClaim := { program := "ytkgjcbkmdpndhaadoor", sum := "b3de510fd41419f350f28a8e9b7b360bb628ec7b2e244292edfce32dea7fddb7", func := "consignor/consignorlaw11.OrdersForm", spec := "ordersForm", named := ["consignor/keys.parties"], apart := false, laid := [("consignor/keys.parties", laid_consignor_keys_parties)] }
def OrdersFormSaid : Prop := ordersFormRow.holds Tryd.pinned (OpenSpec.ofChange ordersFormSpec)

/-- ITS FALSE NEIGHBOUR: 'it returns false'. Refute it at one input. -/
def ordersFormWrong : ChangeSpec := { name := "ordersForm", fn := fun _ => fun
  | [d] => { results := [.lit (.bool false)], args := [d] }
  | _ => none }
def OrdersFormWrongFalsely : Prop := ordersFormRow.holds Tryd.pinned (OpenSpec.ofChange ordersFormWrong)

/-- 'consignorlaw11.OrdersGet': WHATEVER THE INPUT: true; the input reads as it did. -/
def ordersGetSpec : ChangeSpec := { name := "ordersGet", fn := fun _ => fun
  | [d1, d2] => { results := [.lit (.bool true)], args := [d1, d2] }
  | _ => none }
def ordersGetRow : OpenClaim := { program := "ytkgjcbkmdpndhaadoor", sum := "b3de510fd41419f350f28a8e9b7b360bb628ec7b2e244292edfce32dea7fddb7", func := "consignor/consignorlaw11.OrdersGet", spec := "ordersGet", recurses := true, named := ["consignor/keys.parties"], apart := false, laid := [("consignor/keys.parties", laid_consignor_keys_parties)] }
def OrdersGetSaid : Prop := ordersGetRow.holds Tryd.pinned (OpenSpec.ofChange ordersGetSpec)

/-- ITS FALSE NEIGHBOUR: 'it returns false'. Refute it at one input. -/
def ordersGetWrong : ChangeSpec := { name := "ordersGet", fn := fun _ => fun
  | [d1, d2] => { results := [.lit (.bool false)], args := [d1, d2] }
  | _ => none }
def OrdersGetWrongFalsely : Prop := ordersGetRow.holds Tryd.pinned (OpenSpec.ofChange ordersGetWrong)

/-- 'consignorlaw11.OrdersBack': WHATEVER THE INPUT: true; the input reads as it did. -/
def ordersBackSpec : ChangeSpec := { name := "ordersBack", fn := fun _ => fun
  | [d1, d2, d3] => { results := [.lit (.bool true)], args := [d1, d2, d3] }
  | _ => none }
def ordersBackRow : OpenClaim := { program := "ytkgjcbkmdpndhaadoor", sum := "b3de510fd41419f350f28a8e9b7b360bb628ec7b2e244292edfce32dea7fddb7", func := "consignor/consignorlaw11.OrdersBack", spec := "ordersBack", named := ["consignor/keys.parties"], apart := false, laid := [("consignor/keys.parties", laid_consignor_keys_parties)] }
def OrdersBackSaid : Prop := ordersBackRow.holds Tryd.pinned (OpenSpec.ofChange ordersBackSpec)

/-- ITS FALSE NEIGHBOUR: 'it returns false'. Refute it at one input. -/
def ordersBackWrong : ChangeSpec := { name := "ordersBack", fn := fun _ => fun
  | [d1, d2, d3] => { results := [.lit (.bool false)], args := [d1, d2, d3] }
  | _ => none }
def OrdersBackWrongFalsely : Prop := ordersBackRow.holds Tryd.pinned (OpenSpec.ofChange ordersBackWrong)

/-- 'consignorlaw12.RowsGet': WHATEVER THE INPUT: true; the input reads as it did. -/
def rowsGetSpec : ChangeSpec := { name := "rowsGet", fn := fun _ => fun
  | [d1, d2, d3] => { results := [.lit (.bool true)], args := [d1, d2, d3] }
  | _ => none }
def rowsGetRow : OpenClaim := { program := "ytkgjcbkmdpndhaadoor", sum := "b3de510fd41419f350f28a8e9b7b360bb628ec7b2e244292edfce32dea7fddb7", func := "consignor/consignorlaw12.RowsGet", spec := "rowsGet", unfollowed := true, recurses := true, named := ["consignor/keys.parties"], apart := false, laid := [("consignor/keys.parties", laid_consignor_keys_parties)] }
def RowsGetSaid : Prop := rowsGetRow.holds Tryd.pinned (OpenSpec.ofChange rowsGetSpec)

/-- ITS FALSE NEIGHBOUR: 'it returns false'. Refute it at one input. -/
def rowsGetWrong : ChangeSpec := { name := "rowsGet", fn := fun _ => fun
  | [d1, d2, d3] => { results := [.lit (.bool false)], args := [d1, d2, d3] }
  | _ => none }
def RowsGetWrongFalsely : Prop := rowsGetRow.holds Tryd.pinned (OpenSpec.ofChange rowsGetWrong)

/-- 'consignorlaw12.RowsBack': WHATEVER THE INPUT: true; the input reads as it did. -/
def rowsBackSpec : ChangeSpec := { name := "rowsBack", fn := fun _ => fun
  | [d1, d2, d3] => { results := [.lit (.bool true)], args := [d1, d2, d3] }
  | _ => none }
def rowsBackRow : OpenClaim := { program := "ytkgjcbkmdpndhaadoor", sum := "b3de510fd41419f350f28a8e9b7b360bb628ec7b2e244292edfce32dea7fddb7", func := "consignor/consignorlaw12.RowsBack", spec := "rowsBack", unfollowed := true, recurses := true, named := ["consignor/keys.parties"], apart := false, laid := [("consignor/keys.parties", laid_consignor_keys_parties)] }
def RowsBackSaid : Prop := rowsBackRow.holds Tryd.pinned (OpenSpec.ofChange rowsBackSpec)

/-- ITS FALSE NEIGHBOUR: 'it returns false'. Refute it at one input. -/
def rowsBackWrong : ChangeSpec := { name := "rowsBack", fn := fun _ => fun
  | [d1, d2, d3] => { results := [.lit (.bool false)], args := [d1, d2, d3] }
  | _ => none }
def RowsBackWrongFalsely : Prop := rowsBackRow.holds Tryd.pinned (OpenSpec.ofChange rowsBackWrong)

/- THE SECOND FORM. 'bulk': how many values and letters a reading holds, each counted each time it is reached (what is shared counts as often as it is met; a slice's spare places count too). A statement '..UptoSaid' is the law's where the arguments, and the package variables that the reading takes, are together of bulk at most 1048576: NARROWER than '..Said'. Prove '..Said' where nothing that the law and all that it calls make is longer than what came in: it says more and counts as full. Else prove '..UptoSaid'. A law counts once. -/
mutual
def uptoBulk {H : Type} : DataW H → Nat
  | .lit (.string bytes) => bytes.length + 1
  | .lit _ => 1
  | .nil => 1
  | .ptr d => uptoBulk d + 1
  | .slice elems spare => uptoBulkAll elems + uptoBulkAll spare + 1
  | .agg parts => uptoBulkAll parts + 1
  | .iface _ d => uptoBulk d + 1
  | .map entries => uptoBulkEntries entries + 1
  | .held _ => 1
def uptoBulkAll {H : Type} : List (DataW H) → Nat
  | [] => 0
  | d :: r => uptoBulk d + uptoBulkAll r
def uptoBulkEntries {H : Type} : List (Lit × DataW H) → Nat
  | [] => 0
  | x :: r => uptoBulkEntry x + uptoBulkEntries r
def uptoBulkEntry {H : Type} : Lit × DataW H → Nat
  | (.string bytes, d) => bytes.length + uptoBulk d + 1
  | (_, d) => uptoBulk d + 1
 end
def uptoSmall : (H : Type) → List (DataW H) → Bool := fun _ ds => decide (uptoBulkAll ds ≤ 1048576)
def OpenSpec.upto (s : _root_.Go.ChangeSpec) : _root_.Go.OpenSpec := { _root_.Go.OpenSpec.ofChange s with cond := some uptoSmall }

/-- 'consignorlaw11.OrdersTell', WHERE WHAT IT READS IS OF BULK AT MOST 1048576: true; the input reads as it did. -/
def ordersTellUptoRow : OpenClaim := { program := "ytkgjcbkmdpndhaadoor", sum := "b3de510fd41419f350f28a8e9b7b360bb628ec7b2e244292edfce32dea7fddb7", func := "consignor/consignorlaw11.OrdersTell", spec := "ordersTell", recurses := true, named := ["consignor/keys.parties"], apart := false, laid := [("consignor/keys.parties", laid_consignor_keys_parties)], narrowed := true }
def OrdersTellUptoSaid : Prop := ordersTellUptoRow.holds Tryd.pinned (OpenSpec.upto ordersTellSpec)

/-- 'consignorlaw12.RowsTell', WHERE WHAT IT READS IS OF BULK AT MOST 1048576: true; the input reads as it did. -/
def rowsTellUptoRow : OpenClaim := { program := "ytkgjcbkmdpndhaadoor", sum := "b3de510fd41419f350f28a8e9b7b360bb628ec7b2e244292edfce32dea7fddb7", func := "consignor/consignorlaw12.RowsTell", spec := "rowsTell", unfollowed := true, recurses := true, named := ["consignor/keys.parties"], apart := false, laid := [("consignor/keys.parties", laid_consignor_keys_parties)], narrowed := true }
def RowsTellUptoSaid : Prop := rowsTellUptoRow.holds Tryd.pinned (OpenSpec.upto rowsTellSpec)

/-- 'consignorlaw12.RowsFew', WHERE WHAT IT READS IS OF BULK AT MOST 1048576: true; the input reads as it did. -/
def rowsFewUptoRow : OpenClaim := { program := "ytkgjcbkmdpndhaadoor", sum := "b3de510fd41419f350f28a8e9b7b360bb628ec7b2e244292edfce32dea7fddb7", func := "consignor/consignorlaw12.RowsFew", spec := "rowsFew", unfollowed := true, recurses := true, named := ["consignor/keys.parties"], apart := false, laid := [("consignor/keys.parties", laid_consignor_keys_parties)], narrowed := true }
def RowsFewUptoSaid : Prop := rowsFewUptoRow.holds Tryd.pinned (OpenSpec.upto rowsFewSpec)

/-- 'consignorlaw11.OrdersForm', WHERE WHAT IT READS IS OF BULK AT MOST 1048576: true; the input reads as it did. -/
def ordersFormUptoRow : OpenClaim := { program := "ytkgjcbkmdpndhaadoor", sum := "b3de510fd41419f350f28a8e9b7b360bb628ec7b2e244292edfce32dea7fddb7", func := "consignor/consignorlaw11.OrdersForm", spec := "ordersForm", named := ["consignor/keys.parties"], apart := false, laid := [("consignor/keys.parties", laid_consignor_keys_parties)], narrowed := true }
def OrdersFormUptoSaid : Prop := ordersFormUptoRow.holds Tryd.pinned (OpenSpec.upto ordersFormSpec)

/-- 'consignorlaw11.OrdersGet', WHERE WHAT IT READS IS OF BULK AT MOST 1048576: true; the input reads as it did. -/
def ordersGetUptoRow : OpenClaim := { program := "ytkgjcbkmdpndhaadoor", sum := "b3de510fd41419f350f28a8e9b7b360bb628ec7b2e244292edfce32dea7fddb7", func := "consignor/consignorlaw11.OrdersGet", spec := "ordersGet", recurses := true, named := ["consignor/keys.parties"], apart := false, laid := [("consignor/keys.parties", laid_consignor_keys_parties)], narrowed := true }
def OrdersGetUptoSaid : Prop := ordersGetUptoRow.holds Tryd.pinned (OpenSpec.upto ordersGetSpec)

/-- 'consignorlaw11.OrdersBack', WHERE WHAT IT READS IS OF BULK AT MOST 1048576: true; the input reads as it did. -/
def ordersBackUptoRow : OpenClaim := { program := "ytkgjcbkmdpndhaadoor", sum := "b3de510fd41419f350f28a8e9b7b360bb628ec7b2e244292edfce32dea7fddb7", func := "consignor/consignorlaw11.OrdersBack", spec := "ordersBack", named := ["consignor/keys.parties"], apart := false, laid := [("consignor/keys.parties", laid_consignor_keys_parties)], narrowed := true }
def OrdersBackUptoSaid : Prop := ordersBackUptoRow.holds Tryd.pinned (OpenSpec.upto ordersBackSpec)

/-- 'consignorlaw12.RowsGet', WHERE WHAT IT READS IS OF BULK AT MOST 1048576: true; the input reads as it did. -/
def rowsGetUptoRow : OpenClaim := { program := "ytkgjcbkmdpndhaadoor", sum := "b3de510fd41419f350f28a8e9b7b360bb628ec7b2e244292edfce32dea7fddb7", func := "consignor/consignorlaw12.RowsGet", spec := "rowsGet", unfollowed := true, recurses := true, named := ["consignor/keys.parties"], apart := false, laid := [("consignor/keys.parties", laid_consignor_keys_parties)], narrowed := true }
def RowsGetUptoSaid : Prop := rowsGetUptoRow.holds Tryd.pinned (OpenSpec.upto rowsGetSpec)

/-- 'consignorlaw12.RowsBack', WHERE WHAT IT READS IS OF BULK AT MOST 1048576: true; the input reads as it did. -/
def rowsBackUptoRow : OpenClaim := { program := "ytkgjcbkmdpndhaadoor", sum := "b3de510fd41419f350f28a8e9b7b360bb628ec7b2e244292edfce32dea7fddb7", func := "consignor/consignorlaw12.RowsBack", spec := "rowsBack", unfollowed := true, recurses := true, named := ["consignor/keys.parties"], apart := false, laid := [("consignor/keys.parties", laid_consignor_keys_parties)], narrowed := true }
def RowsBackUptoSaid : Prop := rowsBackUptoRow.holds Tryd.pinned (OpenSpec.upto rowsBackSpec)

end Rows
end Go.Proofs.YtkgjcbkmdpndhaaDoor

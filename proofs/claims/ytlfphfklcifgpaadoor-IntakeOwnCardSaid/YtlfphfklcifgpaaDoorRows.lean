/-
  NARROWER THAN 'FOR EVERY INPUT', by the rows' own cells (each row's printed sentence says how): IntakeOrder: laid · IntakeOwn: laid · IntakePlay: laid · RepairTell: laid · RepairOnce: laid · EntriesTell: laid · EntriesBack: laid · EntriesForm: laid.
  DERIVED. THE GIVEN ROWS OF THIS SEAT. 8 by the template 'for every input the law returns true; each argument reads behind the call as it read before'; 0 by the template 'total and deterministic' (their statements: YtlfphfklcifgpaaDoorTotals.lean).
  GIVEN WITH THE SEED: the statements are not yours to turn. If you find one false, say at which input.
  Laid BY PROGRAM, IN A SANDBOX (cutbox-rows.mjs): the forced cells as the released guide's own fill.sh prints them over the translation b17baf55a2d60ba2… (all of the seat's roots in one cut). By AI agents, Wed Nov 11 2026. No macro, syntax, notation, axiom, sorry.
-/
import Derived.Test.YtlfphfklcifgpaaDoorChecked
import GoSem.Claim
import GoSem.ClaimJoined
import GoSem.ClaimMapViews
import Derived.JoinedTies
import Derived.KernelRfl
namespace Go.Proofs.YtlfphfklcifgpaaDoor
/- THE CELL 'sum', in the pinned program and in every row, IS THE sha256 OF THE DUMP (.gsa) THAT YtlfphfklcifgpaaDoorProg.lean LOADS. Nothing in Lean hashes anything: it is a label: what it is worth is what the hold of that sum in a sandbox is worth. -/
noncomputable def Tryd.pinned : Pinned := { name := "ytlfphfklcifgpaadoor", sum := "b17baf55a2d60ba20e9ca97f5240b1085e5df1aeab8bc7197121910dfef1cd5b", checked := Tryd.checked }
namespace Rows
def none {H : Type} : Left H := { results := [], args := [] }

/- WHAT THE LISTED PACKAGE-LEVEL VARIABLES READ AS WHEN THE CALL BEGINS. Each datum BY PROGRAM (the guide's laid-datum.mjs) off the statement by which the dump's own 'gosem.cut.vars' lays the variable. In a bare row this is a premise. The card (YtlfphfklcifgpaaDoorCards.lean) ties it to the program's text. -/
def laid_consignor_keys_parties {H : Type} : DataW H := .agg [.lit (.int .i64 1), .lit (.int .i64 0), .lit (.int .i64 2), .lit (.int .i64 1), .lit (.int .i64 0), .lit (.int .i64 2)]

/-- 'consignorlaw21.IntakeOrder': WHATEVER THE INPUT: true; the input reads as it did. -/
def intakeOrderSpec : ChangeSpec := { name := "intakeOrder", fn := fun _ => fun
  | [d1, d2] => { results := [.lit (.bool true)], args := [d1, d2] }
  | _ => none }
def intakeOrderRow : OpenClaim := { program := "ytlfphfklcifgpaadoor", sum := "b17baf55a2d60ba20e9ca97f5240b1085e5df1aeab8bc7197121910dfef1cd5b", func := "consignor/consignorlaw21.IntakeOrder", spec := "intakeOrder", unfollowed := true, recurses := true, named := ["consignor/keys.parties"], plainKeys := false, apart := false, laid := [("consignor/keys.parties", laid_consignor_keys_parties)] }
def IntakeOrderSaid : Prop := intakeOrderRow.holds Tryd.pinned (OpenSpec.ofChange intakeOrderSpec)

/-- ITS FALSE NEIGHBOUR: 'it returns false'. Refute it at one input. -/
def intakeOrderWrong : ChangeSpec := { name := "intakeOrder", fn := fun _ => fun
  | [d1, d2] => { results := [.lit (.bool false)], args := [d1, d2] }
  | _ => none }
def IntakeOrderWrongFalsely : Prop := intakeOrderRow.holds Tryd.pinned (OpenSpec.ofChange intakeOrderWrong)

/-- 'consignorlaw21.IntakeOwn': WHATEVER THE INPUT: true; the input reads as it did. -/
def intakeOwnSpec : ChangeSpec := { name := "intakeOwn", fn := fun _ => fun
  | [d1, d2] => { results := [.lit (.bool true)], args := [d1, d2] }
  | _ => none }
def intakeOwnRow : OpenClaim := { program := "ytlfphfklcifgpaadoor", sum := "b17baf55a2d60ba20e9ca97f5240b1085e5df1aeab8bc7197121910dfef1cd5b", func := "consignor/consignorlaw21.IntakeOwn", spec := "intakeOwn", unfollowed := true, recurses := true, named := ["consignor/keys.parties"], plainKeys := false, apart := false, laid := [("consignor/keys.parties", laid_consignor_keys_parties)] }
def IntakeOwnSaid : Prop := intakeOwnRow.holds Tryd.pinned (OpenSpec.ofChange intakeOwnSpec)

/-- ITS FALSE NEIGHBOUR: 'it returns false'. Refute it at one input. -/
def intakeOwnWrong : ChangeSpec := { name := "intakeOwn", fn := fun _ => fun
  | [d1, d2] => { results := [.lit (.bool false)], args := [d1, d2] }
  | _ => none }
def IntakeOwnWrongFalsely : Prop := intakeOwnRow.holds Tryd.pinned (OpenSpec.ofChange intakeOwnWrong)

/-- 'consignorlaw21.IntakePlay': WHATEVER THE INPUT: true; the input reads as it did. -/
def intakePlaySpec : ChangeSpec := { name := "intakePlay", fn := fun _ => fun
  | [d1, d2] => { results := [.lit (.bool true)], args := [d1, d2] }
  | _ => none }
def intakePlayRow : OpenClaim := { program := "ytlfphfklcifgpaadoor", sum := "b17baf55a2d60ba20e9ca97f5240b1085e5df1aeab8bc7197121910dfef1cd5b", func := "consignor/consignorlaw21.IntakePlay", spec := "intakePlay", unfollowed := true, recurses := true, named := ["consignor/keys.parties"], plainKeys := false, apart := false, laid := [("consignor/keys.parties", laid_consignor_keys_parties)] }
def IntakePlaySaid : Prop := intakePlayRow.holds Tryd.pinned (OpenSpec.ofChange intakePlaySpec)

/-- ITS FALSE NEIGHBOUR: 'it returns false'. Refute it at one input. -/
def intakePlayWrong : ChangeSpec := { name := "intakePlay", fn := fun _ => fun
  | [d1, d2] => { results := [.lit (.bool false)], args := [d1, d2] }
  | _ => none }
def IntakePlayWrongFalsely : Prop := intakePlayRow.holds Tryd.pinned (OpenSpec.ofChange intakePlayWrong)

/-- 'consignorlaw23.RepairTell': WHATEVER THE INPUT: true; the input reads as it did. -/
def repairTellSpec : ChangeSpec := { name := "repairTell", fn := fun _ => fun
  | [d1, d2, d3] => { results := [.lit (.bool true)], args := [d1, d2, d3] }
  | _ => none }
def repairTellRow : OpenClaim := { program := "ytlfphfklcifgpaadoor", sum := "b17baf55a2d60ba20e9ca97f5240b1085e5df1aeab8bc7197121910dfef1cd5b", func := "consignor/consignorlaw23.RepairTell", spec := "repairTell", named := ["consignor/keys.parties"], plainKeys := false, apart := false, laid := [("consignor/keys.parties", laid_consignor_keys_parties)] }
def RepairTellSaid : Prop := repairTellRow.holds Tryd.pinned (OpenSpec.ofChange repairTellSpec)

/-- ITS FALSE NEIGHBOUR: 'it returns false'. Refute it at one input. -/
def repairTellWrong : ChangeSpec := { name := "repairTell", fn := fun _ => fun
  | [d1, d2, d3] => { results := [.lit (.bool false)], args := [d1, d2, d3] }
  | _ => none }
def RepairTellWrongFalsely : Prop := repairTellRow.holds Tryd.pinned (OpenSpec.ofChange repairTellWrong)

/-- 'consignorlaw23.RepairOnce': WHATEVER THE INPUT: true; the input reads as it did. -/
def repairOnceSpec : ChangeSpec := { name := "repairOnce", fn := fun _ => fun
  | [d1, d2] => { results := [.lit (.bool true)], args := [d1, d2] }
  | _ => none }
def repairOnceRow : OpenClaim := { program := "ytlfphfklcifgpaadoor", sum := "b17baf55a2d60ba20e9ca97f5240b1085e5df1aeab8bc7197121910dfef1cd5b", func := "consignor/consignorlaw23.RepairOnce", spec := "repairOnce", named := ["consignor/keys.parties"], plainKeys := false, apart := false, laid := [("consignor/keys.parties", laid_consignor_keys_parties)] }
def RepairOnceSaid : Prop := repairOnceRow.holds Tryd.pinned (OpenSpec.ofChange repairOnceSpec)

/-- ITS FALSE NEIGHBOUR: 'it returns false'. Refute it at one input. -/
def repairOnceWrong : ChangeSpec := { name := "repairOnce", fn := fun _ => fun
  | [d1, d2] => { results := [.lit (.bool false)], args := [d1, d2] }
  | _ => none }
def RepairOnceWrongFalsely : Prop := repairOnceRow.holds Tryd.pinned (OpenSpec.ofChange repairOnceWrong)

/-- 'consignorlaw20.EntriesTell': WHATEVER THE INPUT: true; the input reads as it did. -/
def entriesTellSpec : ChangeSpec := { name := "entriesTell", fn := fun _ => fun
  | [d1, d2, d3] => { results := [.lit (.bool true)], args := [d1, d2, d3] }
  | _ => none }
def entriesTellRow : OpenClaim := { program := "ytlfphfklcifgpaadoor", sum := "b17baf55a2d60ba20e9ca97f5240b1085e5df1aeab8bc7197121910dfef1cd5b", func := "consignor/consignorlaw20.EntriesTell", spec := "entriesTell", unfollowed := true, recurses := true, named := ["consignor/keys.parties"], plainKeys := false, apart := false, laid := [("consignor/keys.parties", laid_consignor_keys_parties)] }
def EntriesTellSaid : Prop := entriesTellRow.holds Tryd.pinned (OpenSpec.ofChange entriesTellSpec)

/-- ITS FALSE NEIGHBOUR: 'it returns false'. Refute it at one input. -/
def entriesTellWrong : ChangeSpec := { name := "entriesTell", fn := fun _ => fun
  | [d1, d2, d3] => { results := [.lit (.bool false)], args := [d1, d2, d3] }
  | _ => none }
def EntriesTellWrongFalsely : Prop := entriesTellRow.holds Tryd.pinned (OpenSpec.ofChange entriesTellWrong)

/-- 'consignorlaw20.EntriesBack': WHATEVER THE INPUT: true; the input reads as it did. -/
def entriesBackSpec : ChangeSpec := { name := "entriesBack", fn := fun _ => fun
  | [d1, d2] => { results := [.lit (.bool true)], args := [d1, d2] }
  | _ => none }
def entriesBackRow : OpenClaim := { program := "ytlfphfklcifgpaadoor", sum := "b17baf55a2d60ba20e9ca97f5240b1085e5df1aeab8bc7197121910dfef1cd5b", func := "consignor/consignorlaw20.EntriesBack", spec := "entriesBack", unfollowed := true, recurses := true, named := ["consignor/keys.parties"], plainKeys := false, apart := false, laid := [("consignor/keys.parties", laid_consignor_keys_parties)] }
def EntriesBackSaid : Prop := entriesBackRow.holds Tryd.pinned (OpenSpec.ofChange entriesBackSpec)

/-- ITS FALSE NEIGHBOUR: 'it returns false'. Refute it at one input. -/
def entriesBackWrong : ChangeSpec := { name := "entriesBack", fn := fun _ => fun
  | [d1, d2] => { results := [.lit (.bool false)], args := [d1, d2] }
  | _ => none }
def EntriesBackWrongFalsely : Prop := entriesBackRow.holds Tryd.pinned (OpenSpec.ofChange entriesBackWrong)

/-- 'consignorlaw20.EntriesForm': WHATEVER THE INPUT: true; the input reads as it did. -/
def entriesFormSpec : ChangeSpec := { name := "entriesForm", fn := fun _ => fun
  | [d] => { results := [.lit (.bool true)], args := [d] }
  | _ => none }
def entriesFormRow : OpenClaim := { program := "ytlfphfklcifgpaadoor", sum := "b17baf55a2d60ba20e9ca97f5240b1085e5df1aeab8bc7197121910dfef1cd5b", func := "consignor/consignorlaw20.EntriesForm", spec := "entriesForm", unfollowed := true, recurses := true, named := ["consignor/keys.parties"], plainKeys := false, apart := false, laid := [("consignor/keys.parties", laid_consignor_keys_parties)] }
def EntriesFormSaid : Prop := entriesFormRow.holds Tryd.pinned (OpenSpec.ofChange entriesFormSpec)

/-- ITS FALSE NEIGHBOUR: 'it returns false'. Refute it at one input. -/
def entriesFormWrong : ChangeSpec := { name := "entriesForm", fn := fun _ => fun
  | [d] => { results := [.lit (.bool false)], args := [d] }
  | _ => none }
def EntriesFormWrongFalsely : Prop := entriesFormRow.holds Tryd.pinned (OpenSpec.ofChange entriesFormWrong)

/- THE SECOND FORM. 'bulk': how many values and letters a reading holds, each counted each time it is reached (what is shared counts as often as it is met; a slice's spare places count too). A statement '..UptoSaid' is the law's where the arguments, and the package variables that the reading takes, are together of bulk at most 1048576: NARROWER than '..Said'. Prove '..Said' where nothing that the law and all that it calls make is longer than what came in: it says more and counts as full. Else prove '..UptoSaid'. A law counts once. -/
mutual
def uptoBulk {H : Type} : DataW H → Nat
  | .lit (.string bytes) => bytes.length + 1
  | .lit _ => 1
  | .nil => 1
  | .ptr d => uptoBulk d + 1
  | .slice elems spare => uptoBulkAll elems + uptoBulkAll spare + 1
  | .agg parts => uptoBulkAll parts + 1
  | .iface _ d => uptoBulk d + 1
  | .map entries => uptoBulkEntries entries + 1
  | .held _ => 1
def uptoBulkAll {H : Type} : List (DataW H) → Nat
  | [] => 0
  | d :: r => uptoBulk d + uptoBulkAll r
def uptoBulkEntries {H : Type} : List (Lit × DataW H) → Nat
  | [] => 0
  | x :: r => uptoBulkEntry x + uptoBulkEntries r
def uptoBulkEntry {H : Type} : Lit × DataW H → Nat
  | (.string bytes, d) => bytes.length + uptoBulk d + 1
  | (_, d) => uptoBulk d + 1
 end
def uptoSmall : (H : Type) → List (DataW H) → Bool := fun _ ds => decide (uptoBulkAll ds ≤ 1048576)
def OpenSpec.upto (s : _root_.Go.ChangeSpec) : _root_.Go.OpenSpec := { _root_.Go.OpenSpec.ofChange s with cond := some uptoSmall }

/-- 'consignorlaw21.IntakeOrder', WHERE WHAT IT READS IS OF BULK AT MOST 1048576: true; the input reads as it did. -/
def intakeOrderUptoRow : OpenClaim := { program := "ytlfphfklcifgpaadoor", sum := "b17baf55a2d60ba20e9ca97f5240b1085e5df1aeab8bc7197121910dfef1cd5b", func := "consignor/consignorlaw21.IntakeOrder", spec := "intakeOrder", unfollowed := true, recurses := true, named := ["consignor/keys.parties"], plainKeys := false, apart := false, laid := [("consignor/keys.parties", laid_consignor_keys_parties)], narrowed := true }
def IntakeOrderUptoSaid : Prop := intakeOrderUptoRow.holds Tryd.pinned (OpenSpec.upto intakeOrderSpec)

/-- 'consignorlaw21.IntakeOwn', WHERE WHAT IT READS IS OF BULK AT MOST 1048576: true; the input reads as it did. -/
def intakeOwnUptoRow : OpenClaim := { program := "ytlfphfklcifgpaadoor", sum := "b17baf55a2d60ba20e9ca97f5240b1085e5df1aeab8bc7197121910dfef1cd5b", func := "consignor/consignorlaw21.IntakeOwn", spec := "intakeOwn", unfollowed := true, recurses := true, named := ["consignor/keys.parties"], plainKeys := false, apart := false, laid := [("consignor/keys.parties", laid_consignor_keys_parties)], narrowed := true }
def IntakeOwnUptoSaid : Prop := intakeOwnUptoRow.holds Tryd.pinned (OpenSpec.upto intakeOwnSpec)

/-- 'consignorlaw21.IntakePlay', WHERE WHAT IT READS IS OF BULK AT MOST 1048576: true; the input reads as it did. -/
def intakePlayUptoRow : OpenClaim := { program := "ytlfphfklcifgpaadoor", sum := "b17baf55a2d60ba20e9ca97f5240b1085e5df1aeab8bc7197121910dfef1cd5b", func := "consignor/consignorlaw21.IntakePlay", spec := "intakePlay", unfollowed := true, recurses := true, named := ["consignor/keys.parties"], plainKeys := false, apart := false, laid := [("consignor/keys.parties", laid_consignor_keys_parties)], narrowed := true }
def IntakePlayUptoSaid : Prop := intakePlayUptoRow.holds Tryd.pinned (OpenSpec.upto intakePlaySpec)

/-- 'consignorlaw23.RepairTell', WHERE WHAT IT READS IS OF BULK AT MOST 1048576: true; the input reads as it did. -/
def repairTellUptoRow : OpenClaim := { program := "ytlfphfklcifgpaadoor", sum := "b17baf55a2d60ba20e9ca97f5240b1085e5df1aeab8bc7197121910dfef1cd5b", func := "consignor/consignorlaw23.RepairTell", spec := "repairTell", named := ["consignor/keys.parties"], plainKeys := false, apart := false, laid := [("consignor/keys.parties", laid_consignor_keys_parties)], narrowed := true }
def RepairTellUptoSaid : Prop := repairTellUptoRow.holds Tryd.pinned (OpenSpec.upto repairTellSpec)

/-- 'consignorlaw23.RepairOnce', WHERE WHAT IT READS IS OF BULK AT MOST 1048576: true; the input reads as it did. -/
def repairOnceUptoRow : OpenClaim := { program := "ytlfphfklcifgpaadoor", sum := "b17baf55a2d60ba20e9ca97f5240b1085e5df1aeab8bc7197121910dfef1cd5b", func := "consignor/consignorlaw23.RepairOnce", spec := "repairOnce", named := ["consignor/keys.parties"], plainKeys := false, apart := false, laid := [("consignor/keys.parties", laid_consignor_keys_parties)], narrowed := true }
def RepairOnceUptoSaid : Prop := repairOnceUptoRow.holds Tryd.pinned (OpenSpec.upto repairOnceSpec)

/-- 'consignorlaw20.EntriesTell', WHERE WHAT IT READS IS OF BULK AT MOST 1048576: true; the input reads as it did. -/
def entriesTellUptoRow : OpenClaim := { program := "ytlfphfklcifgpaadoor", sum := "b17baf55a2d60ba20e9ca97f5240b1085e5df1aeab8bc7197121910dfef1cd5b", func := "consignor/consignorlaw20.EntriesTell", spec := "entriesTell", unfollowed := true, recurses := true, named := ["consignor/keys.parties"], plainKeys := false, apart := false, laid := [("consignor/keys.parties", laid_consignor_keys_parties)], narrowed := true }
def EntriesTellUptoSaid : Prop := entriesTellUptoRow.holds Tryd.pinned (OpenSpec.upto entriesTellSpec)

/-- 'consignorlaw20.EntriesBack', WHERE WHAT IT READS IS OF BULK AT MOST 1048576: true; the input reads as it did. -/
def entriesBackUptoRow : OpenClaim := { program := "ytlfphfklcifgpaadoor", sum := "b17baf55a2d60ba20e9ca97f5240b1085e5df1aeab8bc7197121910dfef1cd5b", func := "consignor/consignorlaw20.EntriesBack", spec := "entriesBack", unfollowed := true, recurses := true, named := ["consignor/keys.parties"], plainKeys := false, apart := false, laid := [("consignor/keys.parties", laid_consignor_keys_parties)], narrowed := true }
def EntriesBackUptoSaid : Prop := entriesBackUptoRow.holds Tryd.pinned (OpenSpec.upto entriesBackSpec)

/-- 'consignorlaw20.EntriesForm', WHERE WHAT IT READS IS OF BULK AT MOST 1048576: true; the input reads as it did. -/
def entriesFormUptoRow : OpenClaim := { program := "ytlfphfklcifgpaadoor", sum := "b17baf55a2d60ba20e9ca97f5240b1085e5df1aeab8bc7197121910dfef1cd5b", func := "consignor/consignorlaw20.EntriesForm", spec := "entriesForm", unfollowed := true, recurses := true, named := ["consignor/keys.parties"], plainKeys := false, apart := false, laid := [("consignor/keys.parties", laid_consignor_keys_parties)], narrowed := true }
def EntriesFormUptoSaid : Prop := entriesFormUptoRow.holds Tryd.pinned (OpenSpec.upto entriesFormSpec)

end Rows
end Go.Proofs.YtlfphfklcifgpaaDoor

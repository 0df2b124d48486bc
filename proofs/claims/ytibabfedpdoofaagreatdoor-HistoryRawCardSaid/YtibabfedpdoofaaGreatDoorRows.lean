/-
  NARROWER THAN 'FOR EVERY INPUT', by the rows' own cells (each row's printed sentence says how): AgainTell: laid · AgingSee: laid · AgainPlaced: laid · DeskOpen: laid · DeskNone: laid · DeskTwo: laid · DeskPlay: laid · HistoryRaw: laid.
  DERIVED. THE GIVEN ROWS OF THIS SEAT. 8 by the template 'for every input the law returns true; each argument reads behind the call as it read before'; 0 by the template 'total and deterministic' (their statements: YtibabfedpdoofaaGreatDoorTotals.lean).
  GIVEN WITH THE SEED: the statements are not yours to turn. If you find one false, say at which input.
  Laid BY PROGRAM, IN A SANDBOX (cutbox-rows.mjs): the forced cells as the released guide's own fill.sh prints them over the translation c234a9e4365dcd07… (all of the seat's roots in one cut). By AI agents, Wed Nov 11 2026. No macro, syntax, notation, axiom, sorry.
-/
import Derived.Test.YtibabfedpdoofaaGreatDoorChecked
import GoSem.Claim
import GoSem.ClaimJoined
import GoSem.ClaimMapViews
import Derived.JoinedTies
import Derived.KernelRfl
namespace Go.Proofs.YtibabfedpdoofaaGreatDoor
/- THE CELL 'sum', in the pinned program and in every row, IS THE sha256 OF THE DUMP (.gsa) THAT YtibabfedpdoofaaGreatDoorProg.lean LOADS. Nothing in Lean hashes anything: it is a label: what it is worth is what the hold of that sum in a sandbox is worth. -/
noncomputable def Tryz.pinned : Pinned := { name := "ytibabfedpdoofaagreatdoor", sum := "c234a9e4365dcd07102e91a454a8a0f32996c3ae1ff950b0743139e4abea3732", checked := Tryz.checked }
namespace Rows
def none {H : Type} : Left H := { results := [], args := [] }

/- WHAT THE LISTED PACKAGE-LEVEL VARIABLES READ AS WHEN THE CALL BEGINS. Each datum BY PROGRAM (the guide's laid-datum.mjs) off the statement by which the dump's own 'gosem.cut.vars' lays the variable. In a bare row this is a premise. The card (YtibabfedpdoofaaGreatDoorCards.lean) ties it to the program's text. -/
def laid_math_bits_deBruijn32tab {H : Type} : DataW H := .agg [.lit (.int .u8 0), .lit (.int .u8 1), .lit (.int .u8 28), .lit (.int .u8 2), .lit (.int .u8 29), .lit (.int .u8 14), .lit (.int .u8 24), .lit (.int .u8 3), .lit (.int .u8 30), .lit (.int .u8 22), .lit (.int .u8 20), .lit (.int .u8 15), .lit (.int .u8 25), .lit (.int .u8 17), .lit (.int .u8 4), .lit (.int .u8 8), .lit (.int .u8 31), .lit (.int .u8 27), .lit (.int .u8 13), .lit (.int .u8 23), .lit (.int .u8 21), .lit (.int .u8 19), .lit (.int .u8 16), .lit (.int .u8 7), .lit (.int .u8 26), .lit (.int .u8 12), .lit (.int .u8 18), .lit (.int .u8 6), .lit (.int .u8 11), .lit (.int .u8 5), .lit (.int .u8 10), .lit (.int .u8 9)]
def laid_math_bits_deBruijn64tab {H : Type} : DataW H := .agg [.lit (.int .u8 0), .lit (.int .u8 1), .lit (.int .u8 56), .lit (.int .u8 2), .lit (.int .u8 57), .lit (.int .u8 49), .lit (.int .u8 28), .lit (.int .u8 3), .lit (.int .u8 61), .lit (.int .u8 58), .lit (.int .u8 42), .lit (.int .u8 50), .lit (.int .u8 38), .lit (.int .u8 29), .lit (.int .u8 17), .lit (.int .u8 4), .lit (.int .u8 62), .lit (.int .u8 47), .lit (.int .u8 59), .lit (.int .u8 36), .lit (.int .u8 45), .lit (.int .u8 43), .lit (.int .u8 51), .lit (.int .u8 22), .lit (.int .u8 53), .lit (.int .u8 39), .lit (.int .u8 33), .lit (.int .u8 30), .lit (.int .u8 24), .lit (.int .u8 18), .lit (.int .u8 12), .lit (.int .u8 5), .lit (.int .u8 63), .lit (.int .u8 55), .lit (.int .u8 48), .lit (.int .u8 27), .lit (.int .u8 60), .lit (.int .u8 41), .lit (.int .u8 37), .lit (.int .u8 16), .lit (.int .u8 46), .lit (.int .u8 35), .lit (.int .u8 44), .lit (.int .u8 21), .lit (.int .u8 52), .lit (.int .u8 32), .lit (.int .u8 23), .lit (.int .u8 11), .lit (.int .u8 54), .lit (.int .u8 26), .lit (.int .u8 40), .lit (.int .u8 15), .lit (.int .u8 34), .lit (.int .u8 20), .lit (.int .u8 31), .lit (.int .u8 10), .lit (.int .u8 25), .lit (.int .u8 14), .lit (.int .u8 19), .lit (.int .u8 9), .lit (.int .u8 13), .lit (.int .u8 8), .lit (.int .u8 7), .lit (.int .u8 6)]
def laid_internal_strconv_uint64pow10 {H : Type} : DataW H := .agg [.lit (.int .u64 1), .lit (.int .u64 10), .lit (.int .u64 100), .lit (.int .u64 1000), .lit (.int .u64 10000), .lit (.int .u64 100000), .lit (.int .u64 1000000), .lit (.int .u64 10000000), .lit (.int .u64 100000000), .lit (.int .u64 1000000000), .lit (.int .u64 10000000000), .lit (.int .u64 100000000000), .lit (.int .u64 1000000000000), .lit (.int .u64 10000000000000), .lit (.int .u64 100000000000000), .lit (.int .u64 1000000000000000), .lit (.int .u64 10000000000000000), .lit (.int .u64 100000000000000000), .lit (.int .u64 1000000000000000000), .lit (.int .u64 10000000000000000000)]
def laid_consignor_keys_parties {H : Type} : DataW H := .agg [.lit (.int .i64 1), .lit (.int .i64 0), .lit (.int .i64 2), .lit (.int .i64 1), .lit (.int .i64 0), .lit (.int .i64 2)]
def laid_consignor_keys_deeds {H : Type} : DataW H := .map [(.string [99, 104, 97, 114, 103, 101], .lit (.int .i64 1)), (.string [114, 101, 102, 117, 110, 100], .lit (.int .i64 4)), (.string [114, 101, 108, 101, 97, 115, 101], .lit (.int .i64 3)), (.string [114, 101, 115, 101, 114, 118, 101], .lit (.int .i64 0)), (.string [115, 104, 105, 112], .lit (.int .i64 2)), (.string [118, 111, 105, 100], .lit (.int .i64 5))]

/-- 'consignorlaw34.AgainTell': WHATEVER THE INPUT: true; the input reads as it did. -/
def againTellSpec : ChangeSpec := { name := "againTell", fn := fun _ => fun
  | [d1, d2, d3] => { results := [.lit (.bool true)], args := [d1, d2, d3] }
  | _ => none }
def againTellRow : OpenClaim := { program := "ytibabfedpdoofaagreatdoor", sum := "c234a9e4365dcd07102e91a454a8a0f32996c3ae1ff950b0743139e4abea3732", func := "consignor/consignorlaw34.AgainTell", spec := "againTell", recurses := true, named := ["internal/strconv.uint64pow10", "math/bits.deBruijn32tab", "math/bits.deBruijn64tab", "consignor/keys.deeds", "consignor/keys.parties"], plainKeys := false, apart := false, laid := [("math/bits.deBruijn32tab", laid_math_bits_deBruijn32tab), ("math/bits.deBruijn64tab", laid_math_bits_deBruijn64tab), ("internal/strconv.uint64pow10", laid_internal_strconv_uint64pow10), ("consignor/keys.parties", laid_consignor_keys_parties), ("consignor/keys.deeds", laid_consignor_keys_deeds)] }
def AgainTellSaid : Prop := againTellRow.holds Tryz.pinned (OpenSpec.ofChange againTellSpec)

/-- ITS FALSE NEIGHBOUR: 'it returns false'. Refute it at one input. -/
def againTellWrong : ChangeSpec := { name := "againTell", fn := fun _ => fun
  | [d1, d2, d3] => { results := [.lit (.bool false)], args := [d1, d2, d3] }
  | _ => none }
def AgainTellWrongFalsely : Prop := againTellRow.holds Tryz.pinned (OpenSpec.ofChange againTellWrong)

/-- 'consignorlaw30.AgingSee': WHATEVER THE INPUT: true; the input reads as it did. -/
def agingSeeSpec : ChangeSpec := { name := "agingSee", fn := fun _ => fun
  | [d1, d2, d3] => { results := [.lit (.bool true)], args := [d1, d2, d3] }
  | _ => none }
def agingSeeRow : OpenClaim := { program := "ytibabfedpdoofaagreatdoor", sum := "c234a9e4365dcd07102e91a454a8a0f32996c3ae1ff950b0743139e4abea3732", func := "consignor/consignorlaw30.AgingSee", spec := "agingSee", recurses := true, named := ["internal/strconv.uint64pow10", "math/bits.deBruijn32tab", "math/bits.deBruijn64tab", "consignor/keys.deeds", "consignor/keys.parties"], plainKeys := false, apart := false, laid := [("math/bits.deBruijn32tab", laid_math_bits_deBruijn32tab), ("math/bits.deBruijn64tab", laid_math_bits_deBruijn64tab), ("internal/strconv.uint64pow10", laid_internal_strconv_uint64pow10), ("consignor/keys.parties", laid_consignor_keys_parties), ("consignor/keys.deeds", laid_consignor_keys_deeds)] }
def AgingSeeSaid : Prop := agingSeeRow.holds Tryz.pinned (OpenSpec.ofChange agingSeeSpec)

/-- ITS FALSE NEIGHBOUR: 'it returns false'. Refute it at one input. -/
def agingSeeWrong : ChangeSpec := { name := "agingSee", fn := fun _ => fun
  | [d1, d2, d3] => { results := [.lit (.bool false)], args := [d1, d2, d3] }
  | _ => none }
def AgingSeeWrongFalsely : Prop := agingSeeRow.holds Tryz.pinned (OpenSpec.ofChange agingSeeWrong)

/-- 'consignorlaw34.AgainPlaced': WHATEVER THE INPUT: true; the input reads as it did. -/
def againPlacedSpec : ChangeSpec := { name := "againPlaced", fn := fun _ => fun
  | [d] => { results := [.lit (.bool true)], args := [d] }
  | _ => none }
def againPlacedRow : OpenClaim := { program := "ytibabfedpdoofaagreatdoor", sum := "c234a9e4365dcd07102e91a454a8a0f32996c3ae1ff950b0743139e4abea3732", func := "consignor/consignorlaw34.AgainPlaced", spec := "againPlaced", inPlace := ["maps.clone"], recurses := true, named := ["internal/strconv.uint64pow10", "math/bits.deBruijn32tab", "math/bits.deBruijn64tab", "consignor/keys.deeds", "consignor/keys.parties"], plainKeys := false, apart := false, laid := [("math/bits.deBruijn32tab", laid_math_bits_deBruijn32tab), ("math/bits.deBruijn64tab", laid_math_bits_deBruijn64tab), ("internal/strconv.uint64pow10", laid_internal_strconv_uint64pow10), ("consignor/keys.parties", laid_consignor_keys_parties), ("consignor/keys.deeds", laid_consignor_keys_deeds)] }
def AgainPlacedSaid : Prop := againPlacedRow.holds Tryz.pinned (OpenSpec.ofChange againPlacedSpec)

/-- ITS FALSE NEIGHBOUR: 'it returns false'. Refute it at one input. -/
def againPlacedWrong : ChangeSpec := { name := "againPlaced", fn := fun _ => fun
  | [d] => { results := [.lit (.bool false)], args := [d] }
  | _ => none }
def AgainPlacedWrongFalsely : Prop := againPlacedRow.holds Tryz.pinned (OpenSpec.ofChange againPlacedWrong)

/-- 'consignorlaw32.DeskOpen': WHATEVER THE INPUT: true; the input reads as it did. -/
def deskOpenSpec : ChangeSpec := { name := "deskOpen", fn := fun _ => fun
  | [d1, d2] => { results := [.lit (.bool true)], args := [d1, d2] }
  | _ => none }
def deskOpenRow : OpenClaim := { program := "ytibabfedpdoofaagreatdoor", sum := "c234a9e4365dcd07102e91a454a8a0f32996c3ae1ff950b0743139e4abea3732", func := "consignor/consignorlaw32.DeskOpen", spec := "deskOpen", inPlace := ["maps.clone"], unfollowed := true, recurses := true, named := ["internal/strconv.uint64pow10", "math/bits.deBruijn32tab", "math/bits.deBruijn64tab", "consignor/keys.deeds", "consignor/keys.parties"], plainKeys := false, apart := false, laid := [("math/bits.deBruijn32tab", laid_math_bits_deBruijn32tab), ("math/bits.deBruijn64tab", laid_math_bits_deBruijn64tab), ("internal/strconv.uint64pow10", laid_internal_strconv_uint64pow10), ("consignor/keys.parties", laid_consignor_keys_parties), ("consignor/keys.deeds", laid_consignor_keys_deeds)] }
def DeskOpenSaid : Prop := deskOpenRow.holds Tryz.pinned (OpenSpec.ofChange deskOpenSpec)

/-- ITS FALSE NEIGHBOUR: 'it returns false'. Refute it at one input. -/
def deskOpenWrong : ChangeSpec := { name := "deskOpen", fn := fun _ => fun
  | [d1, d2] => { results := [.lit (.bool false)], args := [d1, d2] }
  | _ => none }
def DeskOpenWrongFalsely : Prop := deskOpenRow.holds Tryz.pinned (OpenSpec.ofChange deskOpenWrong)

/-- 'consignorlaw32.DeskNone': WHATEVER THE INPUT: true; the input reads as it did. -/
def deskNoneSpec : ChangeSpec := { name := "deskNone", fn := fun _ => fun
  | [d] => { results := [.lit (.bool true)], args := [d] }
  | _ => none }
def deskNoneRow : OpenClaim := { program := "ytibabfedpdoofaagreatdoor", sum := "c234a9e4365dcd07102e91a454a8a0f32996c3ae1ff950b0743139e4abea3732", func := "consignor/consignorlaw32.DeskNone", spec := "deskNone", inPlace := ["maps.clone"], unfollowed := true, recurses := true, named := ["internal/strconv.uint64pow10", "math/bits.deBruijn32tab", "math/bits.deBruijn64tab", "consignor/keys.deeds", "consignor/keys.parties"], plainKeys := false, apart := false, laid := [("math/bits.deBruijn32tab", laid_math_bits_deBruijn32tab), ("math/bits.deBruijn64tab", laid_math_bits_deBruijn64tab), ("internal/strconv.uint64pow10", laid_internal_strconv_uint64pow10), ("consignor/keys.parties", laid_consignor_keys_parties), ("consignor/keys.deeds", laid_consignor_keys_deeds)] }
def DeskNoneSaid : Prop := deskNoneRow.holds Tryz.pinned (OpenSpec.ofChange deskNoneSpec)

/-- ITS FALSE NEIGHBOUR: 'it returns false'. Refute it at one input. -/
def deskNoneWrong : ChangeSpec := { name := "deskNone", fn := fun _ => fun
  | [d] => { results := [.lit (.bool false)], args := [d] }
  | _ => none }
def DeskNoneWrongFalsely : Prop := deskNoneRow.holds Tryz.pinned (OpenSpec.ofChange deskNoneWrong)

/-- 'consignorlaw32.DeskTwo': WHATEVER THE INPUT: true; the input reads as it did. -/
def deskTwoSpec : ChangeSpec := { name := "deskTwo", fn := fun _ => fun
  | [d1, d2] => { results := [.lit (.bool true)], args := [d1, d2] }
  | _ => none }
def deskTwoRow : OpenClaim := { program := "ytibabfedpdoofaagreatdoor", sum := "c234a9e4365dcd07102e91a454a8a0f32996c3ae1ff950b0743139e4abea3732", func := "consignor/consignorlaw32.DeskTwo", spec := "deskTwo", inPlace := ["maps.clone"], unfollowed := true, recurses := true, named := ["internal/strconv.uint64pow10", "math/bits.deBruijn32tab", "math/bits.deBruijn64tab", "consignor/keys.deeds", "consignor/keys.parties"], plainKeys := false, apart := false, laid := [("math/bits.deBruijn32tab", laid_math_bits_deBruijn32tab), ("math/bits.deBruijn64tab", laid_math_bits_deBruijn64tab), ("internal/strconv.uint64pow10", laid_internal_strconv_uint64pow10), ("consignor/keys.parties", laid_consignor_keys_parties), ("consignor/keys.deeds", laid_consignor_keys_deeds)] }
def DeskTwoSaid : Prop := deskTwoRow.holds Tryz.pinned (OpenSpec.ofChange deskTwoSpec)

/-- ITS FALSE NEIGHBOUR: 'it returns false'. Refute it at one input. -/
def deskTwoWrong : ChangeSpec := { name := "deskTwo", fn := fun _ => fun
  | [d1, d2] => { results := [.lit (.bool false)], args := [d1, d2] }
  | _ => none }
def DeskTwoWrongFalsely : Prop := deskTwoRow.holds Tryz.pinned (OpenSpec.ofChange deskTwoWrong)

/-- 'consignorlaw32.DeskPlay': WHATEVER THE INPUT: true; the input reads as it did. -/
def deskPlaySpec : ChangeSpec := { name := "deskPlay", fn := fun _ => fun
  | [d1, d2] => { results := [.lit (.bool true)], args := [d1, d2] }
  | _ => none }
def deskPlayRow : OpenClaim := { program := "ytibabfedpdoofaagreatdoor", sum := "c234a9e4365dcd07102e91a454a8a0f32996c3ae1ff950b0743139e4abea3732", func := "consignor/consignorlaw32.DeskPlay", spec := "deskPlay", inPlace := ["maps.clone"], unfollowed := true, recurses := true, named := ["internal/strconv.uint64pow10", "math/bits.deBruijn32tab", "math/bits.deBruijn64tab", "consignor/keys.deeds", "consignor/keys.parties"], plainKeys := false, apart := false, laid := [("math/bits.deBruijn32tab", laid_math_bits_deBruijn32tab), ("math/bits.deBruijn64tab", laid_math_bits_deBruijn64tab), ("internal/strconv.uint64pow10", laid_internal_strconv_uint64pow10), ("consignor/keys.parties", laid_consignor_keys_parties), ("consignor/keys.deeds", laid_consignor_keys_deeds)] }
def DeskPlaySaid : Prop := deskPlayRow.holds Tryz.pinned (OpenSpec.ofChange deskPlaySpec)

/-- ITS FALSE NEIGHBOUR: 'it returns false'. Refute it at one input. -/
def deskPlayWrong : ChangeSpec := { name := "deskPlay", fn := fun _ => fun
  | [d1, d2] => { results := [.lit (.bool false)], args := [d1, d2] }
  | _ => none }
def DeskPlayWrongFalsely : Prop := deskPlayRow.holds Tryz.pinned (OpenSpec.ofChange deskPlayWrong)

/-- 'consignorlaw35.HistoryRaw': WHATEVER THE INPUT: true; the input reads as it did. -/
def historyRawSpec : ChangeSpec := { name := "historyRaw", fn := fun _ => fun
  | [d1, d2] => { results := [.lit (.bool true)], args := [d1, d2] }
  | _ => none }
def historyRawRow : OpenClaim := { program := "ytibabfedpdoofaagreatdoor", sum := "c234a9e4365dcd07102e91a454a8a0f32996c3ae1ff950b0743139e4abea3732", func := "consignor/consignorlaw35.HistoryRaw", spec := "historyRaw", inPlace := ["maps.clone"], unfollowed := true, recurses := true, named := ["internal/strconv.uint64pow10", "math/bits.deBruijn32tab", "math/bits.deBruijn64tab", "consignor/keys.deeds", "consignor/keys.parties"], plainKeys := false, apart := false, laid := [("math/bits.deBruijn32tab", laid_math_bits_deBruijn32tab), ("math/bits.deBruijn64tab", laid_math_bits_deBruijn64tab), ("internal/strconv.uint64pow10", laid_internal_strconv_uint64pow10), ("consignor/keys.parties", laid_consignor_keys_parties), ("consignor/keys.deeds", laid_consignor_keys_deeds)] }
def HistoryRawSaid : Prop := historyRawRow.holds Tryz.pinned (OpenSpec.ofChange historyRawSpec)

/-- ITS FALSE NEIGHBOUR: 'it returns false'. Refute it at one input. -/
def historyRawWrong : ChangeSpec := { name := "historyRaw", fn := fun _ => fun
  | [d1, d2] => { results := [.lit (.bool false)], args := [d1, d2] }
  | _ => none }
def HistoryRawWrongFalsely : Prop := historyRawRow.holds Tryz.pinned (OpenSpec.ofChange historyRawWrong)

/- THE SECOND FORM. 'bulk': how many values and letters a reading holds, each counted each time it is reached (what is shared counts as often as it is met; a slice's spare places count too). A statement '..UptoSaid' is the law's where the arguments, and the package variables that the reading takes, are together of bulk at most 1048576: NARROWER than '..Said'. Prove '..Said' where nothing that the law and all that it calls make is longer than what came in: it says more and counts as full. Else prove '..UptoSaid'. A law counts once. -/
mutual
def uptoBulk {H : Type} : DataW H → Nat
  | .lit (.string bytes) => bytes.length + 1
  | .lit _ => 1
  | .nil => 1
  | .ptr d => uptoBulk d + 1
  | .slice elems spare => uptoBulkAll elems + uptoBulkAll spare + 1
  | .agg parts => uptoBulkAll parts + 1
  | .iface _ d => uptoBulk d + 1
  | .map entries => uptoBulkEntries entries + 1
  | .held _ => 1
def uptoBulkAll {H : Type} : List (DataW H) → Nat
  | [] => 0
  | d :: r => uptoBulk d + uptoBulkAll r
def uptoBulkEntries {H : Type} : List (Lit × DataW H) → Nat
  | [] => 0
  | x :: r => uptoBulkEntry x + uptoBulkEntries r
def uptoBulkEntry {H : Type} : Lit × DataW H → Nat
  | (.string bytes, d) => bytes.length + uptoBulk d + 1
  | (_, d) => uptoBulk d + 1
 end
def uptoSmall : (H : Type) → List (DataW H) → Bool := fun _ ds => decide (uptoBulkAll ds ≤ 1048576)
def OpenSpec.upto (s : _root_.Go.ChangeSpec) : _root_.Go.OpenSpec := { _root_.Go.OpenSpec.ofChange s with cond := some uptoSmall }

/-- 'consignorlaw34.AgainTell', WHERE WHAT IT READS IS OF BULK AT MOST 1048576: true; the input reads as it did. -/
def againTellUptoRow : OpenClaim := { program := "ytibabfedpdoofaagreatdoor", sum := "c234a9e4365dcd07102e91a454a8a0f32996c3ae1ff950b0743139e4abea3732", func := "consignor/consignorlaw34.AgainTell", spec := "againTell", recurses := true, named := ["internal/strconv.uint64pow10", "math/bits.deBruijn32tab", "math/bits.deBruijn64tab", "consignor/keys.deeds", "consignor/keys.parties"], plainKeys := false, apart := false, laid := [("math/bits.deBruijn32tab", laid_math_bits_deBruijn32tab), ("math/bits.deBruijn64tab", laid_math_bits_deBruijn64tab), ("internal/strconv.uint64pow10", laid_internal_strconv_uint64pow10), ("consignor/keys.parties", laid_consignor_keys_parties), ("consignor/keys.deeds", laid_consignor_keys_deeds)], narrowed := true }
def AgainTellUptoSaid : Prop := againTellUptoRow.holds Tryz.pinned (OpenSpec.upto againTellSpec)

/-- 'consignorlaw30.AgingSee', WHERE WHAT IT READS IS OF BULK AT MOST 1048576: true; the input reads as it did. -/
def agingSeeUptoRow : OpenClaim := { program := "ytibabfedpdoofaagreatdoor", sum := "c234a9e4365dcd07102e91a454a8a0f32996c3ae1ff950b0743139e4abea3732", func := "consignor/consignorlaw30.AgingSee", spec := "agingSee", recurses := true, named := ["internal/strconv.uint64pow10", "math/bits.deBruijn32tab", "math/bits.deBruijn64tab", "consignor/keys.deeds", "consignor/keys.parties"], plainKeys := false, apart := false, laid := [("math/bits.deBruijn32tab", laid_math_bits_deBruijn32tab), ("math/bits.deBruijn64tab", laid_math_bits_deBruijn64tab), ("internal/strconv.uint64pow10", laid_internal_strconv_uint64pow10), ("consignor/keys.parties", laid_consignor_keys_parties), ("consignor/keys.deeds", laid_consignor_keys_deeds)], narrowed := true }
def AgingSeeUptoSaid : Prop := agingSeeUptoRow.holds Tryz.pinned (OpenSpec.upto agingSeeSpec)

/-- 'consignorlaw34.AgainPlaced', WHERE WHAT IT READS IS OF BULK AT MOST 1048576: true; the input reads as it did. -/
def againPlacedUptoRow : OpenClaim := { program := "ytibabfedpdoofaagreatdoor", sum := "c234a9e4365dcd07102e91a454a8a0f32996c3ae1ff950b0743139e4abea3732", func := "consignor/consignorlaw34.AgainPlaced", spec := "againPlaced", inPlace := ["maps.clone"], recurses := true, named := ["internal/strconv.uint64pow10", "math/bits.deBruijn32tab", "math/bits.deBruijn64tab", "consignor/keys.deeds", "consignor/keys.parties"], plainKeys := false, apart := false, laid := [("math/bits.deBruijn32tab", laid_math_bits_deBruijn32tab), ("math/bits.deBruijn64tab", laid_math_bits_deBruijn64tab), ("internal/strconv.uint64pow10", laid_internal_strconv_uint64pow10), ("consignor/keys.parties", laid_consignor_keys_parties), ("consignor/keys.deeds", laid_consignor_keys_deeds)], narrowed := true }
def AgainPlacedUptoSaid : Prop := againPlacedUptoRow.holds Tryz.pinned (OpenSpec.upto againPlacedSpec)

/-- 'consignorlaw32.DeskOpen', WHERE WHAT IT READS IS OF BULK AT MOST 1048576: true; the input reads as it did. -/
def deskOpenUptoRow : OpenClaim := { program := "ytibabfedpdoofaagreatdoor", sum := "c234a9e4365dcd07102e91a454a8a0f32996c3ae1ff950b0743139e4abea3732", func := "consignor/consignorlaw32.DeskOpen", spec := "deskOpen", inPlace := ["maps.clone"], unfollowed := true, recurses := true, named := ["internal/strconv.uint64pow10", "math/bits.deBruijn32tab", "math/bits.deBruijn64tab", "consignor/keys.deeds", "consignor/keys.parties"], plainKeys := false, apart := false, laid := [("math/bits.deBruijn32tab", laid_math_bits_deBruijn32tab), ("math/bits.deBruijn64tab", laid_math_bits_deBruijn64tab), ("internal/strconv.uint64pow10", laid_internal_strconv_uint64pow10), ("consignor/keys.parties", laid_consignor_keys_parties), ("consignor/keys.deeds", laid_consignor_keys_deeds)], narrowed := true }
def DeskOpenUptoSaid : Prop := deskOpenUptoRow.holds Tryz.pinned (OpenSpec.upto deskOpenSpec)

/-- 'consignorlaw32.DeskNone', WHERE WHAT IT READS IS OF BULK AT MOST 1048576: true; the input reads as it did. -/
def deskNoneUptoRow : OpenClaim := { program := "ytibabfedpdoofaagreatdoor", sum := "c234a9e4365dcd07102e91a454a8a0f32996c3ae1ff950b0743139e4abea3732", func := "consignor/consignorlaw32.DeskNone", spec := "deskNone", inPlace := ["maps.clone"], unfollowed := true, recurses := true, named := ["internal/strconv.uint64pow10", "math/bits.deBruijn32tab", "math/bits.deBruijn64tab", "consignor/keys.deeds", "consignor/keys.parties"], plainKeys := false, apart := false, laid := [("math/bits.deBruijn32tab", laid_math_bits_deBruijn32tab), ("math/bits.deBruijn64tab", laid_math_bits_deBruijn64tab), ("internal/strconv.uint64pow10", laid_internal_strconv_uint64pow10), ("consignor/keys.parties", laid_consignor_keys_parties), ("consignor/keys.deeds", laid_consignor_keys_deeds)], narrowed := true }
def DeskNoneUptoSaid : Prop := deskNoneUptoRow.holds Tryz.pinned (OpenSpec.upto deskNoneSpec)

/-- 'consignorlaw32.DeskTwo', WHERE WHAT IT READS IS OF BULK AT MOST 1048576: true; the input reads as it did. -/
def deskTwoUptoRow : OpenClaim := { program := "ytibabfedpdoofaagreatdoor", sum := "c234a9e4365dcd07102e91a454a8a0f32996c3ae1ff950b0743139e4abea3732", func := "consignor/consignorlaw32.DeskTwo", spec := "deskTwo", inPlace := ["maps.clone"], unfollowed := true, recurses := true, named := ["internal/strconv.uint64pow10", "math/bits.deBruijn32tab", "math/bits.deBruijn64tab", "consignor/keys.deeds", "consignor/keys.parties"], plainKeys := false, apart := false, laid := [("math/bits.deBruijn32tab", laid_math_bits_deBruijn32tab), ("math/bits.deBruijn64tab", laid_math_bits_deBruijn64tab), ("internal/strconv.uint64pow10", laid_internal_strconv_uint64pow10), ("consignor/keys.parties", laid_consignor_keys_parties), ("consignor/keys.deeds", laid_consignor_keys_deeds)], narrowed := true }
def DeskTwoUptoSaid : Prop := deskTwoUptoRow.holds Tryz.pinned (OpenSpec.upto deskTwoSpec)

/-- 'consignorlaw32.DeskPlay', WHERE WHAT IT READS IS OF BULK AT MOST 1048576: true; the input reads as it did. -/
def deskPlayUptoRow : OpenClaim := { program := "ytibabfedpdoofaagreatdoor", sum := "c234a9e4365dcd07102e91a454a8a0f32996c3ae1ff950b0743139e4abea3732", func := "consignor/consignorlaw32.DeskPlay", spec := "deskPlay", inPlace := ["maps.clone"], unfollowed := true, recurses := true, named := ["internal/strconv.uint64pow10", "math/bits.deBruijn32tab", "math/bits.deBruijn64tab", "consignor/keys.deeds", "consignor/keys.parties"], plainKeys := false, apart := false, laid := [("math/bits.deBruijn32tab", laid_math_bits_deBruijn32tab), ("math/bits.deBruijn64tab", laid_math_bits_deBruijn64tab), ("internal/strconv.uint64pow10", laid_internal_strconv_uint64pow10), ("consignor/keys.parties", laid_consignor_keys_parties), ("consignor/keys.deeds", laid_consignor_keys_deeds)], narrowed := true }
def DeskPlayUptoSaid : Prop := deskPlayUptoRow.holds Tryz.pinned (OpenSpec.upto deskPlaySpec)

/-- 'consignorlaw35.HistoryRaw', WHERE WHAT IT READS IS OF BULK AT MOST 1048576: true; the input reads as it did. -/
def historyRawUptoRow : OpenClaim := { program := "ytibabfedpdoofaagreatdoor", sum := "c234a9e4365dcd07102e91a454a8a0f32996c3ae1ff950b0743139e4abea3732", func := "consignor/consignorlaw35.HistoryRaw", spec := "historyRaw", inPlace := ["maps.clone"], unfollowed := true, recurses := true, named := ["internal/strconv.uint64pow10", "math/bits.deBruijn32tab", "math/bits.deBruijn64tab", "consignor/keys.deeds", "consignor/keys.parties"], plainKeys := false, apart := false, laid := [("math/bits.deBruijn32tab", laid_math_bits_deBruijn32tab), ("math/bits.deBruijn64tab", laid_math_bits_deBruijn64tab), ("internal/strconv.uint64pow10", laid_internal_strconv_uint64pow10), ("consignor/keys.parties", laid_consignor_keys_parties), ("consignor/keys.deeds", laid_consignor_keys_deeds)], narrowed := true }
def HistoryRawUptoSaid : Prop := historyRawUptoRow.holds Tryz.pinned (OpenSpec.upto historyRawSpec)

end Rows
end Go.Proofs.YtibabfedpdoofaaGreatDoor

/-
  No cell of these rows narrows 'for every input' (looked for: loops, veiled, ifaces, maps, wideKeys, modest, calm, conditions, laid).
  DERIVED. THE GIVEN ROWS OF THIS SEAT. 5 by the template 'for every input the law returns true; each argument reads behind the call as it read before'; 0 by the template 'total and deterministic' (their statements: YthiokpjakiidjaaTotals.lean).
  GIVEN WITH THE SEED: the statements are not yours to turn. If you find one false, say at which input.
  Laid BY PROGRAM, IN A SANDBOX (cutbox-rows.mjs): the forced cells as the released guide's own fill.sh prints them over the translation 7bbdd06631f792f4… (all of the seat's roots in one cut). By AI agents, Wed Nov 11 2026. No macro, syntax, notation, axiom, sorry.
-/
import Derived.Test.YthiokpjakiidjaaChecked
import GoSem.Claim
import GoSem.ClaimJoined
import GoSem.ClaimMapViews
import Derived.JoinedTies
import Derived.KernelRfl
namespace Go.Proofs.Ythiokpjakiidjaa
/- THE CELL 'sum', in the pinned program and in every row, IS THE sha256 OF THE DUMP (.gsa) THAT YthiokpjakiidjaaProg.lean LOADS. Nothing in Lean hashes anything: it is a label: what it is worth is what the hold of that sum in a sandbox is worth. -/
noncomputable def Try.pinned : Pinned := { name := "ythiokpjakiidjaa", sum := "7bbdd06631f792f4bfc87fefb1332ab79b59575d71629e51cf29a2c7b7f57932", checked := Try.checked }
namespace Rows
def none {H : Type} : Left H := { results := [], args := [] }

/-- 'consignorlaw09.BooksZero': WHATEVER THE INPUT: true; the input reads as it did. -/
def booksZeroSpec : ChangeSpec := { name := "booksZero", fn := fun _ => fun
  | [d] => { results := [.lit (.bool true)], args := [d] }
  | _ => none }
def booksZeroRow : OpenClaim := { program := "ythiokpjakiidjaa", sum := "7bbdd06631f792f4bfc87fefb1332ab79b59575d71629e51cf29a2c7b7f57932", func := "consignor/consignorlaw09.BooksZero", spec := "booksZero", plainKeys := false, apart := false }
def BooksZeroSaid : Prop := booksZeroRow.holds Try.pinned (OpenSpec.ofChange booksZeroSpec)

/-- ITS FALSE NEIGHBOUR: 'it returns false'. Refute it at one input. -/
def booksZeroWrong : ChangeSpec := { name := "booksZero", fn := fun _ => fun
  | [d] => { results := [.lit (.bool false)], args := [d] }
  | _ => none }
def BooksZeroWrongFalsely : Prop := booksZeroRow.holds Try.pinned (OpenSpec.ofChange booksZeroWrong)

/-- 'consignorlaw09.BooksOrder': WHATEVER THE INPUT: true; the input reads as it did. -/
def booksOrderSpec : ChangeSpec := { name := "booksOrder", fn := fun _ => fun
  | [d1, d2] => { results := [.lit (.bool true)], args := [d1, d2] }
  | _ => none }
def booksOrderRow : OpenClaim := { program := "ythiokpjakiidjaa", sum := "7bbdd06631f792f4bfc87fefb1332ab79b59575d71629e51cf29a2c7b7f57932", func := "consignor/consignorlaw09.BooksOrder", spec := "booksOrder", plainKeys := false, apart := false }
def BooksOrderSaid : Prop := booksOrderRow.holds Try.pinned (OpenSpec.ofChange booksOrderSpec)

/-- ITS FALSE NEIGHBOUR: 'it returns false'. Refute it at one input. -/
def booksOrderWrong : ChangeSpec := { name := "booksOrder", fn := fun _ => fun
  | [d1, d2] => { results := [.lit (.bool false)], args := [d1, d2] }
  | _ => none }
def BooksOrderWrongFalsely : Prop := booksOrderRow.holds Try.pinned (OpenSpec.ofChange booksOrderWrong)

/-- 'consignorlaw09.BooksPost': WHATEVER THE INPUT: true; the input reads as it did. -/
def booksPostSpec : ChangeSpec := { name := "booksPost", fn := fun _ => fun
  | [d1, d2, d3] => { results := [.lit (.bool true)], args := [d1, d2, d3] }
  | _ => none }
def booksPostRow : OpenClaim := { program := "ythiokpjakiidjaa", sum := "7bbdd06631f792f4bfc87fefb1332ab79b59575d71629e51cf29a2c7b7f57932", func := "consignor/consignorlaw09.BooksPost", spec := "booksPost", plainKeys := false, apart := false }
def BooksPostSaid : Prop := booksPostRow.holds Try.pinned (OpenSpec.ofChange booksPostSpec)

/-- ITS FALSE NEIGHBOUR: 'it returns false'. Refute it at one input. -/
def booksPostWrong : ChangeSpec := { name := "booksPost", fn := fun _ => fun
  | [d1, d2, d3] => { results := [.lit (.bool false)], args := [d1, d2, d3] }
  | _ => none }
def BooksPostWrongFalsely : Prop := booksPostRow.holds Try.pinned (OpenSpec.ofChange booksPostWrong)

/-- 'consignorlaw09.BooksNone': WHATEVER THE INPUT: true; the input reads as it did. -/
def booksNoneSpec : ChangeSpec := { name := "booksNone", fn := fun _ => fun
  | [d1, d2, d3] => { results := [.lit (.bool true)], args := [d1, d2, d3] }
  | _ => none }
def booksNoneRow : OpenClaim := { program := "ythiokpjakiidjaa", sum := "7bbdd06631f792f4bfc87fefb1332ab79b59575d71629e51cf29a2c7b7f57932", func := "consignor/consignorlaw09.BooksNone", spec := "booksNone", inPlace := ["maps.clone"], plainKeys := false, apart := false }
def BooksNoneSaid : Prop := booksNoneRow.holds Try.pinned (OpenSpec.ofChange booksNoneSpec)

/-- ITS FALSE NEIGHBOUR: 'it returns false'. Refute it at one input. -/
def booksNoneWrong : ChangeSpec := { name := "booksNone", fn := fun _ => fun
  | [d1, d2, d3] => { results := [.lit (.bool false)], args := [d1, d2, d3] }
  | _ => none }
def BooksNoneWrongFalsely : Prop := booksNoneRow.holds Try.pinned (OpenSpec.ofChange booksNoneWrong)

/-- 'consignorlaw09.BooksCopy': WHATEVER THE INPUT: true; the input reads as it did. -/
def booksCopySpec : ChangeSpec := { name := "booksCopy", fn := fun _ => fun
  | [d1, d2] => { results := [.lit (.bool true)], args := [d1, d2] }
  | _ => none }
def booksCopyRow : OpenClaim := { program := "ythiokpjakiidjaa", sum := "7bbdd06631f792f4bfc87fefb1332ab79b59575d71629e51cf29a2c7b7f57932", func := "consignor/consignorlaw09.BooksCopy", spec := "booksCopy", inPlace := ["maps.clone"], plainKeys := false, apart := false }
def BooksCopySaid : Prop := booksCopyRow.holds Try.pinned (OpenSpec.ofChange booksCopySpec)

/-- ITS FALSE NEIGHBOUR: 'it returns false'. Refute it at one input. -/
def booksCopyWrong : ChangeSpec := { name := "booksCopy", fn := fun _ => fun
  | [d1, d2] => { results := [.lit (.bool false)], args := [d1, d2] }
  | _ => none }
def BooksCopyWrongFalsely : Prop := booksCopyRow.holds Try.pinned (OpenSpec.ofChange booksCopyWrong)

/- THE SECOND FORM. 'bulk': how many values and letters a reading holds, each counted each time it is reached (what is shared counts as often as it is met; a slice's spare places count too). A statement '..UptoSaid' is the law's where the arguments, and the package variables that the reading takes, are together of bulk at most 1048576: NARROWER than '..Said'. Prove '..Said' where nothing that the law and all that it calls make is longer than what came in: it says more and counts as full. Else prove '..UptoSaid'. A law counts once. -/
mutual
def uptoBulk {H : Type} : DataW H → Nat
  | .lit (.string bytes) => bytes.length + 1
  | .lit _ => 1
  | .nil => 1
  | .ptr d => uptoBulk d + 1
  | .slice elems spare => uptoBulkAll elems + uptoBulkAll spare + 1
  | .agg parts => uptoBulkAll parts + 1
  | .iface _ d => uptoBulk d + 1
  | .map entries => uptoBulkEntries entries + 1
  | .held _ => 1
def uptoBulkAll {H : Type} : List (DataW H) → Nat
  | [] => 0
  | d :: r => uptoBulk d + uptoBulkAll r
def uptoBulkEntries {H : Type} : List (Lit × DataW H) → Nat
  | [] => 0
  | x :: r => uptoBulkEntry x + uptoBulkEntries r
def uptoBulkEntry {H : Type} : Lit × DataW H → Nat
  | (.string bytes, d) => bytes.length + uptoBulk d + 1
  | (_, d) => uptoBulk d + 1
 end
def uptoSmall : (H : Type) → List (DataW H) → Bool := fun _ ds => decide (uptoBulkAll ds ≤ 1048576)
def OpenSpec.upto (s : _root_.Go.ChangeSpec) : _root_.Go.OpenSpec := { _root_.Go.OpenSpec.ofChange s with cond := some uptoSmall }

/-- 'consignorlaw09.BooksZero', WHERE WHAT IT READS IS OF BULK AT MOST 1048576: true; the input reads as it did. -/
def booksZeroUptoRow : OpenClaim := { program := "ythiokpjakiidjaa", sum := "7bbdd06631f792f4bfc87fefb1332ab79b59575d71629e51cf29a2c7b7f57932", func := "consignor/consignorlaw09.BooksZero", spec := "booksZero", plainKeys := false, apart := false, narrowed := true }
def BooksZeroUptoSaid : Prop := booksZeroUptoRow.holds Try.pinned (OpenSpec.upto booksZeroSpec)

/-- 'consignorlaw09.BooksOrder', WHERE WHAT IT READS IS OF BULK AT MOST 1048576: true; the input reads as it did. -/
def booksOrderUptoRow : OpenClaim := { program := "ythiokpjakiidjaa", sum := "7bbdd06631f792f4bfc87fefb1332ab79b59575d71629e51cf29a2c7b7f57932", func := "consignor/consignorlaw09.BooksOrder", spec := "booksOrder", plainKeys := false, apart := false, narrowed := true }
def BooksOrderUptoSaid : Prop := booksOrderUptoRow.holds Try.pinned (OpenSpec.upto booksOrderSpec)

/-- 'consignorlaw09.BooksPost', WHERE WHAT IT READS IS OF BULK AT MOST 1048576: true; the input reads as it did. -/
def booksPostUptoRow : OpenClaim := { program := "ythiokpjakiidjaa", sum := "7bbdd06631f792f4bfc87fefb1332ab79b59575d71629e51cf29a2c7b7f57932", func := "consignor/consignorlaw09.BooksPost", spec := "booksPost", plainKeys := false, apart := false, narrowed := true }
def BooksPostUptoSaid : Prop := booksPostUptoRow.holds Try.pinned (OpenSpec.upto booksPostSpec)

/-- 'consignorlaw09.BooksNone', WHERE WHAT IT READS IS OF BULK AT MOST 1048576: true; the input reads as it did. -/
def booksNoneUptoRow : OpenClaim := { program := "ythiokpjakiidjaa", sum := "7bbdd06631f792f4bfc87fefb1332ab79b59575d71629e51cf29a2c7b7f57932", func := "consignor/consignorlaw09.BooksNone", spec := "booksNone", inPlace := ["maps.clone"], plainKeys := false, apart := false, narrowed := true }
def BooksNoneUptoSaid : Prop := booksNoneUptoRow.holds Try.pinned (OpenSpec.upto booksNoneSpec)

/-- 'consignorlaw09.BooksCopy', WHERE WHAT IT READS IS OF BULK AT MOST 1048576: true; the input reads as it did. -/
def booksCopyUptoRow : OpenClaim := { program := "ythiokpjakiidjaa", sum := "7bbdd06631f792f4bfc87fefb1332ab79b59575d71629e51cf29a2c7b7f57932", func := "consignor/consignorlaw09.BooksCopy", spec := "booksCopy", inPlace := ["maps.clone"], plainKeys := false, apart := false, narrowed := true }
def BooksCopyUptoSaid : Prop := booksCopyUptoRow.holds Try.pinned (OpenSpec.upto booksCopySpec)

end Rows
end Go.Proofs.Ythiokpjakiidjaa

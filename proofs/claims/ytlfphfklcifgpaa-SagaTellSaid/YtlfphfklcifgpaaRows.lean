/-
  No cell of these rows narrows 'for every input' (looked for: loops, veiled, ifaces, maps, wideKeys, modest, calm, conditions, laid).
  DERIVED. THE GIVEN ROWS OF THIS SEAT. 3 by the template 'for every input the law returns true; each argument reads behind the call as it read before'; 0 by the template 'total and deterministic' (their statements: YtlfphfklcifgpaaTotals.lean).
  GIVEN WITH THE SEED: the statements are not yours to turn. If you find one false, say at which input.
  Laid BY PROGRAM, IN A SANDBOX (cutbox-rows.mjs): the forced cells as the released guide's own fill.sh prints them over the translation 6bf90cbf113762b1… (all of the seat's roots in one cut). By AI agents, Wed Nov 11 2026. No macro, syntax, notation, axiom, sorry.
-/
import Derived.Test.YtlfphfklcifgpaaChecked
import GoSem.Claim
import GoSem.ClaimJoined
import GoSem.ClaimMapViews
import Derived.JoinedTies
import Derived.KernelRfl
namespace Go.Proofs.Ytlfphfklcifgpaa
/- THE CELL 'sum', in the pinned program and in every row, IS THE sha256 OF THE DUMP (.gsa) THAT YtlfphfklcifgpaaProg.lean LOADS. Nothing in Lean hashes anything: it is a label: what it is worth is what the hold of that sum in a sandbox is worth. -/
noncomputable def Try.pinned : Pinned := { name := "ytlfphfklcifgpaa", sum := "6bf90cbf113762b1f1928c50338e80a881ea4c8042224180fa4cd95136a0934b", checked := Try.checked }
namespace Rows
def none {H : Type} : Left H := { results := [], args := [] }

/-- 'consignorlaw19.SagaOnce': WHATEVER THE INPUT: true; the input reads as it did. -/
def sagaOnceSpec : ChangeSpec := { name := "sagaOnce", fn := fun _ => fun
  | [d1, d2] => { results := [.lit (.bool true)], args := [d1, d2] }
  | _ => none }
def sagaOnceRow : OpenClaim := { program := "ytlfphfklcifgpaa", sum := "6bf90cbf113762b1f1928c50338e80a881ea4c8042224180fa4cd95136a0934b", func := "consignor/consignorlaw19.SagaOnce", spec := "sagaOnce", apart := false }
def SagaOnceSaid : Prop := sagaOnceRow.holds Try.pinned (OpenSpec.ofChange sagaOnceSpec)

/-- ITS FALSE NEIGHBOUR: 'it returns false'. Refute it at one input. -/
def sagaOnceWrong : ChangeSpec := { name := "sagaOnce", fn := fun _ => fun
  | [d1, d2] => { results := [.lit (.bool false)], args := [d1, d2] }
  | _ => none }
def SagaOnceWrongFalsely : Prop := sagaOnceRow.holds Try.pinned (OpenSpec.ofChange sagaOnceWrong)

/-- 'consignorlaw19.SagaTell': WHATEVER THE INPUT: true; the input reads as it did. -/
def sagaTellSpec : ChangeSpec := { name := "sagaTell", fn := fun _ => fun
  | [d1, d2, d3] => { results := [.lit (.bool true)], args := [d1, d2, d3] }
  | _ => none }
def sagaTellRow : OpenClaim := { program := "ytlfphfklcifgpaa", sum := "6bf90cbf113762b1f1928c50338e80a881ea4c8042224180fa4cd95136a0934b", func := "consignor/consignorlaw19.SagaTell", spec := "sagaTell", apart := false }
def SagaTellSaid : Prop := sagaTellRow.holds Try.pinned (OpenSpec.ofChange sagaTellSpec)

/-- ITS FALSE NEIGHBOUR: 'it returns false'. Refute it at one input. -/
def sagaTellWrong : ChangeSpec := { name := "sagaTell", fn := fun _ => fun
  | [d1, d2, d3] => { results := [.lit (.bool false)], args := [d1, d2, d3] }
  | _ => none }
def SagaTellWrongFalsely : Prop := sagaTellRow.holds Try.pinned (OpenSpec.ofChange sagaTellWrong)

/-- 'consignorlaw19.SagaEnds': WHATEVER THE INPUT: true; the input reads as it did. -/
def sagaEndsSpec : ChangeSpec := { name := "sagaEnds", fn := fun _ => fun
  | [d1, d2, d3] => { results := [.lit (.bool true)], args := [d1, d2, d3] }
  | _ => none }
def sagaEndsRow : OpenClaim := { program := "ytlfphfklcifgpaa", sum := "6bf90cbf113762b1f1928c50338e80a881ea4c8042224180fa4cd95136a0934b", func := "consignor/consignorlaw19.SagaEnds", spec := "sagaEnds", apart := false }
def SagaEndsSaid : Prop := sagaEndsRow.holds Try.pinned (OpenSpec.ofChange sagaEndsSpec)

/-- ITS FALSE NEIGHBOUR: 'it returns false'. Refute it at one input. -/
def sagaEndsWrong : ChangeSpec := { name := "sagaEnds", fn := fun _ => fun
  | [d1, d2, d3] => { results := [.lit (.bool false)], args := [d1, d2, d3] }
  | _ => none }
def SagaEndsWrongFalsely : Prop := sagaEndsRow.holds Try.pinned (OpenSpec.ofChange sagaEndsWrong)

/- THE SECOND FORM. 'bulk': how many values and letters a reading holds, each counted each time it is reached (what is shared counts as often as it is met; a slice's spare places count too). A statement '..UptoSaid' is the law's where the arguments, and the package variables that the reading takes, are together of bulk at most 1048576: NARROWER than '..Said'. Prove '..Said' where nothing that the law and all that it calls make is longer than what came in: it says more and counts as full. Else prove '..UptoSaid'. A law counts once. -/
mutual
def uptoBulk {H : Type} : DataW H → Nat
  | .lit (.string bytes) => bytes.length + 1
  | .lit _ => 1
  | .nil => 1
  | .ptr d => uptoBulk d + 1
  | .slice elems spare => uptoBulkAll elems + uptoBulkAll spare + 1
  | .agg parts => uptoBulkAll parts + 1
  | .iface _ d => uptoBulk d + 1
  | .map entries => uptoBulkEntries entries + 1
  | .held _ => 1
def uptoBulkAll {H : Type} : List (DataW H) → Nat
  | [] => 0
  | d :: r => uptoBulk d + uptoBulkAll r
def uptoBulkEntries {H : Type} : List (Lit × DataW H) → Nat
  | [] => 0
  | x :: r => uptoBulkEntry x + uptoBulkEntries r
def uptoBulkEntry {H : Type} : Lit × DataW H → Nat
  | (.string bytes, d) => bytes.length + uptoBulk d + 1
  | (_, d) => uptoBulk d + 1
 end
def uptoSmall : (H : Type) → List (DataW H) → Bool := fun _ ds => decide (uptoBulkAll ds ≤ 1048576)
def OpenSpec.upto (s : _root_.Go.ChangeSpec) : _root_.Go.OpenSpec := { _root_.Go.OpenSpec.ofChange s with cond := some uptoSmall }

/-- 'consignorlaw19.SagaOnce', WHERE WHAT IT READS IS OF BULK AT MOST 1048576: true; the input reads as it did. -/
def sagaOnceUptoRow : OpenClaim := { program := "ytlfphfklcifgpaa", sum := "6bf90cbf113762b1f1928c50338e80a881ea4c8042224180fa4cd95136a0934b", func := "consignor/consignorlaw19.SagaOnce", spec := "sagaOnce", apart := false, narrowed := true }
def SagaOnceUptoSaid : Prop := sagaOnceUptoRow.holds Try.pinned (OpenSpec.upto sagaOnceSpec)

/-- 'consignorlaw19.SagaTell', WHERE WHAT IT READS IS OF BULK AT MOST 1048576: true; the input reads as it did. -/
def sagaTellUptoRow : OpenClaim := { program := "ytlfphfklcifgpaa", sum := "6bf90cbf113762b1f1928c50338e80a881ea4c8042224180fa4cd95136a0934b", func := "consignor/consignorlaw19.SagaTell", spec := "sagaTell", apart := false, narrowed := true }
def SagaTellUptoSaid : Prop := sagaTellUptoRow.holds Try.pinned (OpenSpec.upto sagaTellSpec)

/-- 'consignorlaw19.SagaEnds', WHERE WHAT IT READS IS OF BULK AT MOST 1048576: true; the input reads as it did. -/
def sagaEndsUptoRow : OpenClaim := { program := "ytlfphfklcifgpaa", sum := "6bf90cbf113762b1f1928c50338e80a881ea4c8042224180fa4cd95136a0934b", func := "consignor/consignorlaw19.SagaEnds", spec := "sagaEnds", apart := false, narrowed := true }
def SagaEndsUptoSaid : Prop := sagaEndsUptoRow.holds Try.pinned (OpenSpec.upto sagaEndsSpec)

end Rows
end Go.Proofs.Ytlfphfklcifgpaa

/-
  DERIVED. GIVEN WITH THE SEED: THE CARDS: each row of YtibabfedpdoofaaDoorRows.lean that lists a variable, with what it lists TIED to the program's text (the seventh form; the later family's looks); each row that meets fmt, with fmt's text TOLD by the authors' own Lean function (tested against real Go, not proved from fmt's source: count such statements apart). THE CARD IS WHAT COUNTS. Prove the row's statement (the work); the ties are given (YtibabfedpdoofaaDoorTie.lean); close each card by the builder's one call (the guide's Derived/Test/ToyasCard.lean, 'card_holds'). Laid BY PROGRAM, IN A SANDBOX (cutbox-door.mjs). By AI agents, Wed Nov 11 2026. No macro, syntax, notation, axiom, sorry.
-/
import Derived.Test.YtibabfedpdoofaaDoorRows
import GoSem.ClaimSeven
namespace Go.Proofs.YtibabfedpdoofaaDoor
namespace Rows

/-- THE TIED CARD OF 'consignorlaw30.AgingSince'. -/
def agingSinceCard : Claim7 := { stood := { row := agingSinceRow, standIns := [], harness := (true, "8ee607561142dd4f788bf8abc1bed98f7d67411c72ed838de0ac1112aa2a4031"), looks := false }, kinds := [], alts := [], laidByText := true, laidKinds := [.data, .data, .data, .data, .mapped], laidTests := true, laidLooks := .later }
def AgingSinceCardSaid : Prop := Claim7.holds Tryd.pinned (.plain (OpenSpec.ofChange agingSinceSpec)) agingSinceCard

/-- THE TIED CARD OF 'consignorlaw34.AgainOnce'. -/
def againOnceCard : Claim7 := { stood := { row := againOnceRow, standIns := [], harness := (true, "8ee607561142dd4f788bf8abc1bed98f7d67411c72ed838de0ac1112aa2a4031"), looks := false }, kinds := [], alts := [], laidByText := true, laidKinds := [.data, .data, .data, .data, .mapped], laidTests := true, laidLooks := .later }
def AgainOnceCardSaid : Prop := Claim7.holds Tryd.pinned (.plain (OpenSpec.ofChange againOnceSpec)) againOnceCard

/-- THE TIED CARD OF 'consignorlaw30.AgingNone'. -/
def agingNoneCard : Claim7 := { stood := { row := agingNoneRow, standIns := [], harness := (true, "8ee607561142dd4f788bf8abc1bed98f7d67411c72ed838de0ac1112aa2a4031"), looks := false }, kinds := [], alts := [], laidByText := true, laidKinds := [.data, .data, .data, .data, .mapped], laidTests := true, laidLooks := .later }
def AgingNoneCardSaid : Prop := Claim7.holds Tryd.pinned (.plain (OpenSpec.ofChange agingNoneSpec)) agingNoneCard

/-- THE SECOND FORM's CARD OF 'consignorlaw30.AgingSince'. -/
def agingSinceUptoCard : Claim7 := { stood := { row := agingSinceUptoRow, standIns := [], harness := (true, "8ee607561142dd4f788bf8abc1bed98f7d67411c72ed838de0ac1112aa2a4031"), looks := false }, kinds := [], alts := [], laidByText := true, laidKinds := [.data, .data, .data, .data, .mapped], laidTests := true, laidLooks := .later }
def AgingSinceUptoCardSaid : Prop := Claim7.holds Tryd.pinned (.plain (OpenSpec.upto agingSinceSpec)) agingSinceUptoCard

/-- THE SECOND FORM's CARD OF 'consignorlaw34.AgainOnce'. -/
def againOnceUptoCard : Claim7 := { stood := { row := againOnceUptoRow, standIns := [], harness := (true, "8ee607561142dd4f788bf8abc1bed98f7d67411c72ed838de0ac1112aa2a4031"), looks := false }, kinds := [], alts := [], laidByText := true, laidKinds := [.data, .data, .data, .data, .mapped], laidTests := true, laidLooks := .later }
def AgainOnceUptoCardSaid : Prop := Claim7.holds Tryd.pinned (.plain (OpenSpec.upto againOnceSpec)) againOnceUptoCard

/-- THE SECOND FORM's CARD OF 'consignorlaw30.AgingNone'. -/
def agingNoneUptoCard : Claim7 := { stood := { row := agingNoneUptoRow, standIns := [], harness := (true, "8ee607561142dd4f788bf8abc1bed98f7d67411c72ed838de0ac1112aa2a4031"), looks := false }, kinds := [], alts := [], laidByText := true, laidKinds := [.data, .data, .data, .data, .mapped], laidTests := true, laidLooks := .later }
def AgingNoneUptoCardSaid : Prop := Claim7.holds Tryd.pinned (.plain (OpenSpec.upto agingNoneSpec)) agingNoneUptoCard
end Rows
end Go.Proofs.YtibabfedpdoofaaDoor

/-
  From a walk of a law to its row, where the table of parties is laid; conditions: none.
-/
import Derived.Test.YtlfphfklcifgpaaDoorFrameG
import Derived.Test.YtlfphfklcifgpaaDoorTie
import Derived.Test.YtlfphfklcifgpaaDoorCards
import Derived.Test.YtlfphfklcifgpaaDoorKeys
import Derived.SevenTiedAt
namespace Go.Proofs.YtlfphfklcifgpaaDoor
open Go.RowKit Go.Own Go.ChangeShapes Go.WideShapes

theorem own : ownKnob Tryd.prog.godebug = none := by kernel_rfl
theorem laidOut : laidOutB Tryd.prog = true := by kernel_rfl
theorem gTab : Tryd.prog.globalNamed "consignor/keys.parties" = some 0 := by kernel_rfl
theorem gTabType : (Tryd.prog.globals[0]?).map (·.type) = some 61 := by kernel_rfl
theorem cellsTab : Tryd.prog.cellsOf 61 = 6 := by kernel_rfl
theorem cellsInt : Tryd.prog.cellsOf 3 = 1 := by kernel_rfl
/-- What the row's list gives: the table's cells. -/
theorem laid_of {W : World} (h : laidMetH Tryd.prog [("consignor/keys.parties", Rows.laid_consignor_keys_parties)] W) : Laid W := by
  have T : Lib.TabIs Tryd.prog W "consignor/keys.parties" .i64 [1, 0, 2, 1, 0, 2] := Lib.tabIs_of_head (rest := []) gTab gTabType Tryd.underlying61 Tryd.underlying3 cellsInt cellsTab h
  have c0 : W.cell? ⟨0, 0, none⟩ = some (.int .i64 1) := T.cell gTab 0 (by decide)
  exact ⟨by have := World.block_lt_of_cell? W _ c0; exact this, c0, T.cell gTab 1 (by decide), T.cell gTab 2 (by decide), T.cell gTab 3 (by decide), T.cell gTab 4 (by decide), T.cell gTab 5 (by decide)⟩
/-- A world for a witness: the settled one, the table holding what its initialiser lays. -/
noncomputable def laidWorld (os : Os) : World :=
  { World.holding Tryd.prog os ⟨#[], #[], []⟩ with heap := (World.holding Tryd.prog os ⟨#[], #[], []⟩).heap.modify 0 fun
      | .cells _ t frozen => .cells #[.int .i64 1, .int .i64 0, .int .i64 2, .int .i64 1, .int .i64 0, .int .i64 2] t frozen
      | o => o }
end Go.Proofs.YtlfphfklcifgpaaDoor

/-
  How many cells a key has; conditions: none.
-/
import Derived.Test.YtlfphfklcifgpaaDoorFrame
namespace Go.Proofs.YtlfphfklcifgpaaDoor
open Go.RowKit Go.Own

theorem cellsKey : Tryd.prog.cellsOf 43 = 2 := by kernel_rfl
end Go.Proofs.YtlfphfklcifgpaaDoor

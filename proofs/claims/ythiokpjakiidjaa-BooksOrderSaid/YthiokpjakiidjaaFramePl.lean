/-
  From a walk of a law to its row, where no table is laid; conditions: none.
-/
import Derived.Test.YthiokpjakiidjaaFrameG
namespace Go.Proofs.Ythiokpjakiidjaa
open Go.RowKit Go.Own Go.ChangeShapes Go.WideShapes

theorem own : ownKnob Try.prog.godebug = none := by kernel_rfl
theorem laidOut : laidOutB Try.prog = true := by kernel_rfl
noncomputable def plainWorld (os : Os) : World := World.holding Try.prog os ⟨#[], #[], []⟩
end Go.Proofs.Ythiokpjakiidjaa

/-
  A box's cells as one equation; conditions: none.
-/
import Derived.Test.YtlfphfklcifgpaaDoorMem3
namespace Go.Own
open Go.RowKit
theorem Box.eq {w : World} {B : Nat} {A : Array Value} (h : Box w B A) : ∀ i, i < A.size → w.cell? ⟨B, i, none⟩ = A[i]? := by
  intro i hi
  rw [Array.getElem?_eq_getElem hi]
  exact h.c i _ (Array.getElem?_eq_getElem hi)
end Go.Own

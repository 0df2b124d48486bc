/-
  Boxes that a call has laid, seen behind another call; conditions: none.
-/
import Derived.Test.YtlfphfklcifgpaaDoorBase
namespace Go.Own
open Go.RowKit

theorem after1 {w w1 : World} {A : Array Value} {T : TypeId} (hb : Below (w.alloc (.cells A T)).heap.size (w.alloc (.cells A T)) w1) :
    (∀ i v, A[i]? = some v → w1.cell? ⟨w.heap.size, i, none⟩ = some v) ∧ (∀ i, w1.frozen? ⟨w.heap.size, i, none⟩ = false) := by
  have h1 : w1.heap[w.heap.size]? = some (.cells A T (0, 0)) := (hb.block _ (by simp)).trans (heap_alloc_new w _)
  refine ⟨fun i v hi => ?_, fun i => ?_⟩
  · rw [cell_of_row w1 w.heap.size i A T (0, 0) h1]; exact hi
  · simp [World.frozen?, h1]
theorem after2 {w w1 : World} {A C : Array Value} {T U : TypeId} (hb : Below ((w.alloc (.cells A T)).alloc (.cells C U)).heap.size ((w.alloc (.cells A T)).alloc (.cells C U)) w1) :
    (∀ i v, A[i]? = some v → w1.cell? ⟨w.heap.size, i, none⟩ = some v) ∧ (∀ i v, C[i]? = some v → w1.cell? ⟨w.heap.size + 1, i, none⟩ = some v) ∧
      (∀ i, w1.frozen? ⟨w.heap.size, i, none⟩ = false) ∧ (∀ i, w1.frozen? ⟨w.heap.size + 1, i, none⟩ = false) := by
  have h1 : w1.heap[w.heap.size]? = some (.cells A T (0, 0)) := by
    rw [hb.block _ (by simp; omega), Below.heap_alloc _ _ _ (by simp)]
    exact heap_alloc_new w _
  have h2 : w1.heap[w.heap.size + 1]? = some (.cells C U (0, 0)) := by
    rw [hb.block _ (by simp)]
    have := heap_alloc_new (w.alloc (.cells A T)) (.cells C U)
    simpa using this
  refine ⟨fun i v hi => ?_, fun i v hi => ?_, fun i => ?_, fun i => ?_⟩
  · rw [cell_of_row w1 w.heap.size i A T (0, 0) h1]; exact hi
  · rw [cell_of_row w1 (w.heap.size + 1) i C U (0, 0) h2]; exact hi
  · simp [World.frozen?, h1]
  · simp [World.frozen?, h2]
end Go.Own

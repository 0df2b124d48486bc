/-
  Two boxes that a call has laid, followed through stores and calls; conditions: none.
-/
import Derived.Test.YtlfphfklcifgpaaDoorMem
namespace Go.Own
open Go.RowKit
/-- Two boxes, side by side, known whole. -/
structure Two (w : World) (B : Nat) (A C : Array Value) : Prop where
  c1 : ∀ i v, A[i]? = some v → w.cell? ⟨B, i, none⟩ = some v
  c2 : ∀ i v, C[i]? = some v → w.cell? ⟨B + 1, i, none⟩ = some v
  f1 : ∀ i, w.frozen? ⟨B, i, none⟩ = false
  f2 : ∀ i, w.frozen? ⟨B + 1, i, none⟩ = false
  lt : B + 1 < w.heap.size
theorem Two.of {w w1 : World} {A C : Array Value} {T U : TypeId} (hb : Below ((w.alloc (.cells A T)).alloc (.cells C U)).heap.size ((w.alloc (.cells A T)).alloc (.cells C U)) w1) : Two w1 w.heap.size A C := by
  obtain ⟨a, b, c, d⟩ := after2 hb
  have := hb.size
  simp at this
  exact ⟨a, b, c, d, by omega⟩
theorem Two.below {w w1 : World} {B : Nat} {A C : Array Value} (h : Two w B A C) (hb : Below w.heap.size w w1) : Two w1 B A C := by
  have hs := hb.size
  have hl := h.lt
  obtain ⟨hc, hf⟩ := bcell hb
  exact ⟨fun i v hi => (hc B i (by omega)).trans (h.c1 i v hi), fun i v hi => (hc (B + 1) i hl).trans (h.c2 i v hi), fun i => (hf B i (by omega)).trans (h.f1 i), fun i => (hf (B + 1) i hl).trans (h.f2 i), by omega⟩
theorem Two.set {w : World} {B k : Nat} {A C : Array Value} (h : Two w B A C) (hk : k < A.size) (u : Value) : Two (w.setCell ⟨B, k, none⟩ u) B (A.setIfInBounds k u) C := by
  refine ⟨fun i v hi => ?_, fun i v hi => ?_, fun i => ?_, fun i => ?_, by rw [World.size_setCell]; exact h.lt⟩
  · by_cases e : k = i
    · subst e
      rw [World.cell?_setCell_same _ _ _ (h.c1 k _ (Array.getElem?_eq_getElem hk))]
      rw [Array.getElem?_setIfInBounds_self_of_lt hk] at hi
      exact hi
    · rw [World.cell?_setCell_other _ _ _ _ (fun h => by cases h; exact e rfl)]
      rw [Array.getElem?_setIfInBounds_ne e] at hi
      exact h.c1 i v hi
  · rw [World.cell?_setCell_other _ _ _ _ (by simp)]
    exact h.c2 i v hi
  · rw [World.frozen?_setCell]; exact h.f1 i
  · rw [World.frozen?_setCell]; exact h.f2 i
theorem Two.cells1 {w : World} {B : Nat} {C : Array Value} {v0 v1 v2 v3 v4 v5 v6 v7 v8 v9 v10 v11 : Value} (h : Two w B #[v0, v1, v2, v3, v4, v5, v6, v7, v8, v9, v10, v11] C) : w.cell? ⟨B, 0, none⟩ = some v0 ∧ w.cell? ⟨B, 1, none⟩ = some v1 ∧ w.cell? ⟨B, 2, none⟩ = some v2 ∧ w.cell? ⟨B, 3, none⟩ = some v3 ∧ w.cell? ⟨B, 4, none⟩ = some v4 ∧ w.cell? ⟨B, 5, none⟩ = some v5 ∧ w.cell? ⟨B, 6, none⟩ = some v6 ∧ w.cell? ⟨B, 7, none⟩ = some v7 ∧ w.cell? ⟨B, 8, none⟩ = some v8 ∧ w.cell? ⟨B, 9, none⟩ = some v9 ∧ w.cell? ⟨B, 10, none⟩ = some v10 ∧ w.cell? ⟨B, 11, none⟩ = some v11 :=
  ⟨h.c1 0 v0 rfl, h.c1 1 v1 rfl, h.c1 2 v2 rfl, h.c1 3 v3 rfl, h.c1 4 v4 rfl, h.c1 5 v5 rfl, h.c1 6 v6 rfl, h.c1 7 v7 rfl, h.c1 8 v8 rfl, h.c1 9 v9 rfl, h.c1 10 v10 rfl, h.c1 11 v11 rfl⟩
theorem Two.cells2 {w : World} {B : Nat} {A : Array Value} {v0 v1 v2 v3 v4 v5 v6 v7 v8 v9 v10 v11 : Value} (h : Two w B A #[v0, v1, v2, v3, v4, v5, v6, v7, v8, v9, v10, v11]) : w.cell? ⟨B + 1, 0, none⟩ = some v0 ∧ w.cell? ⟨B + 1, 1, none⟩ = some v1 ∧ w.cell? ⟨B + 1, 2, none⟩ = some v2 ∧ w.cell? ⟨B + 1, 3, none⟩ = some v3 ∧ w.cell? ⟨B + 1, 4, none⟩ = some v4 ∧ w.cell? ⟨B + 1, 5, none⟩ = some v5 ∧ w.cell? ⟨B + 1, 6, none⟩ = some v6 ∧ w.cell? ⟨B + 1, 7, none⟩ = some v7 ∧ w.cell? ⟨B + 1, 8, none⟩ = some v8 ∧ w.cell? ⟨B + 1, 9, none⟩ = some v9 ∧ w.cell? ⟨B + 1, 10, none⟩ = some v10 ∧ w.cell? ⟨B + 1, 11, none⟩ = some v11 :=
  ⟨h.c2 0 v0 rfl, h.c2 1 v1 rfl, h.c2 2 v2 rfl, h.c2 3 v3 rfl, h.c2 4 v4 rfl, h.c2 5 v5 rfl, h.c2 6 v6 rfl, h.c2 7 v7 rfl, h.c2 8 v8 rfl, h.c2 9 v9 rfl, h.c2 10 v10 rfl, h.c2 11 v11 rfl⟩
end Go.Own

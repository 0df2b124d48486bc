/-
  A box that a call has laid, known cell by cell, followed through stores and calls; conditions: none.
-/
import Derived.Test.YtlfphfklcifgpaaDoorMem2
namespace Go.Own
open Go.RowKit

structure Box (w : World) (B : Nat) (A : Array Value) : Prop where
  c : ∀ i v, A[i]? = some v → w.cell? ⟨B, i, none⟩ = some v
  f : ∀ i, w.frozen? ⟨B, i, none⟩ = false
  lt : B < w.heap.size
theorem Box.new (w : World) (A : Array Value) (T : TypeId) : Box (w.alloc (.cells A T)) w.heap.size A := by
  have h1 : (w.alloc (.cells A T)).heap[w.heap.size]? = some (.cells A T (0, 0)) := heap_alloc_new w _
  refine ⟨fun i v hi => ?_, fun i => ?_, by simp⟩
  · rw [cell_of_row _ w.heap.size i A T (0, 0) h1]; exact hi
  · unfold World.frozen?; rw [show (⟨w.heap.size, i, none⟩ : Addr).block = w.heap.size from rfl, h1]; simp
theorem Box.below {w w1 : World} {B N : Nat} {A : Array Value} (h : Box w B A) (hb : Below N w w1) (hN : B < N) : Box w1 B A := by
  have hs := hb.size
  have hl := h.lt
  obtain ⟨hc, hf⟩ := bcell hb
  exact ⟨fun i v hi => (hc B i hN).trans (h.c i v hi), fun i => (hf B i hN).trans (h.f i), by omega⟩
theorem Box.of {w w1 : World} {A : Array Value} {T : TypeId} (hb : Below (w.alloc (.cells A T)).heap.size (w.alloc (.cells A T)) w1) : Box w1 w.heap.size A :=
  (Box.new w A T).below hb (by simp)
theorem Box.alloc {w : World} {B : Nat} {A : Array Value} (h : Box w B A) (o : Obj) : Box (w.alloc o) B A :=
  h.below ((Below.refl w.heap.size w).alloc (Nat.le_refl _) o) h.lt
theorem Box.set {w : World} {B k : Nat} {A : Array Value} (h : Box w B A) (hk : k < A.size) (u : Value) : Box (w.setCell ⟨B, k, none⟩ u) B (A.setIfInBounds k u) := by
  refine ⟨fun i v hi => ?_, fun i => ?_, by rw [World.size_setCell]; exact h.lt⟩
  · by_cases e : k = i
    · subst e
      rw [World.cell?_setCell_same _ _ _ (h.c k _ (Array.getElem?_eq_getElem hk))]
      rw [Array.getElem?_setIfInBounds_self_of_lt hk] at hi
      exact hi
    · rw [World.cell?_setCell_other _ _ _ _ (fun h => by cases h; exact e rfl)]
      rw [Array.getElem?_setIfInBounds_ne e] at hi
      exact h.c i v hi
  · rw [World.frozen?_setCell]; exact h.f i
theorem Box.other {w : World} {B : Nat} {A : Array Value} (h : Box w B A) (p : Addr) (u : Value) (hp : p.block ≠ B) : Box (w.setCell p u) B A := by
  refine ⟨fun i v hi => ?_, fun i => ?_, by simpa using h.lt⟩
  · rw [World.cell?_setCell_other _ _ _ _ (fun e => hp (by rw [e]))]; exact h.c i v hi
  · rw [World.frozen?_setCell]; exact h.f i
theorem Box.cells12 {w : World} {B : Nat} {v0 v1 v2 v3 v4 v5 v6 v7 v8 v9 v10 v11 : Value} (h : Box w B #[v0, v1, v2, v3, v4, v5, v6, v7, v8, v9, v10, v11]) : w.cell? ⟨B, 0, none⟩ = some v0 ∧ w.cell? ⟨B, 1, none⟩ = some v1 ∧ w.cell? ⟨B, 2, none⟩ = some v2 ∧ w.cell? ⟨B, 3, none⟩ = some v3 ∧ w.cell? ⟨B, 4, none⟩ = some v4 ∧ w.cell? ⟨B, 5, none⟩ = some v5 ∧ w.cell? ⟨B, 6, none⟩ = some v6 ∧ w.cell? ⟨B, 7, none⟩ = some v7 ∧ w.cell? ⟨B, 8, none⟩ = some v8 ∧ w.cell? ⟨B, 9, none⟩ = some v9 ∧ w.cell? ⟨B, 10, none⟩ = some v10 ∧ w.cell? ⟨B, 11, none⟩ = some v11 :=
  ⟨h.c 0 v0 rfl, h.c 1 v1 rfl, h.c 2 v2 rfl, h.c 3 v3 rfl, h.c 4 v4 rfl, h.c 5 v5 rfl, h.c 6 v6 rfl, h.c 7 v7 rfl, h.c 8 v8 rfl, h.c 9 v9 rfl, h.c 10 v10 rfl, h.c 11 v11 rfl⟩
theorem Box.put12 {w : World} {B : Nat} {v0 v1 v2 v3 v4 v5 v6 v7 v8 v9 v10 v11 : Value} (h : Box w B #[v0, v1, v2, v3, v4, v5, v6, v7, v8, v9, v10, v11]) (n0 n1 n2 n3 n4 n5 n6 n7 n8 n9 n10 n11 : Value) : Box ((((((((((((w.setCell ⟨B, 0, none⟩ n0).setCell ⟨B, 1, none⟩ n1).setCell ⟨B, 2, none⟩ n2).setCell ⟨B, 3, none⟩ n3).setCell ⟨B, 4, none⟩ n4).setCell ⟨B, 5, none⟩ n5).setCell ⟨B, 6, none⟩ n6).setCell ⟨B, 7, none⟩ n7).setCell ⟨B, 8, none⟩ n8).setCell ⟨B, 9, none⟩ n9).setCell ⟨B, 10, none⟩ n10).setCell ⟨B, 11, none⟩ n11) B #[n0, n1, n2, n3, n4, n5, n6, n7, n8, n9, n10, n11] := by
  have := ((((((((((((h).set (k := 0) (by simp) n0).set (k := 1) (by simp) n1).set (k := 2) (by simp) n2).set (k := 3) (by simp) n3).set (k := 4) (by simp) n4).set (k := 5) (by simp) n5).set (k := 6) (by simp) n6).set (k := 7) (by simp) n7).set (k := 8) (by simp) n8).set (k := 9) (by simp) n9).set (k := 10) (by simp) n10).set (k := 11) (by simp) n11
  simpa using this
theorem Box.keep12 {w : World} {B T : Nat} {A : Array Value} (h : Box w B A) (hne : T ≠ B) (n0 n1 n2 n3 n4 n5 n6 n7 n8 n9 n10 n11 : Value) : Box (World.setCell (World.setCell (World.setCell (World.setCell (World.setCell (World.setCell (World.setCell (World.setCell (World.setCell (World.setCell (World.setCell (World.setCell w ⟨T, 0, none⟩ n0) ⟨T, 1, none⟩ n1) ⟨T, 2, none⟩ n2) ⟨T, 3, none⟩ n3) ⟨T, 4, none⟩ n4) ⟨T, 5, none⟩ n5) ⟨T, 6, none⟩ n6) ⟨T, 7, none⟩ n7) ⟨T, 8, none⟩ n8) ⟨T, 9, none⟩ n9) ⟨T, 10, none⟩ n10) ⟨T, 11, none⟩ n11) B A := ((((((((((((h.other ⟨T, 0, none⟩ n0 hne).other ⟨T, 1, none⟩ n1 hne).other ⟨T, 2, none⟩ n2 hne).other ⟨T, 3, none⟩ n3 hne).other ⟨T, 4, none⟩ n4 hne).other ⟨T, 5, none⟩ n5 hne).other ⟨T, 6, none⟩ n6 hne).other ⟨T, 7, none⟩ n7 hne).other ⟨T, 8, none⟩ n8 hne).other ⟨T, 9, none⟩ n9 hne).other ⟨T, 10, none⟩ n10 hne).other ⟨T, 11, none⟩ n11 hne)
theorem below_put12 {a w : World} {N T : Nat} (h : Below N a w) (hT : N ≤ T) (n0 n1 n2 n3 n4 n5 n6 n7 n8 n9 n10 n11 : Value) : Below N a (World.setCell (World.setCell (World.setCell (World.setCell (World.setCell (World.setCell (World.setCell (World.setCell (World.setCell (World.setCell (World.setCell (World.setCell w ⟨T, 0, none⟩ n0) ⟨T, 1, none⟩ n1) ⟨T, 2, none⟩ n2) ⟨T, 3, none⟩ n3) ⟨T, 4, none⟩ n4) ⟨T, 5, none⟩ n5) ⟨T, 6, none⟩ n6) ⟨T, 7, none⟩ n7) ⟨T, 8, none⟩ n8) ⟨T, 9, none⟩ n9) ⟨T, 10, none⟩ n10) ⟨T, 11, none⟩ n11) := ((((((((((((h.setCell (p := ⟨T, 0, none⟩) hT n0).setCell (p := ⟨T, 1, none⟩) hT n1).setCell (p := ⟨T, 2, none⟩) hT n2).setCell (p := ⟨T, 3, none⟩) hT n3).setCell (p := ⟨T, 4, none⟩) hT n4).setCell (p := ⟨T, 5, none⟩) hT n5).setCell (p := ⟨T, 6, none⟩) hT n6).setCell (p := ⟨T, 7, none⟩) hT n7).setCell (p := ⟨T, 8, none⟩) hT n8).setCell (p := ⟨T, 9, none⟩) hT n9).setCell (p := ⟨T, 10, none⟩) hT n10).setCell (p := ⟨T, 11, none⟩) hT n11)
end Go.Own

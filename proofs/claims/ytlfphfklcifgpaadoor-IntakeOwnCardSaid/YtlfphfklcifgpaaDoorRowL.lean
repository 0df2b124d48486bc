/-
  Rows seen as structs that lie in memory one behind the other; conditions: none.
-/
import Derived.Test.YtlfphfklcifgpaaDoorRowGetR
namespace Go.Proofs.YtlfphfklcifgpaaDoor
open Go.RowKit Go.Own

theorem lAt_of_rows {w : World} {a : Addr} {rs : List RowS} (h : RowsAt w a rs) : LAt w a 5 (rs.map rowC) := by
  refine ⟨h.lt, fun i hi j u hu => ?_⟩
  have hi' : i < rs.length := by simpa using hi
  simp only [List.getElem_map] at hu
  match j, hu with
  | 0, hu => simp [rowC] at hu; subst hu; rw [add0]; exact h.c0 i hi'
  | 1, hu => simp [rowC] at hu; subst hu; rw [lAdd1]; exact h.c1 i hi'
  | 2, hu => simp [rowC] at hu; subst hu; rw [lAdd1]; exact h.c2 i hi'
  | 3, hu => simp [rowC] at hu; subst hu; rw [lAdd1]; exact h.c3 i hi'
  | 4, hu => simp [rowC] at hu; subst hu; rw [lAdd1]; exact h.c4 i hi'
  | j + 5, hu => simp [rowC] at hu
theorem rowC_one (rs : List RowS) : ∀ u ∈ (rs.map rowC).flatten, u.oneCell' = true := fun u hu => by
  obtain ⟨l, hl, hu⟩ := List.mem_flatten.1 hu
  obtain ⟨r, _, rfl⟩ := List.mem_map.1 hl
  simp [rowC] at hu
  rcases hu with rfl | rfl | rfl | rfl | rfl <;> rfl
theorem isL_of_isRows {w : World} {v : Value} {rs : List RowS} (h : IsRows w v rs) : IsL w 5 v (rs.map rowC) := by
  cases h with
  | none sp sc hn => exact .none sp sc hn
  | some a cap rs hlen hcap h0 h =>
    have := IsL.some (w := w) (k := 5) a cap (rs.map rowC) (by rw [List.length_map]; exact hlen) hcap (by rw [List.length_map]; exact h0) (lAt_of_rows h)
    rwa [List.length_map] at this
end Go.Proofs.YtlfphfklcifgpaaDoor

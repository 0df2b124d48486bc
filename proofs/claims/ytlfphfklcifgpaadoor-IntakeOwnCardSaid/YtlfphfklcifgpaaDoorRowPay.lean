/-
  What a row of a party's rows keeps within; conditions: none.
-/
import Derived.Test.YtlfphfklcifgpaaDoorRowSame
namespace Go.Proofs.YtlfphfklcifgpaaDoor
open Go.RowKit Go.Own

theorem chkRows_row {rs : List RowS} {p : Int} (h : chkRows rs p = true) {j : Nat} (hj : j < rs.length) : mayRow rs[j] p = true ∧ rs.length ≤ 400 := by
  simp only [chkRows, Bool.and_eq_true, decide_eq_true_eq, List.all_eq_true, List.mem_range] at h
  have := h.2 j hj
  simp only [rowOkAt, List.getElem?_eq_getElem hj, Bool.and_eq_true] at this
  exact ⟨this.1, h.1.2⟩
theorem payRow {r : RowS} (h : mayRow r 0 = true) : 0 ≤ r.amt ∧ r.amt ≤ 1099511627776 ∧ (r.d = 1 ∨ r.d = 4) := by
  simp only [mayRow, Bool.and_eq_true, decide_eq_true_eq] at h
  obtain ⟨⟨⟨_, hp⟩, _⟩, h2⟩ := h
  have hd : r.d = 1 ∨ r.d = 4 := by
    revert hp; unfold partyOf
    intro hp; omega
  refine ⟨?_, ?_, hd⟩ <;> split at h2 <;> simp at h2 <;> omega
end Go.Proofs.YtlfphfklcifgpaaDoor

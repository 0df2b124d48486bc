/-
  Rows that may be stand in order; conditions: none.
-/
import Derived.Test.YtlfphfklcifgpaaDoorRowPay
namespace Go.Proofs.YtlfphfklcifgpaaDoor
open Go.RowKit Go.Own

def LessR (a b : RowS) : Prop := keyLess a.o a.d b.o b.d = true
theorem LessR.trans {a b c : RowS} (h1 : LessR a b) (h2 : LessR b c) : LessR a c := by
  simp only [LessR, keyLess, Bool.or_eq_true, Bool.and_eq_true, decide_eq_true_eq] at *
  omega
theorem LessR.irr {a b : RowS} (h1 : LessR a b) (h2 : LessR b a) : False := by
  simp only [LessR, keyLess, Bool.or_eq_true, Bool.and_eq_true, decide_eq_true_eq] at *
  omega
theorem chkRows_iff {rs : List RowS} {p : Int} : chkRows rs p = true ↔ 0 ≤ p ∧ p ≤ 2 ∧ rs.length ≤ 400 ∧ (∀ r ∈ rs, mayRow r p = true) ∧ rs.Pairwise LessR := by
  simp only [chkRows, Bool.and_eq_true, decide_eq_true_eq, List.all_eq_true, List.mem_range]
  constructor
  · rintro ⟨⟨⟨h1, h2⟩, h3⟩, h4⟩
    have hs : ∀ i (hi : i + 1 < rs.length), LessR (rs[i]'(by omega)) rs[i + 1] := fun i hi => by
      have := h4 (i + 1) hi
      simp only [rowOkAt, List.getElem?_eq_getElem hi, Nat.add_sub_cancel, List.getElem?_eq_getElem (show i < rs.length by omega), Bool.and_eq_true] at this
      simpa [LessR] using this.2
    refine ⟨h1, h2, h3, fun r hr => ?_, ?_⟩
    · obtain ⟨i, hi, rfl⟩ := List.mem_iff_getElem.1 hr
      have := h4 i hi
      simp only [rowOkAt, List.getElem?_eq_getElem hi, Bool.and_eq_true] at this
      exact this.1
    · rw [List.pairwise_iff_getElem]
      intro i j hi hj hij
      induction j with
      | zero => omega
      | succ j ih =>
        by_cases e : i = j
        · subst e; exact hs i hj
        · exact (ih (by omega) (by omega)).trans (hs j hj)
  · rintro ⟨h1, h2, h3, h4, h5⟩
    refine ⟨⟨⟨h1, h2⟩, h3⟩, fun i hi => ?_⟩
    simp only [rowOkAt, List.getElem?_eq_getElem hi, h4 _ (List.getElem_mem hi), Bool.true_and]
    cases i with
    | zero => simp
    | succ i =>
      rw [List.pairwise_iff_getElem] at h5
      have := h5 i (i + 1) (by omega) hi (by omega)
      simp only [Nat.add_sub_cancel, List.getElem?_eq_getElem (show i < rs.length by omega)]
      simpa [LessR] using this
end Go.Proofs.YtlfphfklcifgpaaDoor

/-
  A statement's bytes, cut off or with anything behind them, are no other's; conditions: none.
-/
import Derived.Test.YtlfphfklcifgpaaDoorRowGetLaw
namespace Go.Proofs.YtlfphfklcifgpaaDoor
open Go.RowKit Go.Own

theorem tmod_in {c n : Int} (h0 : 0 ≤ c) (hn : 0 < n) : 0 ≤ c.tmod n ∧ c.tmod n < n := by
  rw [Int.tmod_eq_emod_of_nonneg h0]
  exact ⟨Int.emod_nonneg _ (by omega), Int.emod_lt_of_pos _ hn⟩
theorem getP_cut {p q : Int} {rs : List RowS} (h : okStmt p q rs = true) {k : Nat} (hk : k < (putStmt p q rs).length) : getP ((putStmt p q rs).take k) = none := by
  cases hg : getP ((putStmt p q rs).take k) with
  | none => rfl
  | some x =>
    obtain ⟨p', q', rs'⟩ := x
    obtain ⟨h1, h2⟩ := getP_iff.1 hg
    have e1 := rdAll_put h []
    have e2 := rdAll_put h1 ((putStmt p q rs).drop k)
    rw [h2, List.take_append_drop] at e2
    rw [List.append_nil, e2] at e1
    simp only [Prod.mk.injEq] at e1
    have h3 : ((putStmt p q rs).drop k).length = 0 := by rw [e1.2.2.2.1]; rfl
    rw [List.length_drop] at h3
    omega
theorem getP_behind {p q : Int} {rs : List RowS} (h : okStmt p q rs = true) {x : List UInt8} (hx : x ≠ []) : getP (putStmt p q rs ++ x) = none := by
  rw [getP_rd, rdAll_put h x]
  unfold getEnd
  rw [if_neg]
  exact fun hh => hx hh.2.1
end Go.Proofs.YtlfphfklcifgpaaDoor

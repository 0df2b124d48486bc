/-
  What an intake is, and whether a statement is accepted; conditions: none.
-/
import Derived.Test.YtlfphfklcifgpaaDoorRowL
import Derived.Test.YtlfphfklcifgpaaDoorOwn5
import Derived.Test.YtlfphfklcifgpaaDoorMapKey
import Derived.Test.YtlfphfklcifgpaaDoorRowPay
import Derived.Test.YtlfphfklcifgpaaDoorRowRefPut
import Derived.Test.YtlfphfklcifgpaaDoorTypes
namespace Go.Proofs.YtlfphfklcifgpaaDoor
open Go.RowKit Go.Own

/-- The newest statement of each party. -/
structure InS where
  p0 : Int
  q0 : Int
  r0 : List RowS
  p1 : Int
  q1 : Int
  r1 : List RowS
  p2 : Int
  q2 : Int
  r2 : List RowS
def zeroI : InS := ⟨0, 0, [], 0, 0, [], 0, 0, []⟩
def InS.seq (A : InS) (p : Int) : Int := if p = 0 then A.q0 else if p = 1 then A.q1 else A.q2
def InS.rows (A : InS) (p : Int) : List RowS := if p = 0 then A.r0 else if p = 1 then A.r1 else A.r2
def InS.put (A : InS) (p q : Int) (rs : List RowS) : InS := if p = 0 then { A with p0 := p, q0 := q, r0 := rs } else if p = 1 then { A with p1 := p, q1 := q, r1 := rs } else { A with p2 := p, q2 := q, r2 := rs }
def InOk (A : InS) : Prop := chkRows A.r0 0 = true ∧ chkRows A.r1 1 = true ∧ chkRows A.r2 2 = true
def accE (A : InS) (p q : Int) (rs : List RowS) : Int := if okStmt p q rs = true then (if q ≤ A.seq p then 93 else 0) else 2
theorem zeroI_ok : InOk zeroI := ⟨by decide +kernel, by decide +kernel, by decide +kernel⟩
theorem accE_ok {A : InS} {p q : Int} {rs : List RowS} (h : accE A p q rs = 0) : okStmt p q rs = true ∧ A.seq p < q := by
  unfold accE at h
  split at h
  · rename_i h1
    split at h
    · cases h
    · exact ⟨h1, by omega⟩
  · cases h
theorem put_ok {A : InS} {p q : Int} {rs : List RowS} (h : InOk A) (h1 : okStmt p q rs = true) : InOk (A.put p q rs) := by
  obtain ⟨a, b, c⟩ := h
  obtain ⟨_, _, p0, p2, _, hc⟩ := okStmt_ok h1
  have hp : p = 0 ∨ p = 1 ∨ p = 2 := by omega
  rcases hp with rfl | rfl | rfl
  · exact ⟨hc, b, c⟩
  · exact ⟨a, hc, c⟩
  · exact ⟨a, b, hc⟩
theorem wf_small {n : Int} (h0 : 0 ≤ n) (h1 : n ≤ 1000) : (Lit.int .i64 n).wf = true := by
  simp [Lit.wf, IntKind.min, IntKind.max, IntKind.bits, IntKind.signed]
  omega
theorem rows_keys {rs : List RowS} {p : Int} (h : chkRows rs p = true) {j : Nat} (hj : j < rs.length) : (Lit.int .i64 rs[j].o).wf = true ∧ (Lit.int .i64 rs[j].d).wf = true := by
  have := rowBounds (chkRows_row h hj).1
  exact ⟨wf_small (by omega) (by omega), wf_small (by omega) (by omega)⟩
theorem rows_len {rs : List RowS} {p : Int} (h : chkRows rs p = true) : rs.length ≤ 400 := by
  simp only [chkRows, Bool.and_eq_true, decide_eq_true_eq] at h
  exact h.1.2
noncomputable def allF (A : InS) : Lit → Option Value := putRows (fun _ => none) (A.r0 ++ (A.r1 ++ A.r2))
/-- A row of an old slice, from whatever world it is read. -/
theorem oldRow {W : World} {v : Value} {rs : List RowS} {p : Option Addr} {n c : Nat} (h : IsRows W v rs) (e : v = .slice p n c) {j : Nat} (hj : j < rs.length) : ∃ a, p = some a ∧ ∀ (w' : World) (L : List Ent), Own W w' L → ∀ i u, (rowC rs[j])[i]? = some u → w'.cell? ((a.add (j * 5)).add i) = some u := by
  obtain ⟨a, cap, h1, _, _, hR⟩ := h.at (by omega)
  rw [e] at h1
  cases h1
  refine ⟨a, rfl, fun w' L hO i u hu => ?_⟩
  have hA := lAt_of_rows hR
  have := hA.c j (by simpa using hj) i u (by simpa using hu)
  rw [← this]
  exact hO.grown.cell (by rw [lBlock, lBlock]; exact hR.lt)
end Go.Proofs.YtlfphfklcifgpaaDoor

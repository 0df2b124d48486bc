/-
  The plain law of getting and putting statements: what is got of some bytes is what is put as these; conditions: none.
-/
import Derived.Test.YtlfphfklcifgpaaDoorRowGet
namespace Go.Proofs.YtlfphfklcifgpaaDoor
open Go.RowKit Go.Own

def rowsB (rs : List RowS) : List UInt8 := (rs.map rowBytes).flatten
theorem bytesTo_eq (rs : List RowS) : ∀ j, j ≤ rs.length → bytesTo rs j = rowsB (rs.take j)
  | 0, _ => by simp [bytesTo, rowsB]
  | j + 1, h => by
    rw [bytesTo_succ (by omega), bytesTo_eq rs j (by omega), List.take_succ_eq_append_getElem (by omega)]
    simp only [rowsB, List.map_append, List.map_cons, List.map_nil, List.flatten_append, List.flatten_cons, List.flatten_nil, List.append_nil]
theorem putStmt_eq {p q : Int} {rs : List RowS} (h : okStmt p q rs = true) : putStmt p q rs = varF 10 p.toNat ++ (varF 10 q.toNat ++ (varF 10 rs.length ++ rowsB rs)) := by
  rw [putStmt, if_pos h, bytesTo_eq rs _ (Nat.le_refl _), List.take_length]
  simp [headB]
theorem ok_bounds {p q : Int} {rs : List RowS} (h : okStmt p q rs = true) : ∀ r ∈ rs, 0 ≤ r.o ∧ r.o ≤ 1099511627776 ∧ 0 ≤ r.d ∧ r.d ≤ 1099511627776 ∧ 0 ≤ r.code ∧ r.code ≤ 1099511627776 ∧ 0 ≤ r.amt ∧ r.amt ≤ 1099511627776 ∧ 0 ≤ r.qty ∧ r.qty ≤ 1099511627776 := by
  intro r hr
  obtain ⟨_, _, _, _, _, hck⟩ := okStmt_ok h
  obtain ⟨i, hi, rfl⟩ := List.mem_iff_getElem.1 hr
  have := rowBounds (@chkRows_row rs p hck i hi).1
  omega
theorem rdM_put {n : Nat} {r : List UInt8} (h : n ≤ 1099511627776) : rdNum rdMost (varF 10 n ++ r, true) = (n, (r, true)) := rdNum_put h (by omega)
theorem rdRow_put {r : RowS} {x : List UInt8} (h : 0 ≤ r.o ∧ r.o ≤ 1099511627776 ∧ 0 ≤ r.d ∧ r.d ≤ 1099511627776 ∧ 0 ≤ r.code ∧ r.code ≤ 1099511627776 ∧ 0 ≤ r.amt ∧ r.amt ≤ 1099511627776 ∧ 0 ≤ r.qty ∧ r.qty ≤ 1099511627776) :
    rdRow (rowBytes r ++ x, true) = (r, (x, true)) := by
  obtain ⟨o, d, code, amt, qty⟩ := r
  simp only at h
  unfold rdRow rowBytes
  simp only [List.append_assoc]
  rw [rdM_put (by omega)]
  simp only
  rw [rdM_put (by omega)]
  simp only
  rw [rdM_put (by omega)]
  simp only
  rw [rdM_put (by omega)]
  simp only
  rw [rdM_put (by omega)]
  simp only [Prod.mk.injEq, RowS.mk.injEq, and_true]
  omega
theorem rdLoop_put : ∀ (rs A : List RowS) (x : List UInt8), (∀ r ∈ rs, 0 ≤ r.o ∧ r.o ≤ 1099511627776 ∧ 0 ≤ r.d ∧ r.d ≤ 1099511627776 ∧ 0 ≤ r.code ∧ r.code ≤ 1099511627776 ∧ 0 ≤ r.amt ∧ r.amt ≤ 1099511627776 ∧ 0 ≤ r.qty ∧ r.qty ≤ 1099511627776) →
    A.length + rs.length ≤ 400 → rdLoop rs.length A (rowsB rs ++ x, true) = (A ++ rs, (x, true))
  | [], A, x, _, _ => by simp [rdLoop, rowsB]
  | r :: rs, A, x, h, hl => by
    simp only [List.length_cons] at hl
    rw [List.length_cons, rdLoop, if_pos ⟨rfl, by omega⟩]
    have e : rowsB (r :: rs) ++ x = rowBytes r ++ (rowsB rs ++ x) := by simp [rowsB]
    rw [e, rdRow_put (h r (by simp))]
    simp only
    rw [rdLoop_put rs (A ++ [r]) x (fun r hr => h r (by simp [hr])) (by simp; omega)]
    simp
/-- All that the program reads: party, number, rows, and what is left. -/
def rdAll (l : List UInt8) : Nat × Nat × List RowS × Rdr :=
  let a := rdNum rdMost (l, true)
  let b := rdNum rdMost a.2
  let n := rdNum rdMost b.2
  (a.1, b.1, rdLoop n.1 [] n.2)
theorem getP_rd (l : List UInt8) : getP l = getEnd (rdAll l).1 (rdAll l).2.1 (rdAll l).2.2 := rfl
theorem rdAll_put {p q : Int} {rs : List RowS} (h : okStmt p q rs = true) (x : List UInt8) : rdAll (putStmt p q rs ++ x) = (p.toNat, q.toNat, rs, (x, true)) := by
  obtain ⟨h1, h2, h3, h4, h5, _⟩ := okStmt_ok h
  rw [putStmt_eq h]
  unfold rdAll
  simp only [List.append_assoc]
  rw [rdM_put (by omega)]
  simp only
  rw [rdM_put (by omega)]
  simp only
  rw [rdM_put (by omega)]
  simp only
  rw [rdLoop_put rs [] x (ok_bounds h) (by simpa using h5)]
  simp
theorem rdM_ok {st : Rdr} (h : (rdNum rdMost st).2.2 = true) : st.2 = true ∧ st.1 = varF 10 (rdNum rdMost st).1 ++ (rdNum rdMost st).2.1 := ⟨(rdNum_ok h).1, (rdNum_ok h).2.2.2⟩
theorem rdRow_ok {st : Rdr} (h : (rdRow st).2.2 = true) : st.2 = true ∧ st.1 = rowBytes (rdRow st).1 ++ (rdRow st).2.1 := by
  unfold rdRow at h ⊢
  simp only at h ⊢
  obtain ⟨h5, e5⟩ := rdM_ok h
  obtain ⟨h4, e4⟩ := rdM_ok h5
  obtain ⟨h3, e3⟩ := rdM_ok h4
  obtain ⟨h2, e2⟩ := rdM_ok h3
  obtain ⟨h1, e1⟩ := rdM_ok h2
  refine ⟨h1, ?_⟩
  simp only [rowBytes, Int.toNat_natCast, List.append_assoc]
  rw [← e5, ← e4, ← e3, ← e2, ← e1]
theorem rdLoop_ok : ∀ (n : Nat) (A : List RowS) (st : Rdr), (rdLoop n A st).2.2 = true → (rdLoop n A st).1.length ≤ 400 → ∃ rs, (rdLoop n A st).1 = A ++ rs ∧ rs.length = n ∧ st.2 = true ∧ st.1 = rowsB rs ++ (rdLoop n A st).2.1
  | 0, A, st, h, _ => ⟨[], by simp [rdLoop], rfl, h, by simp [rdLoop, rowsB]⟩
  | n + 1, A, st, h, hl => by
    rw [rdLoop] at h hl ⊢
    by_cases hc : st.2 = true ∧ A.length ≤ 400
    · rw [if_pos hc] at h hl ⊢
      obtain ⟨rs, e1, e2, e3, e4⟩ := rdLoop_ok n _ _ h hl
      obtain ⟨f1, f2⟩ := rdRow_ok e3
      refine ⟨(rdRow st).1 :: rs, by rw [e1]; simp, by simp [e2], hc.1, ?_⟩
      rw [f2, e4]
      simp [rowsB]
    · rw [if_neg hc] at h hl
      exact absurd ⟨h, hl⟩ hc
theorem getP_iff {l : List UInt8} {p q : Int} {rs : List RowS} : getP l = some (p, q, rs) ↔ okStmt p q rs = true ∧ putStmt p q rs = l := by
  constructor
  · intro h
    rw [getP_rd] at h
    unfold getEnd at h
    split at h
    · rename_i hc
      obtain ⟨h1, h2, h3⟩ := hc
      simp only [Option.some.injEq, Prod.mk.injEq] at h
      obtain ⟨rfl, rfl, rfl⟩ := h
      refine ⟨h3, ?_⟩
      obtain ⟨_, _, _, _, hl4, _⟩ := okStmt_ok h3
      rw [putStmt_eq h3]
      unfold rdAll at *
      simp only at *
      obtain ⟨rs, e1, e2, e3, e4⟩ := rdLoop_ok _ _ _ h1 hl4
      obtain ⟨f3, g3⟩ := rdM_ok e3
      obtain ⟨f2, g2⟩ := rdM_ok f3
      obtain ⟨f1, g1⟩ := rdM_ok f2
      rw [h2, List.append_nil] at e4
      rw [e1, List.nil_append, e2, Int.toNat_natCast, Int.toNat_natCast, ← e4, ← g3, ← g2, ← g1]
    · cases h
  · rintro ⟨h, rfl⟩
    have := rdAll_put h []
    rw [List.append_nil] at this
    obtain ⟨h1, h2, h3, h4, h5, _⟩ := okStmt_ok h
    rw [getP_rd, this]
    have e1 : (p.toNat : Int) = p := by omega
    have e2 : (q.toNat : Int) = q := by omega
    simp only [getEnd, e1, e2, h, and_self, if_true]

def fld (r : RowS) : List Nat := [r.o.toNat, r.d.toNat, r.code.toNat, r.amt.toNat, r.qty.toNat]
def fields (rs : List RowS) : List Nat := (rs.map fld).flatten
theorem fields_len : ∀ rs, (fields rs).length = 5 * rs.length
  | [] => rfl
  | r :: rs => by
    have := fields_len rs
    simp only [fields, List.map_cons, List.flatten_cons, List.length_append, List.length_cons] at this ⊢
    rw [this]; simp [fld]; omega
theorem fields_at : ∀ (rs : List RowS) (j : Nat) (hj : j < rs.length) (k : Nat), k < 5 → (fields rs)[5 * j + k]? = (fld rs[j])[k]?
  | r :: rs, 0, _, k, hk => by
    simp only [fields, List.map_cons, List.flatten_cons, Nat.mul_zero, Nat.zero_add, List.getElem_cons_zero]
    rw [List.getElem?_append_left (by simpa [fld] using hk)]
  | r :: rs, j + 1, hj, k, hk => by
    have ih := fields_at rs j (by simpa using hj) k hk
    simp only [fields, List.map_cons, List.flatten_cons, List.getElem_cons_succ] at ih ⊢
    rw [List.getElem?_append_right (by simp [fld]; omega), ← ih]
    congr 1
    simp [fld]; omega
theorem numsOf_put {n : Nat} {l : List UInt8} (h : n ≤ 1099511627776) : numsOf (varF 10 n ++ l) = (numsOf l).map (n :: ·) := by
  have h0 : varF 10 n ++ l ≠ [] := by
    unfold varF
    split <;> simp
  rw [numsOf_some h0 (readB_iff.2 ⟨by omega, rfl⟩), if_pos (show n ≤ rdMost from h)]
theorem numsOf_rows : ∀ (rs : List RowS), (∀ r ∈ rs, 0 ≤ r.o ∧ r.o ≤ 1099511627776 ∧ 0 ≤ r.d ∧ r.d ≤ 1099511627776 ∧ 0 ≤ r.code ∧ r.code ≤ 1099511627776 ∧ 0 ≤ r.amt ∧ r.amt ≤ 1099511627776 ∧ 0 ≤ r.qty ∧ r.qty ≤ 1099511627776) → numsOf (rowsB rs) = some (fields rs)
  | [], _ => rfl
  | r :: rs, h => by
    have ih := numsOf_rows rs (fun r hr => h r (by simp [hr]))
    have hb := h r (by simp)
    have e : rowsB (r :: rs) = rowBytes r ++ rowsB rs := by simp [rowsB]
    rw [e, rowBytes]
    simp only [List.append_assoc]
    rw [numsOf_put (by omega), numsOf_put (by omega), numsOf_put (by omega), numsOf_put (by omega), numsOf_put (by omega), ih]
    simp [fields, fld]
theorem rowsTo_fields {a b c : Nat} {rs : List RowS} (h : ∀ r ∈ rs, 0 ≤ r.o ∧ r.o ≤ 1099511627776 ∧ 0 ≤ r.d ∧ r.d ≤ 1099511627776 ∧ 0 ≤ r.code ∧ r.code ≤ 1099511627776 ∧ 0 ≤ r.amt ∧ r.amt ≤ 1099511627776 ∧ 0 ≤ r.qty ∧ r.qty ≤ 1099511627776) :
    rowsTo (a :: b :: c :: fields rs) rs.length = rs := by
  refine List.ext_getElem (by simp [rowsTo]) fun j h1 h2 => ?_
  have hb := h rs[j] (List.getElem_mem h2)
  have e : ∀ k, k < 5 → (a :: b :: c :: fields rs).getD (3 + 5 * j + k) 0 = ((fld rs[j])[k]?).getD 0 := fun k hk => by
    rw [List.getD_eq_getElem?_getD, show 3 + 5 * j + k = (5 * j + k) + 1 + 1 + 1 by omega, List.getElem?_cons_succ, List.getElem?_cons_succ, List.getElem?_cons_succ, fields_at rs j h2 k hk]
  have e0 := e 0 (by omega)
  have e1 := e 1 (by omega)
  have e2 := e 2 (by omega)
  have e3 := e 3 (by omega)
  have e4 := e 4 (by omega)
  simp only [rowsTo, List.getElem_map, List.getElem_range]
  unfold rowAtN
  rw [Nat.add_zero] at e0
  rw [e0, e1, e2, e3, e4]
  generalize rs[j] = r at *
  obtain ⟨o, d, code, amt, qty⟩ := r
  simp only at hb
  simp only [fld, List.getElem?_cons_zero, List.getElem?_cons_succ, Option.getD_some, RowS.mk.injEq]
  omega
theorem getR_iff {l : List UInt8} {p q : Int} {rs : List RowS} : getR l = some (p, q, rs) ↔ okStmt p q rs = true ∧ putStmt p q rs = l := by
  constructor
  · intro h
    unfold getR at h
    split at h
    · split at h
      · unfold getN at h
        split at h
        · rename_i hc
          simp only [Option.some.injEq, Prod.mk.injEq] at h
          obtain ⟨rfl, rfl, rfl⟩ := h
          exact hc
        · cases h
      · cases h
    · cases h
  · rintro ⟨h, rfl⟩
    obtain ⟨h1, h2, h3, h4, h5, _⟩ := okStmt_ok h
    have hb := ok_bounds h
    have hn : numsOf (putStmt p q rs) = some (p.toNat :: q.toNat :: rs.length :: fields rs) := by
      rw [putStmt_eq h, numsOf_put (by omega), numsOf_put (by omega), numsOf_put (by omega), numsOf_rows rs hb]
      rfl
    have hl := fields_len rs
    unfold getR
    rw [hn]
    simp only [List.length_cons]
    rw [if_pos (by omega)]
    unfold getN
    have e1 : (p.toNat : Int) = p := by omega
    have e2 : (q.toNat : Int) = q := by omega
    have e3 : (p.toNat :: q.toNat :: rs.length :: fields rs).length / 5 = rs.length := by simp only [List.length_cons]; omega
    rw [e3, rowsTo_fields hb]
    simp only [List.getD_cons_zero, List.getD_cons_succ, e1, e2]
    rw [if_pos ⟨h, trivial⟩]
theorem getP_eq (l : List UInt8) : getP l = getR l := by
  cases hP : getP l with
  | some x =>
    obtain ⟨p, q, rs⟩ := x
    exact (getR_iff.2 (getP_iff.1 hP)).symm
  | none =>
    cases hR : getR l with
    | none => rfl
    | some x =>
      obtain ⟨p, q, rs⟩ := x
      rw [getP_iff.2 (getR_iff.1 hR)] at hP
      cases hP
end Go.Proofs.YtlfphfklcifgpaaDoor

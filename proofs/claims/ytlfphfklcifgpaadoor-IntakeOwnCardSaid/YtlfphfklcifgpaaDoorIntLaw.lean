/-
  What an intake says of a deed: of its map, and of its rows; conditions: none.
-/
import Derived.Test.YtlfphfklcifgpaaDoorInt
import Derived.Test.YtlfphfklcifgpaaDoorRowOrd
namespace Go.Proofs.YtlfphfklcifgpaaDoor
open Go.RowKit Go.Own

/-- The row of a deed, by the document. -/
def rowOf (A : InS) (o d : Int) : Option RowS := if keyOk o d = true then (A.rows (partyOf d)).find? (fun r => decide (r.o = o) && decide (r.d = d)) else none
def amtOf (x : Option RowS) : Int := match x with
  | some r => if r.code = 1 then r.amt else 0
  | none => 0
def netI (A : InS) (order : Int) : Int := amtOf (rowOf A order 1) - amtOf (rowOf A order 4)
set_option maxRecDepth 100000 in
theorem keyLit_ok {o d : Int} (h1 : (Lit.int .i64 o).wf = true) (h2 : (Lit.int .i64 d).wf = true) : WideAt.IsKeyLit (keyLit o d) := by
  have := keyOf_lit h1 h2
  exact Go.Maps.Keyed.key keyKeyed this
theorem key_self (l : Lit) (h : WideAt.IsKeyLit l) : l.sameKey l = true := WideAt.sameKey_self h
theorem putRows_none {o d : Int} (h1 : (Lit.int .i64 o).wf = true) (h2 : (Lit.int .i64 d).wf = true) : ∀ (rs : List RowS) (f : Lit → Option Value), (∀ r ∈ rs, (Lit.int .i64 r.o).wf = true ∧ (Lit.int .i64 r.d).wf = true) → (∀ r ∈ rs, ¬ (r.o = o ∧ r.d = d)) → putRows f rs (keyLit o d) = f (keyLit o d)
  | [], _, _, _ => rfl
  | r :: rs, f, hw, hn => by
    rw [putRows, putRows_none h1 h2 rs _ (fun x hx => hw x (by simp [hx])) (fun x hx => hn x (by simp [hx]))]
    unfold updF
    rw [if_neg]
    intro hs
    have hk := WideAt.sameKey_eq hs
    obtain ⟨w1, w2⟩ := hw r (by simp)
    obtain ⟨e1, e2⟩ := keyLit_inj h1 h2 w1 w2 hk
    exact hn r (by simp) ⟨e1.symm, e2.symm⟩
set_option maxRecDepth 100000 in
theorem putRows_some {o d : Int} (h1 : (Lit.int .i64 o).wf = true) (h2 : (Lit.int .i64 d).wf = true) {r : RowS} (hr : r.o = o ∧ r.d = d) : ∀ (rs : List RowS) (f : Lit → Option Value), (∀ r ∈ rs, (Lit.int .i64 r.o).wf = true ∧ (Lit.int .i64 r.d).wf = true) → r ∈ rs → (∀ x ∈ rs, x.o = o ∧ x.d = d → x = r) → putRows f rs (keyLit o d) = some r.v
  | [], _, _, hm, _ => by cases hm
  | x :: rs, f, hw, hm, hu => by
    rw [putRows]
    by_cases hin : r ∈ rs
    · exact putRows_some h1 h2 hr rs _ (fun y hy => hw y (by simp [hy])) hin (fun y hy => hu y (by simp [hy]))
    · have hx : r = x := by
        rcases List.mem_cons.1 hm with h | h
        · exact h
        · exact absurd h hin
      subst hx
      rw [putRows_none h1 h2 rs _ (fun y hy => hw y (by simp [hy])) (fun y hy hk => hin (by rw [← hu y (by simp [hy]) hk]; exact hy))]
      rw [hr.1, hr.2]
      have hs := key_self (keyLit o d) (keyLit_ok h1 h2)
      generalize keyLit o d = l at *
      exact if_pos hs
theorem row_party {rs : List RowS} {p : Int} (h : chkRows rs p = true) {r : RowS} (hr : r ∈ rs) : keyOk r.o r.d = true ∧ partyOf r.d = p := by
  obtain ⟨_, _, _, h4, _⟩ := chkRows_iff.1 h
  have := h4 r hr
  simp only [mayRow, Bool.and_eq_true, decide_eq_true_eq] at this
  exact ⟨this.1.1.1, this.1.1.2⟩
theorem row_unique {rs : List RowS} {p : Int} (h : chkRows rs p = true) {r s : RowS} (hr : r ∈ rs) (hs : s ∈ rs) (e1 : r.o = s.o) (e2 : r.d = s.d) : r = s := by
  obtain ⟨_, _, _, _, h5⟩ := chkRows_iff.1 h
  rw [List.pairwise_iff_getElem] at h5
  obtain ⟨i, hi, rfl⟩ := List.mem_iff_getElem.1 hr
  obtain ⟨j, hj, rfl⟩ := List.mem_iff_getElem.1 hs
  rcases Nat.lt_trichotomy i j with h | h | h
  · have := h5 i j hi hj h
    simp only [LessR, keyLess, Bool.or_eq_true, Bool.and_eq_true, decide_eq_true_eq] at this
    omega
  · subst h; rfl
  · have := h5 j i hj hi h
    simp only [LessR, keyLess, Bool.or_eq_true, Bool.and_eq_true, decide_eq_true_eq] at this
    omega
theorem mem_rows {A : InS} (h : InOk A) {r : RowS} (hr : r ∈ A.r0 ++ (A.r1 ++ A.r2)) : r ∈ A.rows (partyOf r.d) ∧ keyOk r.o r.d = true := by
  obtain ⟨a, b, c⟩ := h
  rcases List.mem_append.1 hr with h | h
  · obtain ⟨k, p⟩ := row_party a h
    exact ⟨by rw [p]; exact h, k⟩
  · rcases List.mem_append.1 h with h | h
    · obtain ⟨k, p⟩ := row_party b h
      exact ⟨by rw [p]; exact h, k⟩
    · obtain ⟨k, p⟩ := row_party c h
      exact ⟨by rw [p]; exact h, k⟩
theorem rows_mem {A : InS} {p : Int} {r : RowS} (hr : r ∈ A.rows p) : r ∈ A.r0 ++ (A.r1 ++ A.r2) := by
  unfold InS.rows at hr
  split at hr
  · simp [hr]
  · split at hr <;> simp [hr]
theorem rows_chk {A : InS} (h : InOk A) {d : Int} {o : Int} (hk : keyOk o d = true) : chkRows (A.rows (partyOf d)) (partyOf d) = true := by
  obtain ⟨a, b, c⟩ := h
  have hd : 0 ≤ d ∧ d < 6 := by simp only [keyOk, isDeed, Bool.and_eq_true, decide_eq_true_eq] at hk; omega
  have : partyOf d = 0 ∨ partyOf d = 1 ∨ partyOf d = 2 := by unfold partyOf; omega
  rcases this with e | e | e <;> rw [e]
  · exact a
  · exact b
  · exact c
theorem row_wf {A : InS} (h : InOk A) {r : RowS} (hr : r ∈ A.r0 ++ (A.r1 ++ A.r2)) : (Lit.int .i64 r.o).wf = true ∧ (Lit.int .i64 r.d).wf = true := by
  have hk := (mem_rows h hr).2
  simp only [keyOk, isDeed, Bool.and_eq_true, decide_eq_true_eq] at hk
  exact ⟨wf_small (by omega) (by omega), wf_small (by omega) (by omega)⟩
theorem allF_row {A : InS} (h : InOk A) {o d : Int} (h1 : (Lit.int .i64 o).wf = true) (h2 : (Lit.int .i64 d).wf = true) : allF A (keyLit o d) = (rowOf A o d).map RowS.v := by
  unfold allF rowOf
  by_cases hk : keyOk o d = true
  · rw [if_pos hk]
    cases hf : (A.rows (partyOf d)).find? (fun r => decide (r.o = o) && decide (r.d = d)) with
    | none =>
      rw [putRows_none h1 h2 _ _ (fun r hr => row_wf h hr)]
      · rfl
      · rintro r hr ⟨e1, e2⟩
        have := List.find?_eq_none.1 hf r (by have := (mem_rows h hr).1; rwa [e2] at this)
        simp [e1, e2] at this
    | some r =>
      have hm := List.mem_of_find?_eq_some hf
      have he := List.find?_some hf
      simp only [Bool.and_eq_true, decide_eq_true_eq] at he
      exact putRows_some h1 h2 he _ _ (fun r hr => row_wf h hr) (rows_mem hm) (fun x hx hxk => row_unique (rows_chk h hk) (by have := (mem_rows h hx).1; rwa [hxk.2] at this) hm (by omega) (by omega))
  · rw [if_neg hk, putRows_none h1 h2 _ _ (fun r hr => row_wf h hr)]
    · rfl
    · rintro r hr ⟨e1, e2⟩
      have := (mem_rows h hr).2
      rw [e1, e2] at this
      exact hk this
theorem rowOf_bound {A : InS} (h : InOk A) (o d : Int) : 0 ≤ amtOf (rowOf A o d) ∧ amtOf (rowOf A o d) ≤ 1099511627776 := by
  unfold amtOf
  cases hr : rowOf A o d with
  | none => exact ⟨by decide, by decide⟩
  | some r =>
    simp only
    unfold rowOf at hr
    split at hr
    · rename_i hk
      have hm := List.mem_of_find?_eq_some hr
      obtain ⟨_, _, _, h4, _⟩ := chkRows_iff.1 (rows_chk h hk)
      have := rowBounds (h4 r hm)
      split
      · omega
      · exact ⟨by decide, by decide⟩
    · cases hr
end Go.Proofs.YtlfphfklcifgpaaDoor

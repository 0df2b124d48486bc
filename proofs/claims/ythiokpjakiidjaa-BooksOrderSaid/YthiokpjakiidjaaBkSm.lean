/-
  Small postings, and what they come to: plain Lean; conditions: none.
-/
import Derived.Test.YthiokpjakiidjaaBkPost
namespace Go.Proofs.Ythiokpjakiidjaa
open Go.RowKit Go.Own Go.Maps

def sumBo (l : List Pst) (o : Int) : Nat → Int
  | 0 => 0
  | k + 1 => sumBo l o k + bal l (k : Int) o
theorem sumBo_zero {l : List Pst} (o : Int) (h : ∀ p ∈ l, mayPst p = true) : sumBo l o 5 = 0 := by
  induction l with
  | nil => rfl
  | cons p l ih =>
    have hm := mayPst_iff.1 (h p (by simp))
    have e : ∀ k, sumBo (p :: l) o k = sumBo [p] o k + sumBo l o k := fun k => by
      induction k with
      | zero => rfl
      | succ k ih => simp only [sumBo, ih, bal]; omega
    rw [e, ih (fun q hq => h q (by simp [hq]))]
    simp only [sumBo, bal, delta]
    by_cases hc : o ≠ 0 ∧ p.o ≠ o
    · simp only [if_pos hc]; omega
    · simp only [if_neg hc]
      have hd : p.d = 0 ∨ p.d = 1 ∨ p.d = 2 ∨ p.d = 3 ∨ p.d = 4 := by omega
      have hc : p.c = 0 ∨ p.c = 1 ∨ p.c = 2 ∨ p.c = 3 ∨ p.c = 4 := by omega
      have hne := hm.2.2.2.2.2.2.1
      rcases hd with hd | hd | hd | hd | hd <;> rcases hc with hc | hc | hc | hc | hc <;> simp [hd, hc] at hne ⊢ <;> omega
/-- Postings of small amounts, of the orders 1 to 4. -/
def SmallL (l : List Pst) : Prop := ∀ p ∈ l, mayPst p = true ∧ p.a ≤ 1099511627775 ∧ p.o ≤ 4
theorem delta_bound {p : Pst} (h : mayPst p = true ∧ p.a ≤ 1099511627775 ∧ p.o ≤ 4) (n o : Int) : -1099511627775 ≤ delta p n o ∧ delta p n o ≤ 1099511627775 := by
  have hm := mayPst_iff.1 h.1
  unfold delta
  repeat' split
  all_goals omega
theorem bal_bound {l : List Pst} (h : SmallL l) (n o : Int) : -(1099511627775 * (l.length : Int)) ≤ bal l n o ∧ bal l n o ≤ 1099511627775 * (l.length : Int) := by
  induction l with
  | nil => simp [bal]
  | cons p l ih =>
    have h1 := ih (fun q hq => h q (by simp [hq]))
    have h2 := delta_bound (h p (by simp)) n o
    simp only [bal, List.length_cons]
    omega
theorem bal_orders {l : List Pst} (h : SmallL l) (n : Int) : bal l n 1 + bal l n 2 + bal l n 3 + bal l n 4 = bal l n 0 := by
  induction l with
  | nil => rfl
  | cons p l ih =>
    have h1 := ih (fun q hq => h q (by simp [hq]))
    obtain ⟨hm, -, ho⟩ := h p (by simp)
    have hm := mayPst_iff.1 hm
    have hd : delta p n 1 + delta p n 2 + delta p n 3 + delta p n 4 = delta p n 0 := by
      have : p.o = 1 ∨ p.o = 2 ∨ p.o = 3 ∨ p.o = 4 := by omega
      unfold delta
      rcases this with e | e | e | e <;> simp [e]
    simp only [bal]
    omega
theorem smallP_small (p : Pst) : mayPst (smallP p) = true ∧ (smallP p).a ≤ 1099511627775 ∧ (smallP p).o ≤ 4 := by
  refine ⟨small_may p, ?_, ?_⟩ <;> simp only [smallP] <;> omega
theorem postL_small {l : List Pst} {p : Pst} (h : SmallL l) (hp : mayPst p = true ∧ p.a ≤ 1099511627775 ∧ p.o ≤ 4) : SmallL (postL l p) := by
  intro q hq
  unfold postL at hq
  split at hq
  · rcases List.mem_append.1 hq with hq | hq
    · exact h q hq
    · rw [List.mem_singleton.1 hq]; exact hp
  · exact h q hq
theorem small_fits {l : List Pst} {p : Pst} (h : SmallL l) (hl : l.length ≤ 1000) (hp : mayPst p = true ∧ p.a ≤ 1099511627775 ∧ p.o ≤ 4) : fitsPst l p = true := by
  have hm := mayPst_iff.1 hp.1
  have b1 := bal_bound h p.d 0
  have b2 := bal_bound h p.c 0
  have b3 := bal_bound h p.d p.o
  have b4 := bal_bound h p.c p.o
  simp only [fitsPst, Bool.and_eq_true, inI_iff]
  omega
theorem small_err {l : List Pst} {p : Pst} (h : SmallL l) (hl : l.length ≤ 1000) (hp : mayPst p = true ∧ p.a ≤ 1099511627775 ∧ p.o ≤ 4) : postE l p = 0 ∨ postE l p = 91 := by
  unfold postE
  rw [if_pos hp.1]
  cases findP l p.id with
  | none => simp [small_fits h hl hp]
  | some q => by_cases e : q = p <;> simp [e]
def smalls (l : List Pst) : List Pst := postAll (l.map smallP)
theorem smalls_take {l : List Pst} {j : Nat} (h : j < l.length) : smalls (l.take (j + 1)) = postL (smalls (l.take j)) (smallP l[j]) := by
  unfold smalls
  rw [List.take_succ_eq_append_getElem h, List.map_append, List.map_cons, List.map_nil, postAll_snoc]
theorem smalls_ok {l : List Pst} (h : ∀ p ∈ l, WfP p) : Bk (smalls l) ∧ (∀ p ∈ smalls l, WfP p) ∧ (smalls l).length ≤ l.length ∧ SmallL (smalls l) := by
  obtain ⟨h1, h2, h3⟩ := postAll_ok (l.map smallP) (fun p hp => by
    obtain ⟨q, hq, rfl⟩ := List.mem_map.1 hp
    exact small_wf (h q hq))
  rw [List.length_map] at h3
  refine ⟨h1, h2, h3, ?_⟩
  have key : ∀ (l m : List Pst), SmallL m → SmallL ((l.map smallP).foldl postL m) := fun l => by
    induction l with
    | nil => exact fun m hm => hm
    | cons p l ih => exact fun m hm => ih _ (postL_small hm (smallP_small p))
  exact key l [] (by intro p hp; cases hp)
end Go.Proofs.Ythiokpjakiidjaa

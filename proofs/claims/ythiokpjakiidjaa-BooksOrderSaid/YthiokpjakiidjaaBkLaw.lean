/-
  Postings, and what they come to: plain Lean; conditions: none.
-/
import Derived.Test.YthiokpjakiidjaaBase
namespace Go.Proofs.Ythiokpjakiidjaa

structure Pst where
  id : ByteArray
  o : Int
  d : Int
  c : Int
  a : Int
deriving DecidableEq

def inI (n : Int) : Bool := decide (-9223372036854775808 ≤ n ∧ n ≤ 9223372036854775807)
theorem inI_iff {n : Int} : inI n = true ↔ -9223372036854775808 ≤ n ∧ n ≤ 9223372036854775807 := by simp [inI]
def addI (a b : Int) : Int × Bool := if inI (a + b) = true then (a + b, true) else (0, false)
def subI (a b : Int) : Int × Bool := if inI (a - b) = true then (a - b, true) else (0, false)
def acct (n : Int) : Bool := decide (0 ≤ n ∧ n ≤ 4)
def mayPst (p : Pst) : Bool := decide (p.id.size ≠ 0 ∧ 1 ≤ p.o ∧ 0 ≤ p.d ∧ p.d ≤ 4 ∧ 0 ≤ p.c ∧ p.c ≤ 4 ∧ p.d ≠ p.c ∧ 0 ≤ p.a)
theorem mayPst_iff {p : Pst} : mayPst p = true ↔ p.id.size ≠ 0 ∧ 1 ≤ p.o ∧ 0 ≤ p.d ∧ p.d ≤ 4 ∧ 0 ≤ p.c ∧ p.c ≤ 4 ∧ p.d ≠ p.c ∧ 0 ≤ p.a := by simp [mayPst]
/-- What a posting moves. -/
def delta (p : Pst) (n o : Int) : Int := if o ≠ 0 ∧ p.o ≠ o then 0 else if p.d = n then p.a else if p.c = n then -p.a else 0
def bal : List Pst → Int → Int → Int
  | [], _, _ => 0
  | p :: l, n, o => delta p n o + bal l n o
theorem bal_app (n o : Int) : ∀ l m : List Pst, bal (l ++ m) n o = bal l n o + bal m n o
  | [], m => by simp [bal]
  | p :: l, m => by simp [bal, bal_app n o l m]; omega
theorem bal_snoc (l : List Pst) (p : Pst) (n o : Int) : bal (l ++ [p]) n o = bal l n o + delta p n o := by rw [bal_app]; simp [bal]
def findP (l : List Pst) (id : ByteArray) : Option Pst := l.find? (fun q => decide (q.id = id))
def fitsPst (l : List Pst) (p : Pst) : Bool := inI (bal l p.d 0 + p.a) && inI (bal l p.c 0 - p.a) && (inI (bal l p.d p.o + p.a) && inI (bal l p.c p.o - p.a))
def postE (l : List Pst) (p : Pst) : Int := if mayPst p = true then (match findP l p.id with
  | some q => if q = p then 0 else 91
  | none => if fitsPst l p = true then 0 else 90) else 2
def postL (l : List Pst) (p : Pst) : List Pst := if (mayPst p && ((findP l p.id).isNone && fitsPst l p)) = true then l ++ [p] else l
/-- Lists of postings that books can come to. -/
inductive Bk : List Pst → Prop
  | nil : Bk []
  | snoc (l : List Pst) (p : Pst) (h : Bk l) (hm : mayPst p = true) (hn : findP l p.id = none) (hf : fitsPst l p = true) : Bk (l ++ [p])
theorem Bk.post {l : List Pst} (h : Bk l) (p : Pst) : Bk (postL l p) := by
  unfold postL
  split
  · rename_i hc
    simp only [Bool.and_eq_true] at hc
    exact .snoc l p h hc.1 (by simpa using hc.2.1) hc.2.2
  · exact h
theorem Bk.may {l : List Pst} (h : Bk l) : ∀ p ∈ l, mayPst p = true := by
  induction h with
  | nil => simp
  | snoc l p h hm hn hf ih =>
    intro q hq
    rcases List.mem_append.1 hq with hq | hq
    · exact ih q hq
    · rw [List.mem_singleton.1 hq]; exact hm
theorem delta_inI {p : Pst} (hm : mayPst p = true) (l : List Pst) (hf : fitsPst l p = true) (hl : ∀ n o, inI (bal l n o) = true) (n o : Int) : inI (bal l n o + delta p n o) = true := by
  have hm := mayPst_iff.1 hm
  have h0 := hl n o
  simp only [fitsPst, Bool.and_eq_true] at hf
  unfold delta
  split
  · rw [Int.add_zero]; exact h0
  · rename_i hc
    by_cases ho : o = 0
    · subst ho
      split
      · rename_i hd; subst hd; exact hf.1.1
      · split
        · rename_i hd; subst hd; rw [← Int.sub_eq_add_neg]; exact hf.1.2
        · rw [Int.add_zero]; exact h0
    · obtain rfl : p.o = o := by
        rcases Classical.not_and_iff_not_or_not.1 hc with hc | hc
        · exact absurd ho hc
        · exact Classical.not_not.1 hc
      split
      · rename_i hd; subst hd; exact hf.2.1
      · split
        · rename_i hd; subst hd; rw [← Int.sub_eq_add_neg]; exact hf.2.2
        · rw [Int.add_zero]; exact h0
theorem Bk.bal_in {l : List Pst} (h : Bk l) : ∀ n o, inI (bal l n o) = true := by
  induction h with
  | nil => intro n o; rfl
  | snoc l p h hm hn hf ih => intro n o; rw [bal_snoc]; exact delta_inI hm l hf ih n o
/-- A balance, posting by posting. -/
def stepR (n o : Int) (s : Int × Bool) (p : Pst) : Int × Bool := if s.2 = true then (if o ≠ 0 ∧ p.o ≠ o then s else if p.d = n then addI s.1 p.a else if p.c = n then subI s.1 p.a else s) else s
def sumR (l : List Pst) (n o : Int) : Int × Bool := l.foldl (stepR n o) (0, true)
theorem sumR_snoc (l : List Pst) (p : Pst) (n o : Int) : sumR (l ++ [p]) n o = stepR n o (sumR l n o) p := by simp [sumR, List.foldl_append]
theorem stepR_some {n o m : Int} {p : Pst} (h : inI (m + delta p n o) = true) : stepR n o (m, true) p = (m + delta p n o, true) := by
  unfold stepR
  unfold delta at *
  by_cases hc : o ≠ 0 ∧ p.o ≠ o
  · simp only [if_pos hc, if_true, Int.add_zero]
  · by_cases hd : p.d = n
    · simp only [if_neg hc, if_pos hd, if_true] at h ⊢
      simp only [addI, if_pos h]
    · by_cases he : p.c = n
      · simp only [if_neg hc, if_neg hd, if_pos he, if_true] at h ⊢
        rw [← Int.sub_eq_add_neg] at h ⊢
        simp only [subI, if_pos h]
      · simp only [if_neg hc, if_neg hd, if_neg he, if_true, Int.add_zero]
theorem Bk.sum {l : List Pst} (h : Bk l) (n o : Int) : sumR l n o = (bal l n o, true) := by
  have hi := h.bal_in
  induction h with
  | nil => rfl
  | snoc l p h hm hn hf ih =>
    have hi' := h.bal_in
    rw [sumR_snoc, ih hi', bal_snoc]
    have := hi n o
    rw [bal_snoc] at this
    exact stepR_some this
theorem Bk.sum_more {l : List Pst} (h : Bk l) (p : Pst) (hm : mayPst p = true) : (sumR (l ++ [p]) p.d p.o).2 = inI (bal l p.d p.o + p.a) ∧ (sumR (l ++ [p]) p.c p.o).2 = inI (bal l p.c p.o - p.a) ∧ (sumR (l ++ [p]) p.d 0).2 = inI (bal l p.d 0 + p.a) ∧ (sumR (l ++ [p]) p.c 0).2 = inI (bal l p.c 0 - p.a) := by
  have hm := mayPst_iff.1 hm
  have e : ∀ (x : Int × Bool), stepR p.c p.o x p = stepR p.c p.o x p := fun _ => rfl
  have hdc : ¬ p.d = p.c := hm.2.2.2.2.2.2.1
  refine ⟨?_, ?_, ?_, ?_⟩ <;> rw [sumR_snoc, h.sum] <;> simp only [stepR, addI, subI, if_true, ne_eq, not_true_eq_false, and_false, false_and, if_false, if_neg hdc] <;> split <;> simp_all
theorem bal_none {l : List Pst} (h : Bk l) {n o : Int} (hn : n < 0 ∨ 4 < n ∨ o < 0) : bal l n o = 0 := by
  induction h with
  | nil => rfl
  | snoc l p h hm hn' hf ih =>
    have hm := mayPst_iff.1 hm
    rw [bal_snoc, ih]
    unfold delta
    split
    · rfl
    · rename_i hc
      split
      · omega
      · split <;> omega
theorem addI_in (a b : Int) : inI (addI a b).1 = true := by
  unfold addI
  split
  · assumption
  · rfl
theorem subI_in (a b : Int) : inI (subI a b).1 = true := by
  unfold subI
  split
  · assumption
  · rfl
theorem stepR_in {n o : Int} {s : Int × Bool} {p : Pst} (h : inI s.1 = true) : inI (stepR n o s p).1 = true := by
  unfold stepR
  repeat' split
  all_goals first | exact h | exact addI_in _ _ | exact subI_in _ _
theorem sumR_fold_in (n o : Int) : ∀ (l : List Pst) (s : Int × Bool), inI s.1 = true → inI (l.foldl (stepR n o) s).1 = true
  | [], _, h => h
  | p :: l, s, h => sumR_fold_in n o l _ (stepR_in h)
theorem sumR_in (l : List Pst) (n o : Int) : inI (sumR l n o).1 = true := sumR_fold_in n o l _ rfl
theorem fold_stop (n o : Int) : ∀ (l : List Pst) (s : Int × Bool), s.2 = false → l.foldl (stepR n o) s = s
  | [], _, _ => rfl
  | p :: l, s, h => by
    rw [List.foldl_cons, show stepR n o s p = s by unfold stepR; rw [if_neg (by rw [h]; simp)]]
    exact fold_stop n o l s h
theorem sumR_stop {l : List Pst} {n o : Int} {j : Nat} (h : (sumR (l.take j) n o).2 = false) : sumR l n o = sumR (l.take j) n o := by
  conv => lhs; rw [← List.take_append_drop j l]
  unfold sumR at *
  rw [List.foldl_append]
  exact fold_stop n o _ _ h
theorem sumR_take {l : List Pst} {n o : Int} {j : Nat} (h : j < l.length) : sumR (l.take (j + 1)) n o = stepR n o (sumR (l.take j) n o) l[j] := by
  rw [List.take_succ_eq_append_getElem h, sumR_snoc]
/-- The ways through a posting. -/
theorem step_cases (p : Pst) (n o m : Int) : ((o != 0) = true ∧ (p.o != o) = true ∧ stepR n o (m, true) p = (m, true)) ∨ (((o != 0) = false ∨ (o != 0) = true ∧ (p.o != o) = false) ∧
    ((p.d == n) = true ∧ stepR n o (m, true) p = addI m p.a ∨ (p.d == n) = false ∧ (p.c == n) = true ∧ stepR n o (m, true) p = subI m p.a ∨ (p.d == n) = false ∧ (p.c == n) = false ∧ stepR n o (m, true) p = (m, true))) := by
  by_cases hc : o ≠ 0 ∧ p.o ≠ o
  · exact .inl ⟨by rw [bne_iff_ne]; exact hc.1, by rw [bne_iff_ne]; exact hc.2, by simp only [stepR, if_pos hc, if_true]⟩
  · refine .inr ⟨?_, ?_⟩
    · by_cases h0 : o = 0
      · exact .inl (by simp [h0])
      · exact .inr ⟨by simp [h0], by simpa [h0] using hc⟩
    · by_cases hd : p.d = n
      · exact .inl ⟨by simp [hd], by simp only [stepR, if_neg hc, if_pos hd, if_true]⟩
      · by_cases he : p.c = n
        · exact .inr (.inl ⟨by simp [hd], by simp [he], by simp only [stepR, if_neg hc, if_neg hd, if_pos he, if_true]⟩)
        · exact .inr (.inr ⟨by simp [hd], by simp [he], by simp only [stepR, if_neg hc, if_neg hd, if_neg he, if_true]⟩)
end Go.Proofs.Ythiokpjakiidjaa

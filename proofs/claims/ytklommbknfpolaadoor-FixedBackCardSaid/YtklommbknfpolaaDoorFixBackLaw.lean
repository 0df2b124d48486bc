/-
  What is parsed is printed, and what is printed is parsed, in plain words; conditions: those of each.
-/
import Derived.Test.YtklommbknfpolaaDoorFixLaws
namespace Go.Proofs.YtklommbknfpolaaDoor
open Go.RowKit Go.Own

def intsOf (ns : List Nat) : List Int := ns.map fun n : Nat => (n : Int)
theorem okW_nats {ns : List Nat} (h : ns.length ≤ 100) (hn : ∀ n ∈ ns, 1 ≤ n ∧ n ≤ 1000) : okW (intsOf ns) = true := by
  rw [okW_eq]
  simp only [intsOf, List.length_map, Bool.and_eq_true, decide_eq_true_eq, List.all_eq_true]
  refine ⟨h, fun x hx => ?_⟩
  obtain ⟨n, hm, rfl⟩ := List.mem_map.1 hx
  have := hn n hm
  simp [inW]
  omega
theorem nats_ints (ns : List Nat) : (intsOf ns).map Int.toNat = ns := by
  rw [intsOf, List.map_map]
  exact (List.map_congr_left (fun n _ => by simp)).trans (List.map_id _)
theorem trimR_pad : ∀ (l : List UInt8), l = trimR l ++ List.replicate (l.length - (trimR l).length) 32 := by
  intro l
  have h2 : ∀ (m : List UInt8), m = List.replicate (m.length - (m.dropWhile fun b => b == 32).length) 32 ++ m.dropWhile fun b => b == 32 := by
    intro m
    induction m with
    | nil => rfl
    | cons x m ih =>
      by_cases hx : x = 32
      · subst hx
        have hd : List.dropWhile (fun b => b == 32) ((32 : UInt8) :: m) = List.dropWhile (fun b => b == 32) m := by simp [List.dropWhile_cons]
        have hl : (m.dropWhile fun b => b == 32).length ≤ m.length := (List.dropWhile_suffix _).length_le
        rw [hd, List.length_cons, Nat.succ_sub hl, List.replicate_succ, List.cons_append, ← ih]
      · have hd : List.dropWhile (fun b => b == 32) (x :: m) = x :: m := by simp [List.dropWhile_cons, hx]
        rw [hd]
        simp
  have h3 := h2 l.reverse
  have h4 := congrArg List.reverse h3
  rw [List.reverse_reverse, List.reverse_append, List.reverse_replicate, List.length_reverse] at h4
  unfold trimR
  rw [List.length_reverse]
  exact h4
theorem trimR_end (l : List UInt8) : ([32] : List UInt8).isSuffixOf (trimR l) = false := by
  cases h : ([32] : List UInt8).isSuffixOf (trimR l)
  · rfl
  · obtain ⟨t, ht⟩ := List.isSuffixOf_iff_suffix.1 h
    unfold trimR at ht
    have h2 := congrArg List.reverse ht
    rw [List.reverse_append, List.reverse_reverse] at h2
    have h3 : (List.dropWhile (fun b : UInt8 => b == 32) l.reverse).head? = some 32 := by rw [← h2]; rfl
    have h4 := List.head?_dropWhile_not (fun b : UInt8 => b == 32) l.reverse
    rw [h3] at h4
    simp at h4
theorem fits_trim {l : List UInt8} {n : Nat} (ho : l.any oddB = false) (hl : l.length ≤ n) : fitsF (trimR l) (n : Int) = true := by
  have h1 : (trimR l).any oddB = false := by
    rw [List.any_eq_false] at ho ⊢
    exact fun x hx => ho x ((trimR_prefix l).subset hx)
  have h2 := trimR_len l
  simp only [fitsF, h1, trimR_end]
  simp
  omega
theorem line_fields : ∀ (ns : List Nat) (l : List UInt8), l.length = ns.sum → lineF (intsOf ns) (fieldsN ns l) = l
  | [], l, h => by
    have : l = [] := List.eq_nil_of_length_eq_zero h
    rw [this]
    rfl
  | n :: ns, l, h => by
    rw [List.sum_cons] at h
    have ih := line_fields ns (l.drop n) (by rw [List.length_drop]; omega)
    have hp := trimR_pad (l.take n)
    have hl : (l.take n).length = n := by rw [List.length_take]; omega
    rw [hl] at hp
    simp only [intsOf, List.map_cons, fieldsN, lineF]
    rw [show ((n : Int) - ((trimR (l.take n)).length : Int)).toNat = n - (trimR (l.take n)).length by omega, ← hp]
    rw [show lineF (ns.map fun n : Nat => (n : Int)) (fieldsN ns (l.drop n)) = l.drop n from ih, List.take_append_drop]
theorem fits_fields : ∀ (ns : List Nat) (l : List UInt8), l.any oddB = false → ((intsOf ns).zip (fieldsN ns l)).all (fun x => fitsF x.2 x.1) = true
  | [], l, _ => rfl
  | n :: ns, l, h => by
    have h1 : (l.take n).any oddB = false := by
      rw [List.any_eq_false] at h ⊢
      exact fun x hx => h x (List.mem_of_mem_take hx)
    have h2 : (l.drop n).any oddB = false := by
      rw [List.any_eq_false] at h ⊢
      exact fun x hx => h x (List.mem_of_mem_drop hx)
    have ih := fits_fields ns (l.drop n) h2
    simp only [intsOf, List.map_cons, fieldsN, List.zip_cons_cons, List.all_cons, Bool.and_eq_true]
    exact ⟨fits_trim h1 (by rw [List.length_take]; omega), ih⟩
theorem parse_nats {ns : List Nat} (hok : okW (intsOf ns) = true) (l : List UInt8) : parseF (intsOf ns) l = if l.length = ns.sum then (if firstOdd l < 0 then (fieldsN ns l, 0) else ([], firstOdd l + 1)) else ([], min (l.length : Int) (ns.sum : Int) + 1) := by
  unfold parseF
  rw [if_pos hok, nats_ints, intsOf, sum_nats]
  by_cases h : l.length = ns.sum
  · rw [if_pos h, if_pos (by omega)]
  · rw [if_neg h, if_neg (by omega)]
theorem fields_short : ∀ (ns : List Nat) (l : List UInt8), ∀ f ∈ fieldsN ns l, f.length ≤ l.length
  | [], l, f, h => by cases h
  | n :: ns, l, f, h => by
    rcases List.mem_cons.1 h with rfl | h
    · have := trimR_len (l.take n)
      rw [List.length_take] at this
      omega
    · have := fields_short ns (l.drop n) f h
      rw [List.length_drop] at this
      omega
theorem parse_short {ns : List Nat} (hok : okW (intsOf ns) = true) (l : List UInt8) : ∀ f ∈ (parseF (intsOf ns) l).1, f.length ≤ l.length := by
  rw [parse_nats hok]
  split
  · split
    · exact fields_short ns l
    · intro f h
      cases h
  · intro f h
    cases h
/-- What is parsed is printed as that line. -/
theorem form_back {ns : List Nat} (hok : okW (intsOf ns) = true) (l : List UInt8) (h : (parseF (intsOf ns) l).2 = 0) : (parseF (intsOf ns) l).1.length = ns.length ∧ printF (intsOf ns) (parseF (intsOf ns) l).1 = l := by
  rw [parse_nats hok] at h ⊢
  by_cases h1 : l.length = ns.sum
  · rw [if_pos h1] at h ⊢
    by_cases h2 : firstOdd l < 0
    · rw [if_pos h2] at h ⊢
      refine ⟨fieldsN_len _ _, ?_⟩
      unfold printF
      rw [hok, fieldsN_len, fits_fields ns l (firstOdd_none.1 h2), intsOf, List.length_map]
      simp only [decide_true, Bool.and_self, if_true]
      exact line_fields ns l h1
    · rw [if_neg h2] at h
      simp only at h
      omega
  · rw [if_neg h1] at h
    simp only at h
    omega
/-- Where a line is wrong. -/
theorem form_col {ns : List Nat} (hok : okW (intsOf ns) = true) (l : List UInt8) (h : (parseF (intsOf ns) l).2 ≠ 0) : (parseF (intsOf ns) l).1 = [] ∧ 1 ≤ (parseF (intsOf ns) l).2 ∧ (parseF (intsOf ns) l).2 ≤ (l.length : Int) + 1 := by
  rw [parse_nats hok] at h ⊢
  by_cases h1 : l.length = ns.sum
  · rw [if_pos h1] at h ⊢
    by_cases h2 : firstOdd l < 0
    · rw [if_pos h2] at h
      exact (h rfl).elim
    · rw [if_neg h2]
      refine ⟨rfl, ?_⟩
      unfold firstOdd at h2 ⊢
      cases hf : l.findIdx? oddB with
      | none => rw [hf] at h2; simp at h2
      | some i =>
        have := (List.findIdx?_eq_some_iff_getElem.1 hf).1
        simp only
        omega
  · rw [if_neg h1]
    refine ⟨rfl, ?_⟩
    simp only
    omega
end Go.Proofs.YtklommbknfpolaaDoor

/-
  What is printed is parsed as those fields, in plain words; conditions: those of each.
-/
import Derived.Test.YtklommbknfpolaaDoorFixClean
namespace Go.Proofs.YtklommbknfpolaaDoor
open Go.RowKit Go.Own

theorem trimR_same {f : List UInt8} (h : ([32] : List UInt8).isSuffixOf f = false) : trimR f = f := by
  rcases List.eq_nil_or_concat f with rfl | ⟨l, x, rfl⟩
  · rfl
  · rw [List.concat_eq_append] at h ⊢
    rw [trimR_snoc]
    have : ¬ x = 32 := by
      rintro rfl
      have : ([32] : List UInt8).isSuffixOf (l ++ [32]) = true := List.isSuffixOf_iff_suffix.2 ⟨l, rfl⟩
      rw [this] at h
      cases h
    rw [if_neg this]
theorem trimR_app {f : List UInt8} (h : ([32] : List UInt8).isSuffixOf f = false) : ∀ k, trimR (f ++ List.replicate k 32) = f
  | 0 => by rw [List.replicate_zero, List.append_nil]; exact trimR_same h
  | k + 1 => by
    rw [List.replicate_succ', ← List.append_assoc, trimR_snoc, if_pos rfl]
    exact trimR_app h k
theorem line_back : ∀ (ns : List Nat) (fs : List (List UInt8)), ns.length = fs.length → ((intsOf ns).zip fs).all (fun x => fitsF x.2 x.1) = true → fieldsN ns (lineF (intsOf ns) fs) = fs ∧ (lineF (intsOf ns) fs).length = ns.sum ∧ (lineF (intsOf ns) fs).any oddB = false
  | [], [], _, _ => ⟨rfl, rfl, rfl⟩
  | [], f :: fs, h, _ => by simp at h
  | n :: ns, [], h, _ => by simp at h
  | n :: ns, f :: fs, h, hf => by
    simp only [intsOf, List.map_cons, List.zip_cons_cons, List.all_cons, Bool.and_eq_true] at hf
    obtain ⟨h1, h2, h3⟩ := line_back ns fs (by simpa using h) hf.2
    have hf1 := hf.1
    simp only [fitsF, Bool.and_eq_true, Bool.not_eq_true', decide_eq_true_eq] at hf1
    obtain ⟨g1, g2, g3⟩ := hf1
    have hk : ((n : Int) - (f.length : Int)).toNat = n - f.length := by omega
    have hl : (f ++ List.replicate (n - f.length) (32 : UInt8)).length = n := by rw [List.length_append, List.length_replicate]; omega
    simp only [intsOf] at h1 h2 h3
    simp only [intsOf, List.map_cons, lineF, hk, fieldsN, List.sum_cons]
    refine ⟨?_, ?_, ?_⟩
    · rw [List.take_left' hl, List.drop_left' hl, trimR_app g3, h1]
    · rw [List.length_append, hl, h2]
    · rw [List.any_append, List.any_append, g1, h3]
      simp [oddB]
theorem print_back {ns : List Nat} {fs : List (List UInt8)} (hok : okW (intsOf ns) = true) (hl : ns.length = fs.length) (hf : ((intsOf ns).zip fs).all (fun x => fitsF x.2 x.1) = true) :
    printF (intsOf ns) fs = lineF (intsOf ns) fs ∧ parseF (intsOf ns) (lineF (intsOf ns) fs) = (fs, 0) := by
  obtain ⟨h1, h2, h3⟩ := line_back ns fs hl hf
  refine ⟨?_, ?_⟩
  · unfold printF
    rw [hok, hf]
    simp [intsOf, hl]
  · rw [parse_nats hok, if_pos h2, if_pos (firstOdd_none.2 h3), h1]
theorem parse_more {ns : List Nat} (hok : okW (intsOf ns) = true) {l : List UInt8} (h : l.length = ns.sum + 1) : parseF (intsOf ns) l = ([], (ns.sum : Int) + 1) := by
  rw [parse_nats hok, if_neg (by omega)]
  congr 2
  omega
theorem parse_less {ns : List Nat} (hok : okW (intsOf ns) = true) {l : List UInt8} (h : l.length + 1 = ns.sum) : parseF (intsOf ns) l = ([], (ns.sum : Int)) := by
  rw [parse_nats hok, if_neg (by omega)]
  congr 1
  omega
theorem parse_odd {ns : List Nat} (hok : okW (intsOf ns) = true) {l : List UInt8} {k : Nat} (h : l.length = ns.sum) (hk : k < l.length) (ho : l.any oddB = false) : parseF (intsOf ns) (l.take k ++ 31 :: l.drop (k + 1)) = ([], (k : Int) + 1) := by
  have hl : (l.take k ++ (31 : UInt8) :: l.drop (k + 1)).length = l.length := by simp; omega
  have hlk : (l.take k).length = k := by rw [List.length_take]; omega
  have hf := firstOdd_at (l := l.take k ++ (31 : UInt8) :: l.drop (k + 1)) (j := k) (by omega) (by
    rw [List.take_left' hlk, List.any_eq_false]
    rw [List.any_eq_false] at ho
    exact fun x hx => ho x (List.mem_of_mem_take hx)) (by
    rw [List.getElem_append_right (by omega)]
    simp [hlk, oddB])
  rw [parse_nats hok, if_pos (by omega), hf, if_neg (by omega)]
theorem clean_fits (s : ByteArray) {n : Nat} (h : s.size ≤ n) : fitsF ((tx s).map cl) (n : Int) = true := by
  have h1 : ((tx s).map cl).any oddB = false := by
    rw [List.any_eq_false]
    intro x hx
    obtain ⟨c, _, rfl⟩ := List.mem_map.1 hx
    rw [cl_even]
    simp
  have h2 : ([32] : List UInt8).isSuffixOf ((tx s).map cl) = false := by
    cases hx : ([32] : List UInt8).isSuffixOf ((tx s).map cl)
    · rfl
    · obtain ⟨t, ht⟩ := List.isSuffixOf_iff_suffix.1 hx
      have hm : (32 : UInt8) ∈ (tx s).map cl := by rw [← ht]; simp
      obtain ⟨c, _, hc⟩ := List.mem_map.1 hm
      have := congrArg UInt8.toNat hc
      rw [cl_nat] at this
      have e : (32 : UInt8).toNat = 32 := rfl
      omega
  have h3 : ((tx s).map cl).length = s.size := by rw [List.length_map]; rfl
  simp only [fitsF, h1, h2, h3]
  simp
  omega
/-- How wide each field's width is. -/
def widB (ss : List ByteArray) (ds : List Nat) : List Nat := ss.mapIdx fun i s => s.size + 1 + ds.getD i 0
def ownB (ss : List ByteArray) : List (List UInt8) := ss.map fun s => (tx s).map cl
theorem widB_len (ss : List ByteArray) (ds : List Nat) : (widB ss ds).length = ss.length := by simp [widB]
theorem widB_take {ss : List ByteArray} {ds : List Nat} {j : Nat} (hj : j < ss.length) : (widB ss ds).take (j + 1) = (widB ss ds).take j ++ [ss[j].size + 1 + ds.getD j 0] := by
  rw [List.take_succ_eq_append_getElem (by rw [widB_len]; exact hj)]
  simp [widB]
theorem ownB_take {ss : List ByteArray} {j : Nat} (hj : j < ss.length) : ownB (ss.take (j + 1)) = ownB (ss.take j) ++ [(tx ss[j]).map cl] := by
  unfold ownB
  rw [List.take_succ_eq_append_getElem hj, List.map_append]
  rfl
theorem widB_mem {ss : List ByteArray} {ds : List Nat} (hs : ∀ s ∈ ss, s.size ≤ 100) (hd : ∀ d ∈ ds, d ≤ 255) : ∀ n ∈ widB ss ds, 1 ≤ n ∧ n ≤ 356 := by
  intro n hn
  obtain ⟨i, hi, rfl⟩ := List.mem_iff_getElem.1 hn
  rw [widB_len] at hi
  have h1 := hs ss[i] (List.getElem_mem hi)
  have h2 : ds.getD i 0 ≤ 255 := by
    rw [List.getD_eq_getElem?_getD]
    cases h : ds[i]? with
    | none => simp
    | some d => exact hd d (List.mem_of_getElem? h)
  simp only [widB, List.getElem_mapIdx]
  omega
theorem sum_356 : ∀ (ns : List Nat), (∀ n ∈ ns, 1 ≤ n ∧ n ≤ 356) → ns.sum ≤ 356 * ns.length
  | [], _ => by simp
  | n :: ns, h => by
    have h1 := h n (by simp)
    have h2 := sum_356 ns (fun x hx => h x (by simp [hx]))
    simp only [List.sum_cons, List.length_cons]
    omega
theorem widB_fits (ss : List ByteArray) (ds : List Nat) : ((intsOf (widB ss ds)).zip (ownB ss)).all (fun x => fitsF x.2 x.1) = true := by
  rw [List.all_eq_true]
  intro x hx
  obtain ⟨i, hi, rfl⟩ := List.mem_iff_getElem.1 hx
  have hi2 : i < ss.length := by
    rw [List.length_zip] at hi
    have : (ownB ss).length = ss.length := by simp [ownB]
    omega
  simp only [List.getElem_zip, intsOf, ownB, widB, List.getElem_map, List.getElem_mapIdx]
  exact clean_fits ss[i] (by omega)
end Go.Proofs.YtklommbknfpolaaDoor

/-
  Lines of fields of fixed widths, in plain words: where a byte is that may not be; which widths may be; conditions: none.
-/
import Derived.Shelf.GgClosure.StringsIndexFunc
import Derived.Laws.RangeString
import Derived.Lib.Strings
namespace Go.Proofs.YtklommbknfpolaaDoor
open Go.RowKit

/-- A byte that may not stand in a line. -/
def oddB (b : UInt8) : Bool := decide (b.toNat < 32) || decide (126 < b.toNat)
def oddR (r : Nat) : Bool := decide (r < 32) || decide (126 < r)
theorem decode_high (s : ByteArray) (pos : Nat) (h : pos < s.size) (ha : ¬ (s[pos]'h).toNat < 128) : 126 < (Utf8.decode s pos).1 := by
  have hb : s.get! (pos + 0) = s[pos]'h := by
    rw [Nat.add_zero]
    show s.data[pos]! = s.data[pos]
    exact getElem!_pos s.data pos h
  unfold Utf8.decode
  simp only [hb]
  rw [if_neg ha]
  have e : 126 < Utf8.runeError := by decide
  repeat' split
  all_goals first | exact e | skip
  all_goals simp_all
  all_goals omega
theorem idx_from (l : List UInt8) : ∀ (f pos : Nat), l.length ≤ pos + f → Lib.idxFuncFrom oddR true ⟨l.toArray⟩ f pos = match (l.drop pos).findIdx? oddB with | some i => ((pos + i : Nat) : Int) | none => -1
  | 0, pos, h => by
    rw [List.drop_of_length_le (by omega)]
    rfl
  | f + 1, pos, h => by
    have hsz : (⟨l.toArray⟩ : ByteArray).size = l.length := rfl
    unfold Lib.idxFuncFrom
    by_cases hp : pos < l.length
    · rw [if_pos (by rw [hsz]; exact hp), List.drop_eq_getElem_cons hp, List.findIdx?_cons]
      have hg : (⟨l.toArray⟩ : ByteArray)[pos]'(by rw [hsz]; exact hp) = l[pos] := rfl
      by_cases ha : l[pos].toNat < 128
      · rw [decode_ascii ⟨l.toArray⟩ pos (by rw [hsz]; exact hp) (by rw [hg]; exact ha), hg]
        by_cases ho : oddB l[pos] = true
        · rw [if_pos (show oddR l[pos].toNat = true from ho), if_pos ho]
          simp
        · rw [if_neg (show ¬ oddR l[pos].toNat = true from ho), if_neg ho, idx_from l f (pos + 1) (by omega)]
          cases (l.drop (pos + 1)).findIdx? oddB with
          | none => rfl
          | some i =>
            show ((pos + 1 + i : Nat) : Int) = ((pos + (i + 1) : Nat) : Int)
            rw [show pos + 1 + i = pos + (i + 1) by omega]
      · have hd := decode_high ⟨l.toArray⟩ pos (by rw [hsz]; exact hp) (by rw [hg]; exact ha)
        have h1 : oddR (Utf8.decode ⟨l.toArray⟩ pos).1 = true := by simp [oddR]; omega
        have h2 : oddB l[pos] = true := by simp [oddB]; omega
        rw [if_pos h1, if_pos h2]
        simp
    · rw [if_neg (by rw [hsz]; exact hp), List.drop_of_length_le (by omega)]
      rfl
/-- The first byte that may not be: where it is; -1: there is none. -/
def firstOdd (l : List UInt8) : Int := match l.findIdx? oddB with
  | some i => ((i : Nat) : Int)
  | none => -1
theorem idx_odd (l : List UInt8) : Lib.idxFunc oddR true ⟨l.toArray⟩ = firstOdd l := by
  unfold Lib.idxFunc firstOdd
  rw [idx_from l _ 0 (by show l.length ≤ 0 + l.length; omega), List.drop_zero]
  cases l.findIdx? oddB with
  | none => rfl
  | some i => simp
theorem firstOdd_none {l : List UInt8} : firstOdd l < 0 ↔ l.any oddB = false := by
  unfold firstOdd
  cases h : l.findIdx? oddB with
  | none =>
    rw [List.findIdx?_eq_none_iff] at h
    simp only [List.any_eq_false]
    exact ⟨fun _ x hx => by rw [h x hx]; simp, fun _ => by omega⟩
  | some i =>
    obtain ⟨hi, h1, -⟩ := List.findIdx?_eq_some_iff_getElem.1 h
    refine ⟨fun h0 => by simp at h0; omega, fun h0 => ?_⟩
    rw [List.any_eq_false] at h0
    exact (h0 _ (List.getElem_mem hi) h1).elim
/-- May widths be? -/
def okW (ws : List Int) : Bool := decide (ws.length ≤ 100) && ws.all fun n => decide (1 ≤ n) && decide (n ≤ 1000)
/-- Does a field fit a width? -/
def fitsF (s : List UInt8) (w : Int) : Bool := !s.any oddB && (decide ((s.length : Int) ≤ w) && !([32] : List UInt8).isSuffixOf s)
def lineF : List Int → List (List UInt8) → List UInt8
  | w :: ws, s :: ss => s ++ List.replicate (w - (s.length : Int)).toNat 32 ++ lineF ws ss
  | _, _ => []
/-- The line of fields, in their widths; nothing: they don't fit. -/
def printF (ws : List Int) (ss : List (List UInt8)) : List UInt8 := if (okW ws && decide (ws.length = ss.length) && (ws.zip ss).all fun x => fitsF x.2 x.1) = true then lineF ws ss else []
theorem lineF_snoc : ∀ (ws : List Int) (ss : List (List UInt8)) (w : Int) (s : List UInt8), ws.length = ss.length → lineF (ws ++ [w]) (ss ++ [s]) = lineF ws ss ++ (s ++ List.replicate (w - (s.length : Int)).toNat 32)
  | [], [], w, s, _ => by simp [lineF]
  | a :: ws, b :: ss, w, s, h => by
    have := lineF_snoc ws ss w s (by simpa using h)
    simp only [List.cons_append, lineF, this, List.append_assoc]
theorem okW_sum : ∀ {ws : List Int}, (ws.all fun n => decide (1 ≤ n) && decide (n ≤ 1000)) = true → 0 ≤ ws.sum ∧ ws.sum ≤ 1000 * ws.length
  | [], _ => by simp
  | n :: ws, h => by
    simp only [List.all_cons, Bool.and_eq_true, decide_eq_true_eq] at h
    have := okW_sum h.2
    simp only [List.sum_cons, List.length_cons]
    omega
end Go.Proofs.YtklommbknfpolaaDoor

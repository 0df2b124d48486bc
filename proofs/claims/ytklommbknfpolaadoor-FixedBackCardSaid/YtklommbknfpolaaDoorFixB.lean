/-
  Whether a field fits a width, by walking the document's text; what a byte may not be, for the library's search; conditions: none.
-/
import Derived.Test.YtklommbknfpolaaDoorFixA
import Derived.Test.YtklommbknfpolaaDoorShelfD
namespace Go.Proofs.YtklommbknfpolaaDoor
open Go.RowKit Go.Own

theorem any_take {l : List UInt8} {j : Nat} (hj : j < l.length) : (l.take (j + 1)).any oddB = ((l.take j).any oddB || oddB l[j]) := by
  rw [List.take_succ_eq_append_getElem hj, List.any_append]
  simp
theorem any_at {l : List UInt8} {j : Nat} (hj : j < l.length) (h : oddB l[j] = true) : l.any oddB = true := List.any_eq_true.2 ⟨_, List.getElem_mem hj, h⟩
theorem suffix32 {l : List UInt8} (h : 0 < l.length) : ([32] : List UInt8).isSuffixOf l = decide (l[l.length - 1] = 32) := by
  rw [Bool.eq_iff_iff, List.isSuffixOf_iff_suffix, decide_eq_true_eq]
  constructor
  · rintro ⟨t, rfl⟩
    simp
  · intro e
    refine ⟨l.dropLast, ?_⟩
    have hne : l ≠ [] := by rintro rfl; simp at h
    have := List.dropLast_concat_getLast hne
    rw [List.getLast_eq_getElem hne, e] at this
    exact this
set_option maxHeartbeats 8000000 in
set_option maxRecDepth 100000 in
theorem fits_any {W : World} (s : ByteArray) (w : Int) (hs : (s.size : Int) ≤ 9223372036854775807) : Calls Tryd.prog 22 #[.string s, .int .i64 w] W fun e w' => e = .returned (.bool (fitsF s.data.toList w)) ∧ Below W.heap.size W w' := by
  have HO := Own.start W
  go_enter Tryd.func22, Tryd.ntmps22
  go_wp2_with fail
  go_loopw [5] (fun i wr => ∃ j : Nat, j ≤ s.size ∧ i = .int .i64 (j : Int) ∧ (s.data.toList.take j).any oddB = false ∧ Own W wr []) (fun i _ => s.size - (intOf i).toNat)
  case atStart => exact ⟨0, by omega, rfl, rfl, HO⟩
  case round =>
    clear HO
    obtain ⟨j, hj, rfl, hno, HO⟩ := hrel
    by_cases hjl : j < s.size
    · have hjI : (j : Int) < (s.size : Int) := by omega
      have HA := Lib.hid (any_take (l := s.data.toList) (j := j) hjl)
      have HN := Lib.hid hno
      clear hno
      have hb : s.data.toList[j]'hjl = s[j] := rfl
      rw [hb] at HA
      have HF := Lib.hid (fun (h : oddB s[j] = true) => (show fitsF s.data.toList w = false by unfold fitsF; rw [any_at (l := s.data.toList) (j := j) hjl h]; rfl))
      by_cases h1 : (s[j].toNat : Int) < 32
      · have HQ := Lib.hid (HF.out (by simp [oddB]; omega))
        go_wp2_with fail
        go_ret
        exact ⟨by first | (rw [HQ.out]; done) | (rw [HQ.out]; rfl), HO.grown⟩
      by_cases h2 : (126 : Int) < (s[j].toNat : Int)
      · have HQ := Lib.hid (HF.out (by simp [oddB]; omega))
        go_wp2_with fail
        go_ret
        exact ⟨by first | (rw [HQ.out]; done) | (rw [HQ.out]; rfl), HO.grown⟩
      have HZ := Lib.hid (show oddB s[j] = false by simp [oddB]; omega)
      go_wp2_with fail
      go_roundw
      case rel => exact ⟨j + 1, by omega, by go_num, by rw [HA.out, HN.out, HZ.out]; rfl, HO⟩
      case measure => simp [intOf] <;> omega
    obtain rfl : j = s.size := by omega
    have hno2 : s.data.toList.any oddB = false := by rw [List.take_of_length_le (by exact Nat.le_refl _)] at hno; exact hno
    have hlen : s.data.toList.length = s.size := rfl
    clear hno
    by_cases hle : (s.size : Int) ≤ w
    rotate_left
    · have HQ := Lib.hid (show fitsF s.data.toList w = false by unfold fitsF; rw [hno2, hlen]; simp [hle])
      have hle' : ¬ (s.size : Int) ≤ w := hle
      go_wp2_with fail
      go_ret
      exact ⟨by first | (rw [HQ.out]; done) | (rw [HQ.out]; rfl), HO.grown⟩
    rcases Nat.eq_zero_or_pos s.size with h0 | h0
    · have HQ := Lib.hid (show fitsF s.data.toList w = true by
        have e0 : s.data.toList = [] := List.eq_nil_of_length_eq_zero (by rw [hlen]; exact h0)
        have e1 : ([32] : List UInt8).isSuffixOf [] = false := by decide
        have e2 : (0 : Int) ≤ w := by omega
        rw [e0] at hno2 ⊢
        unfold fitsF
        rw [hno2, e1]
        simp [e2])
      clear hno2 hlen
      go_wp2_with fail
      go_ret
      exact ⟨by first | (rw [HQ.out]; done) | (rw [HQ.out]; rfl), HO.grown⟩
    obtain ⟨k, hk⟩ : ∃ k, s.size = k + 1 := ⟨s.size - 1, by omega⟩
    have hlt : k < s.size := by omega
    have HQ := Lib.hid (show fitsF s.data.toList w = !decide (s[k] = 32) by
      unfold fitsF
      rw [hno2, suffix32 (by rw [hlen]; omega)]
      have e3 : s.data.toList.length - 1 = k := by rw [hlen]; omega
      have e4 : s.data.toList[s.data.toList.length - 1]'(by rw [hlen]; omega) = s[k] := by
        show s.data.toList[s.data.toList.length - 1]'(by rw [hlen]; omega) = s.data.toList[k]'(by rw [hlen]; omega)
        congr 1
      rw [e4, hlen]
      simp [hle])
    have hz : ((k : Int) + 1 == 0) = false := by simp; omega
    clear hno2 hlen
    have hkI : (k : Int) < (k : Int) + 1 := by omega
    by_cases hsp : s[k] = 32
    · have hs2 : ((s[k].toNat : Int) == 32) = true := by rw [hsp]; rfl
      go_wp2_with fail
      go_ret
      exact ⟨by rw [HQ.out]; simp [hsp], HO.grown⟩
    · have hs2 : ((s[k].toNat : Int) == 32) = false := by
        simp only [beq_eq_false_iff_ne, ne_eq]
        intro e
        exact hsp (UInt8.toNat_inj.1 (by show s[k].toNat = 32; omega))
      go_wp2_with fail
      go_ret
      exact ⟨by rw [HQ.out]; simp [hsp]; simpa using hs2, HO.grown⟩
set_option maxHeartbeats 4000000 in
theorem odd_pred (w : World) : PredAt Tryd.prog 17 #[] encR oddR w := fun W r _ => by
  unfold FnGives
  by_cases h1 : r < 32 <;> by_cases h2 : 126 < r
  all_goals
    have z1 : (r : Int) < 32 ↔ r < 32 := by omega
    have z2 : (126 : Int) < (r : Int) ↔ 126 < r := by omega
    go_enter Tryd.func17, Tryd.ntmps17
    go_wp2_with fail
    all_goals first | (exfalso; omega) | (go_ret; exact ⟨by simp [oddR, h1, h2], 0, rfl⟩)
/-- The library's search for a byte that may not be. -/
theorem index_any {W : World} (s : ByteArray) : Calls Tryd.prog 16 #[.string s, .func (.func 17) #[] #[]] W fun e w' => e = .returned (.int .i64 (firstOdd s.data.toList)) ∧ Below W.heap.size W w' := by
  have := Tryd.strings_IndexFunc 17 #[] (enters_of Tryd.func17 (by kernel_rfl) rfl) oddR s W (odd_pred W)
  rw [show s = ⟨s.data.toList.toArray⟩ from rfl, idx_odd] at this
  exact this
theorem suffix_any {W : World} (s p : ByteArray) (hs : s.size ≤ 9223372036854775807) : Calls Tryd.prog 15 #[.string s, .string p] W fun e w' => e = .returned (.bool (p.data.toList.isSuffixOf s.data.toList)) ∧ Below W.heap.size W w' :=
  (Tryd.strings_HasSuffix s p W hs).mono fun e w' ⟨h1, h2⟩ => ⟨h1, by rw [h2]; exact Below.refl _ _⟩
end Go.Proofs.YtklommbknfpolaaDoor

/-
  What the functions on names compute, by walking their text; conditions: none.
-/
import Derived.Test.YtlfphfklcifgpaaDoorRows
import Derived.Test.YtlfphfklcifgpaaDoorBase
namespace Go.Proofs.YtlfphfklcifgpaaDoor
open Go.RowKit Go.Own

def nameByte (c : Nat) : Bool := (decide (65 ≤ c) && decide (c ≤ 90)) || (decide (97 ≤ c) && decide (c ≤ 122)) || (decide (48 ≤ c) && decide (c ≤ 57)) || decide (c = 45) || decide (c = 95)
def isName (l : List UInt8) : Bool := l.all fun c => nameByte c.toNat
theorem isName_not {l : List UInt8} {i : Nat} (h : i < l.length) (hc : nameByte l[i].toNat = false) : isName l = false := by
  unfold isName
  rw [List.all_eq_false]
  exact ⟨l[i], List.getElem_mem _, by simp [hc]⟩
theorem isName_all {l : List UInt8} (h : ∀ c ∈ l.take l.length, nameByte c.toNat = true) : isName l = true := by
  rw [List.take_length] at h
  exact List.all_eq_true.2 h
theorem name_snoc {l : List UInt8} {i : Nat} (h : i < l.length) (hp : ∀ c ∈ l.take i, nameByte c.toNat = true) (hc : nameByte l[i].toNat = true) : ∀ c ∈ l.take (i + 1), nameByte c.toNat = true := by
  rw [List.take_succ_eq_append_getElem h]
  intro c hm
  rcases List.mem_append.1 hm with h1 | h1
  · exact hp c h1
  · rw [List.mem_singleton.1 h1]; exact hc

theorem nameByte_iff {c : Nat} : nameByte c = true ↔ (65 ≤ c ∧ c ≤ 90) ∨ (97 ≤ c ∧ c ≤ 122) ∨ (48 ≤ c ∧ c ≤ 57) ∨ c = 45 ∨ c = 95 := by
  simp [nameByte, or_assoc]
theorem nameByte_iff_not {c : Nat} : nameByte c = false ↔ ¬ ((65 ≤ c ∧ c ≤ 90) ∨ (97 ≤ c ∧ c ≤ 122) ∨ (48 ≤ c ∧ c ≤ 57) ∨ c = 45 ∨ c = 95) := by
  rw [← nameByte_iff]; simp

set_option maxHeartbeats 1000000 in
theorem refName_any (l : List UInt8) (w : World) (hl : l.length ≤ maxLen) : Calls Tryd.prog 91 #[.string ⟨l.toArray⟩] w fun e w' => e = .returned (.bool (isName l)) ∧ Below w.heap.size w w' := by
  unfold maxLen at hl
  go_enter Tryd.func91, Tryd.ntmps91
  go_wp2_with fail
  go_loop [3] (fun c => ∃ i : Nat, i ≤ l.length ∧ c = .int .i64 i ∧ (∀ c ∈ l.take i, nameByte c.toNat = true)) (fun c => l.length - (intOf c).toNat)
  case atStart => exact ⟨0, by omega, rfl, by simp⟩
  case round =>
    obtain ⟨i, h1, rfl, h3⟩ := hrel
    have H3 := Lib.hid h3
    clear h3
    by_cases hi : i < l.length
    · have hlt : (i : Int) < (l.length : Int) := by omega
      cases hn : nameByte l[i].toNat
      · have HN := Lib.hid hn
        have hc : ¬ ((65 ≤ (l[i].toNat : Int) ∧ (l[i].toNat : Int) ≤ 90) ∨ (97 ≤ (l[i].toNat : Int) ∧ (l[i].toNat : Int) ≤ 122) ∨ (48 ≤ (l[i].toNat : Int) ∧ (l[i].toNat : Int) ≤ 57) ∨ (l[i].toNat : Int) = 45 ∨ (l[i].toNat : Int) = 95) := by
          have := nameByte_iff_not.1 hn; omega
        have e1 : ((l[i].toNat : Int) == 45) = false := by simp; omega
        have e2 : ((l[i].toNat : Int) == 95) = false := by simp; omega
        have HC := Lib.hid hc
        have HF := Lib.hid (isName_not hi hn)
        clear hn hc
        go_wp2_with fail
        all_goals first
          | (go_ret; exact ⟨ret_bool HF.out.symm, Below.refl _ _⟩)
          | (exfalso; have hh := HC.out; clear HC; simp at *; omega)
      · have HN := Lib.hid hn
        have hc : ((65 ≤ (l[i].toNat : Int) ∧ (l[i].toNat : Int) ≤ 90) ∨ (97 ≤ (l[i].toNat : Int) ∧ (l[i].toNat : Int) ≤ 122) ∨ (48 ≤ (l[i].toNat : Int) ∧ (l[i].toNat : Int) ≤ 57) ∨ (l[i].toNat : Int) = 45 ∨ (l[i].toNat : Int) = 95) := by
          have := nameByte_iff.1 hn; omega
        have HC := Lib.hid hc
        clear hn hc
        go_wp2_with fail
        all_goals first
          | (go_round
             case rel => exact ⟨i + 1, by omega, by go_num, name_snoc hi H3.out HN.out⟩
             case measure => simp [intOf] <;> omega)
          | (exfalso; rcases HC.out with h | h | h | h | h <;> first | omega | (simp_all; done))
    · have : i = l.length := by omega
      subst this
      have HF := Lib.hid (isName_all H3.out)
      go_wp2_with fail
      go_ret
      exact ⟨ret_bool HF.out.symm, Below.refl _ _⟩

set_option maxHeartbeats 1000000 in
theorem name_any (l : List UInt8) (w : World) (hl : l.length ≤ maxLen) : Calls Tryd.prog 81 #[.string ⟨l.toArray⟩] w fun e w' => e = .returned (.bool (isName l)) ∧ Below w.heap.size w w' := by
  unfold maxLen at hl
  have hB : ∀ p, Below w.heap.size w (w.iter ⟨l.toArray⟩ p) := fun p => (Below.refl _ _).alloc (Nat.le_refl _) _
  have HB := Lib.hid hB
  clear hB
  go_enter Tryd.func81, Tryd.ntmps81
  go_wp2_with fail
  go_loopw [4] (fun c wr => ∃ i : Nat, i ≤ l.length ∧ wr = w.iter ⟨l.toArray⟩ i ∧ (∀ c ∈ l.take i, nameByte c.toNat = true)) (fun _ wr => l.length - wr.iterPos w.heap.size)
  case atStart => exact ⟨0, by omega, rfl, by simp⟩
  case round =>
    obtain ⟨i, h1, rfl, h3⟩ := hrel
    have H3 := Lib.hid h3
    clear h3
    by_cases hi : i < l.length
    · have hlt : (i : Int) < (l.length : Int) := by omega
      by_cases ha : l[i].toNat < 128
      · have hnx := fun ty => run_next_ascii (P := Tryd.prog) w ⟨l.toArray⟩ i ty hi ha
        cases hn : nameByte l[i].toNat
        · have HN := Lib.hid hn
          have hc : ¬ ((65 ≤ (l[i].toNat : Int) ∧ (l[i].toNat : Int) ≤ 90) ∨ (97 ≤ (l[i].toNat : Int) ∧ (l[i].toNat : Int) ≤ 122) ∨ (48 ≤ (l[i].toNat : Int) ∧ (l[i].toNat : Int) ≤ 57) ∨ (l[i].toNat : Int) = 45 ∨ (l[i].toNat : Int) = 95) := by
            have := nameByte_iff_not.1 hn; omega
          have e1 : ((l[i].toNat : Int) == 45) = false := by simp; omega
          have e2 : ((l[i].toNat : Int) == 95) = false := by simp; omega
          have HC := Lib.hid hc
          have HF := Lib.hid (isName_not hi hn)
          clear hn hc
          go_wp2_with fail
          all_goals first
            | (go_ret; exact ⟨ret_bool HF.out.symm, HB.out _⟩)
            | (exfalso; have hh := HC.out; clear HC; simp at *; omega)
        · have HN := Lib.hid hn
          have hc : ((65 ≤ (l[i].toNat : Int) ∧ (l[i].toNat : Int) ≤ 90) ∨ (97 ≤ (l[i].toNat : Int) ∧ (l[i].toNat : Int) ≤ 122) ∨ (48 ≤ (l[i].toNat : Int) ∧ (l[i].toNat : Int) ≤ 57) ∨ (l[i].toNat : Int) = 45 ∨ (l[i].toNat : Int) = 95) := by
            have := nameByte_iff.1 hn; omega
          have HC := Lib.hid hc
          clear hn hc
          go_wp2_with fail
          all_goals first
            | (go_roundw
               case rel => exact ⟨i + 1, by omega, rfl, name_snoc hi H3.out HN.out⟩
               case measure => simp <;> omega)
            | (exfalso; rcases HC.out with h | h | h | h | h <;> first | omega | (simp_all; done))
      · have hdh := (decode_high ⟨l.toArray⟩ i hi (by show 128 ≤ l[i].toNat; omega)).1
        have hnx := fun ty => run_next_any (P := Tryd.prog) w ⟨l.toArray⟩ i ty hi
        have HF := Lib.hid (isName_not hi (nameByte_iff_not.2 (by omega)))
        generalize Utf8.decode ⟨l.toArray⟩ i = d at hdh hnx
        have hd1 : (128 : Int) ≤ (d.1 : Int) := by omega
        clear hdh
        have e1 : ((d.1 : Int) == 45) = false := by simp; omega
        have e2 : ((d.1 : Int) == 95) = false := by simp; omega
        go_wp2_with fail
        all_goals (go_ret; exact ⟨ret_bool HF.out.symm, HB.out _⟩)
    · have : i = l.length := by omega
      subst this
      have HF := Lib.hid (isName_all H3.out)
      have hnx := fun ty => run_next_end (P := Tryd.prog) w ⟨l.toArray⟩ l.length ty (by simp [ByteArray.size])
      go_wp2_with fail
      go_ret
      exact ⟨ret_bool HF.out.symm, HB.out _⟩
end Go.Proofs.YtlfphfklcifgpaaDoor

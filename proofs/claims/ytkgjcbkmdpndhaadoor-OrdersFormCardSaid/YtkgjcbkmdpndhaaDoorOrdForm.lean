/-
  The law OrdersForm returns true, by walking its text; conditions: texts no longer than memory bears, the table of parties as laid.
-/
import Derived.Test.YtkgjcbkmdpndhaaDoorOrdGet
import Derived.Test.YtkgjcbkmdpndhaaDoorOrdLaw
namespace Go.Proofs.YtkgjcbkmdpndhaaDoor
open Go.RowKit Go.Own

set_option maxHeartbeats 4000000 in
set_option maxRecDepth 100000 in
theorem form_any (l : List UInt8) (w : World) (hl : l.length ≤ maxLen) (hL : Laid w) :
    Calls Tryd.prog 6 #[.string ⟨l.toArray⟩] w fun e w' => e = .returned (.bool true) ∧ Below w.heap.size w w' := by
  have O := ordered_any
  have HL := Lib.hid hL
  have hpos : 0 < w.heap.size := hL.1
  clear hL
  have hG := fun w => get_any l w hl
  unfold maxLen at hl
  by_cases h300 : 300 < l.length
  · have h3 : (300 : Int) < (l.length : Int) := by omega
    go_enter Tryd.func6, Tryd.ntmps6
    go_wp2_with (go_at_call 12; go_must ((with_reducible refine (O _ (by exact HL.out.below (by with_reducible (repeat (first | assumption | exact Below.refl _ _ | refine Below.drew ?_ | refine below_drewN ?_ _ | refine Below.alloc ?_ (by first | (simp; done) | omega | (simp; omega)) _ | refine Below.setCell ?_ (by first | (simp; done) | omega | (simp; omega)) _ | refine Below.trans ?_ (Below.mono (by assumption) (by first | (simp; done) | omega | (simp; omega)))))) hpos)).mono ?_); rintro e w1 ⟨rfl, hb⟩; obtain ⟨hc, hf⟩ := bcell hb; have hz := hb.size; (try simp at hz); (try have hzT := Nat.lt_of_succ_le hz)))
    go_ret
    exact ⟨rfl, (by with_reducible (repeat (first | assumption | exact Below.refl _ _ | refine Below.drew ?_ | refine below_drewN ?_ _ | refine Below.alloc ?_ (by first | (simp; done) | omega | (simp; omega)) _ | refine Below.setCell ?_ (by first | (simp; done) | omega | (simp; omega)) _ | refine Below.trans ?_ (Below.mono (by assumption) (by first | (simp; done) | omega | (simp; omega))))))⟩
  · have h3 : (l.length : Int) ≤ (300 : Int) := by omega
    cases hr : getOrd l with
    | none =>
      rw [hr] at hG
      simp only [retGet] at hG
      go_enter Tryd.func6, Tryd.ntmps6
      go_wp2_with (first | (go_at_call 29; go_must ((with_reducible refine (hG _).mono ?_); rintro e w1 ⟨rfl, hb⟩; obtain ⟨hc, hf⟩ := bcell hb; have hz := hb.size; (try simp at hz); (try have hzT := Nat.lt_of_succ_le hz))) | (go_at_call 12; go_must ((with_reducible refine (O _ (by exact HL.out.below (by with_reducible (repeat (first | assumption | exact Below.refl _ _ | refine Below.drew ?_ | refine below_drewN ?_ _ | refine Below.alloc ?_ (by first | (simp; done) | omega | (simp; omega)) _ | refine Below.setCell ?_ (by first | (simp; done) | omega | (simp; omega)) _ | refine Below.trans ?_ (Below.mono (by assumption) (by first | (simp; done) | omega | (simp; omega)))))) hpos)).mono ?_); rintro e w1 ⟨rfl, hb⟩; obtain ⟨hc, hf⟩ := bcell hb; have hz := hb.size; (try simp at hz); (try have hzT := Nat.lt_of_succ_le hz))))
      go_ret
      exact ⟨rfl, (by with_reducible (repeat (first | assumption | exact Below.refl _ _ | refine Below.drew ?_ | refine below_drewN ?_ _ | refine Below.alloc ?_ (by first | (simp; done) | omega | (simp; omega)) _ | refine Below.setCell ?_ (by first | (simp; done) | omega | (simp; omega)) _ | refine Below.trans ?_ (Below.mono (by assumption) (by first | (simp; done) | omega | (simp; omega))))))⟩
    | some x =>
      obtain ⟨id, ref, sku, qty, amt⟩ := x
      obtain ⟨hc0, hp⟩ := getOrd_some hr
      rw [hr] at hG
      simp only [retGet] at hG
      obtain ⟨_, _, _, _, _, _, _, _, b9, b10, _, _⟩ := ordCheck_ok hc0
      have C := fun w => ordCheck_any id ref sku qty amt w (by unfold maxLen; omega) (by unfold maxLen; omega)
      have P := fun w => putOrd_any id ref sku qty amt w (by unfold maxLen; omega) (by unfold maxLen; omega)
      rw [hc0] at C
      rw [hp] at P
      clear hr hc0 hp
      go_enter Tryd.func6, Tryd.ntmps6
      go_wp2_with (first | (go_at_call 29; go_must ((with_reducible refine (hG _).mono ?_); rintro e w1 ⟨rfl, hb⟩; obtain ⟨hc, hf⟩ := bcell hb; have hz := hb.size; (try simp at hz); (try have hzT := Nat.lt_of_succ_le hz))) | (go_at_call 15; go_must ((with_reducible refine (C _).mono ?_); rintro e w1 ⟨rfl, hb⟩; obtain ⟨hc, hf⟩ := bcell hb; have hz := hb.size; (try simp at hz); (try have hzT := Nat.lt_of_succ_le hz))) | (go_at_call 17; go_must ((with_reducible refine (P _).mono ?_); rintro e w1 ⟨rfl, hb⟩; obtain ⟨hc, hf⟩ := bcell hb; have hz := hb.size; (try simp at hz); (try have hzT := Nat.lt_of_succ_le hz))) | (go_at_call 12; go_must ((with_reducible refine (O _ (by exact HL.out.below (by with_reducible (repeat (first | assumption | exact Below.refl _ _ | refine Below.drew ?_ | refine below_drewN ?_ _ | refine Below.alloc ?_ (by first | (simp; done) | omega | (simp; omega)) _ | refine Below.setCell ?_ (by first | (simp; done) | omega | (simp; omega)) _ | refine Below.trans ?_ (Below.mono (by assumption) (by first | (simp; done) | omega | (simp; omega)))))) hpos)).mono ?_); rintro e w1 ⟨rfl, hb⟩; obtain ⟨hc, hf⟩ := bcell hb; have hz := hb.size; (try simp at hz); (try have hzT := Nat.lt_of_succ_le hz))))
      go_ret
      exact ⟨rfl, (by with_reducible (repeat (first | assumption | exact Below.refl _ _ | refine Below.drew ?_ | refine below_drewN ?_ _ | refine Below.alloc ?_ (by first | (simp; done) | omega | (simp; omega)) _ | refine Below.setCell ?_ (by first | (simp; done) | omega | (simp; omega)) _ | refine Below.trans ?_ (Below.mono (by assumption) (by first | (simp; done) | omega | (simp; omega))))))⟩
end Go.Proofs.YtkgjcbkmdpndhaaDoor

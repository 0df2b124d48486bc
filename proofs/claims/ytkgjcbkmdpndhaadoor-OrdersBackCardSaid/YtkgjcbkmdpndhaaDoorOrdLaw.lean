/-
  The chapter's order, and the law OrdersTell, by walking their text; conditions: texts no longer than memory bears, the table of parties as laid.
-/
import Derived.Test.YtkgjcbkmdpndhaaDoorRefMsg
namespace Go.Proofs.YtkgjcbkmdpndhaaDoor
open Go.RowKit Go.Own

def sR : List UInt8 := [82, 45, 49]
def sNut : List UInt8 := [110, 117, 116]
def sAB : List UInt8 := [97, 32, 98]
def sNine : List UInt8 := [49, 50, 51, 52, 53, 54, 55, 56, 57]
theorem ex1 : putOrd 3 [82, 45, 49] [110, 117, 116] 4 300 = [3, 3, 82, 45, 49, 3, 110, 117, 116, 4, 172, 2] := by decide +kernel
theorem ex2 : msgOf 3 [82, 45, 49] [110, 117, 116] 4 300 1 = ⟨0, 3, 1, [], 0, 300, 0⟩ := by rfl
theorem ex3 : msgOf 3 [82, 45, 49] [110, 117, 116] 4 300 3 = ⟨1, 3, 3, [110, 117, 116], 4, 0, 0⟩ := by rfl
theorem ex4 : ordCheck 3 [97, 32, 98] [110, 117, 116] 4 300 = 2 := by decide +kernel
theorem ex5 : ordCheck 3 [82, 45, 49] [49, 50, 51, 52, 53, 54, 55, 56, 57] 4 300 = 3 := by decide +kernel
theorem ex6 : ordCheck 3 [82, 45, 49] [110, 117, 116] 0 300 = 2 := by decide +kernel

set_option maxHeartbeats 4000000 in
set_option maxRecDepth 100000 in
theorem ordered_any (w : World) (hL : Laid w) : Calls Tryd.prog 12 #[] w fun e w' => e = .returned (.bool true) ∧ Below w.heap.size w w' := by
  have P1 := fun w => putOrd_any 3 [82, 45, 49] [110, 117, 116] 4 300 w (by decide) (by decide)
  rw [ex1] at P1
  have M1 := fun w h => msg_any 3 [82, 45, 49] [110, 117, 116] 4 300 1 w (by decide) (by decide) h
  rw [ex2] at M1
  have M2 := fun w h => msg_any 3 [82, 45, 49] [110, 117, 116] 4 300 3 w (by decide) (by decide) h
  rw [ex3] at M2
  have C1 := fun w => ordCheck_any 3 [97, 32, 98] [110, 117, 116] 4 300 w (by decide) (by decide)
  rw [ex4] at C1
  have C2 := fun w => ordCheck_any 3 [82, 45, 49] [49, 50, 51, 52, 53, 54, 55, 56, 57] 4 300 w (by decide) (by decide)
  rw [ex5] at C2
  have C3 := fun w => ordCheck_any 3 [82, 45, 49] [110, 117, 116] 0 300 w (by decide) (by decide)
  rw [ex6] at C3
  simp only [MsgS.v] at M1 M2
  have HL := Lib.hid hL
  have hpos : 0 < w.heap.size := hL.1
  clear hL
  go_enter Tryd.func12, Tryd.ntmps12
  go_wp2_with fail
  go_region
  all_goals
    go_wp2_with (first
      | (go_at_call 17; go_must ((with_reducible refine (P1 _).mono ?_); rintro e w1 ⟨rfl, hb⟩; obtain ⟨hc, hf⟩ := bcell hb; have hz := hb.size; (try simp at hz); (try have hzT := Nat.lt_of_succ_le hz); have hzA : w.heap.size < w1.heap.size := (by omega); have hzB : w.heap.size + 1 < w1.heap.size := (by omega); have hzC : w.heap.size + 1 + 1 < w1.heap.size := (by omega); have hzD : w.heap.size + 1 + 1 + 1 < w1.heap.size := (by omega); have hzA2 := Nat.le_of_lt hzA; have hzB2 := Nat.le_of_lt hzB; have hzC2 := Nat.le_of_lt hzC; have hzD2 := Nat.le_of_lt hzD))
      | (go_at_call 13; go_must ((first | (with_reducible refine (M1 _ (by exact HL.out.below (by with_reducible (repeat (first | assumption | exact Below.refl _ _ | refine Below.drew ?_ | refine below_drewN ?_ _ | refine Below.alloc ?_ (by first | (simp; done) | omega | (simp; omega)) _ | refine Below.setCell ?_ (by first | (simp; done) | omega | (simp; omega)) _ | refine Below.trans ?_ (Below.mono (by assumption) (by first | (simp; done) | omega | (simp; omega)))))) hpos)).mono ?_) | (with_reducible refine (M2 _ (by exact HL.out.below (by with_reducible (repeat (first | assumption | exact Below.refl _ _ | refine Below.drew ?_ | refine below_drewN ?_ _ | refine Below.alloc ?_ (by first | (simp; done) | omega | (simp; omega)) _ | refine Below.setCell ?_ (by first | (simp; done) | omega | (simp; omega)) _ | refine Below.trans ?_ (Below.mono (by assumption) (by first | (simp; done) | omega | (simp; omega)))))) hpos)).mono ?_)); rintro e w1 ⟨rfl, hb⟩; obtain ⟨hc, hf⟩ := bcell hb; have hz := hb.size; (try simp at hz); (try have hzT := Nat.lt_of_succ_le hz); have hzA : w.heap.size < w1.heap.size := (by omega); have hzB : w.heap.size + 1 < w1.heap.size := (by omega); have hzC : w.heap.size + 1 + 1 < w1.heap.size := (by omega); have hzD : w.heap.size + 1 + 1 + 1 < w1.heap.size := (by omega); have hzA2 := Nat.le_of_lt hzA; have hzB2 := Nat.le_of_lt hzB; have hzC2 := Nat.le_of_lt hzC; have hzD2 := Nat.le_of_lt hzD))
      | (go_at_call 15; go_must ((first | (with_reducible refine (C1 _).mono ?_) | (with_reducible refine (C2 _).mono ?_) | (with_reducible refine (C3 _).mono ?_)); rintro e w1 ⟨rfl, hb⟩; obtain ⟨hc, hf⟩ := bcell hb; have hz := hb.size; (try simp at hz); (try have hzT := Nat.lt_of_succ_le hz); have hzA : w.heap.size < w1.heap.size := (by omega); have hzB : w.heap.size + 1 < w1.heap.size := (by omega); have hzC : w.heap.size + 1 + 1 < w1.heap.size := (by omega); have hzD : w.heap.size + 1 + 1 + 1 < w1.heap.size := (by omega); have hzA2 := Nat.le_of_lt hzA; have hzB2 := Nat.le_of_lt hzB; have hzC2 := Nat.le_of_lt hzC; have hzD2 := Nat.le_of_lt hzD)))
    go_ret
    exact ⟨rfl, (by with_reducible (repeat (first | assumption | exact Below.refl _ _ | refine Below.drew ?_ | refine below_drewN ?_ _ | refine Below.alloc ?_ (by first | (simp; done) | omega | (simp; omega)) _ | refine Below.setCell ?_ (by first | (simp; done) | omega | (simp; omega)) _ | refine Below.trans ?_ (Below.mono (by assumption) (by first | (simp; done) | omega | (simp; omega))))))⟩
end Go.Proofs.YtkgjcbkmdpndhaaDoor

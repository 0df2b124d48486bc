/-
  What the functions on keys compute, by walking their text; conditions: the table of parties holds what the text lays.
-/
import Derived.Test.YtlfphfklcifgpaaDoorRows
import Derived.Test.YtlfphfklcifgpaaDoorBase
namespace Go.Proofs.YtlfphfklcifgpaaDoor
open Go.RowKit Go.Own

def isDeed (d : Int) : Bool := decide (0 ≤ d) && decide (d < 6)
def keyOk (o d : Int) : Bool := decide (1 ≤ o) && decide (o ≤ 60) && isDeed d
def partyOf (d : Int) : Int := if d = 0 then 1 else if d = 1 then 0 else if d = 2 then 2 else if d = 3 then 1 else if d = 4 then 0 else if d = 5 then 2 else -1
def keyLess (a b c d : Int) : Bool := decide (a < c) || (decide (a = c) && decide (b < d))

/-- The table of parties lies in memory. -/
def Laid (w : World) : Prop := 0 < w.heap.size ∧ w.cell? ⟨0, 0, none⟩ = some (.int .i64 1) ∧ w.cell? ⟨0, 1, none⟩ = some (.int .i64 0) ∧ w.cell? ⟨0, 2, none⟩ = some (.int .i64 2) ∧
  w.cell? ⟨0, 3, none⟩ = some (.int .i64 1) ∧ w.cell? ⟨0, 4, none⟩ = some (.int .i64 0) ∧ w.cell? ⟨0, 5, none⟩ = some (.int .i64 2)
theorem Laid.below {B : Nat} {w w' : World} (h : Laid w) (hb : Below B w w') (hB : 0 < B) : Laid w' := by
  have hs := hb.size
  obtain ⟨h0, h⟩ := h
  obtain ⟨hc, _⟩ := bcell hb
  refine ⟨by omega, ?_⟩
  rw [hc 0 0 hB, hc 0 1 hB, hc 0 2 hB, hc 0 3 hB, hc 0 4 hB, hc 0 5 hB]
  exact h

theorem Laid.later {W x : World} {B : Nat} (h : Laid W) (hB : 0 < B) : Laid (later W B x) := h.below (later_below W B x) hB

theorem is_any (d : Int) (w : World) : Calls Tryd.prog 79 #[.int .i64 d] w fun e w' => e = .returned (.bool (isDeed d)) ∧ Below w.heap.size w w' := by
  by_cases h : 0 ≤ d
  · go_enter Tryd.func79, Tryd.ntmps79
    go_wp2
    go_ret
    exact ⟨by simp [isDeed, h], (by with_reducible (repeat (first | exact Below.refl _ _ | assumption | refine Below.drew ?_ | refine below_drewN ?_ _ | refine Below.alloc ?_ (by first | (simp; done) | omega | (simp; omega)) _ | refine Below.setCell ?_ (by first | (simp; done) | omega | (simp; omega)) _)))⟩
  · go_enter Tryd.func79, Tryd.ntmps79
    go_wp2
    go_ret
    exact ⟨by simp [isDeed, show ¬ 0 ≤ d by omega], (by with_reducible (repeat (first | exact Below.refl _ _ | assumption | refine Below.drew ?_ | refine below_drewN ?_ _ | refine Below.alloc ?_ (by first | (simp; done) | omega | (simp; omega)) _ | refine Below.setCell ?_ (by first | (simp; done) | omega | (simp; omega)) _)))⟩

theorem party_any (d : Int) (w : World) (hL : Laid w) : Calls Tryd.prog 53 #[.int .i64 d] w fun e w' => e = .returned (.int .i64 (partyOf d)) ∧ Below w.heap.size w w' := by
  obtain ⟨h0, c0, c1, c2, c3, c4, c5⟩ := hL
  by_cases h : 0 ≤ d ∧ d < 6
  · have hd : d = 0 ∨ d = 1 ∨ d = 2 ∨ d = 3 ∨ d = 4 ∨ d = 5 := by omega
    rcases hd with rfl | rfl | rfl | rfl | rfl | rfl
    all_goals
      go_enter Tryd.func53, Tryd.ntmps53
      go_wp2
      go_ret
      exact ⟨rfl, (by with_reducible (repeat (first | exact Below.refl _ _ | assumption | refine Below.drew ?_ | refine below_drewN ?_ _ | refine Below.alloc ?_ (by first | (simp; done) | omega | (simp; omega)) _ | refine Below.setCell ?_ (by first | (simp; done) | omega | (simp; omega)) _)))⟩
  · have hn : isDeed d = false := by simp [isDeed]; omega
    have hp : partyOf d = -1 := by unfold partyOf; repeat (rw [if_neg (by omega)])
    go_enter Tryd.func53, Tryd.ntmps53
    go_wp2_with (go_at_call 79; go_must (refine (is_any _ _).mono ?_; rintro e w1 ⟨rfl, hb⟩))
    go_ret
    exact ⟨ret_int hp.symm, hb⟩

theorem refParty_any (d : Int) (w : World) : Calls Tryd.prog 48 #[.int .i64 d] w fun e w' => e = .returned (.int .i64 (partyOf d)) ∧ Below w.heap.size w w' := by
  by_cases h : 0 ≤ d ∧ d < 6
  · have hd : d = 0 ∨ d = 1 ∨ d = 2 ∨ d = 3 ∨ d = 4 ∨ d = 5 := by omega
    rcases hd with rfl | rfl | rfl | rfl | rfl | rfl
    all_goals
      go_enter Tryd.func48, Tryd.ntmps48
      go_wp2
      go_ret
      exact ⟨rfl, (by with_reducible (repeat (first | exact Below.refl _ _ | assumption | refine Below.drew ?_ | refine below_drewN ?_ _ | refine Below.alloc ?_ (by first | (simp; done) | omega | (simp; omega)) _ | refine Below.setCell ?_ (by first | (simp; done) | omega | (simp; omega)) _)))⟩
  · have hp : partyOf d = -1 := by unfold partyOf; repeat (rw [if_neg (by omega)])
    by_cases h1 : d < 0
    all_goals
      go_enter Tryd.func48, Tryd.ntmps48
      go_wp2
      go_ret
      first | exact ⟨ret_int hp.symm, (by with_reducible (repeat (first | exact Below.refl _ _ | assumption | refine Below.drew ?_ | refine below_drewN ?_ _ | refine Below.alloc ?_ (by first | (simp; done) | omega | (simp; omega)) _ | refine Below.setCell ?_ (by first | (simp; done) | omega | (simp; omega)) _)))⟩ | exact ⟨rfl, (by with_reducible (repeat (first | exact Below.refl _ _ | assumption | refine Below.drew ?_ | refine below_drewN ?_ _ | refine Below.alloc ?_ (by first | (simp; done) | omega | (simp; omega)) _ | refine Below.setCell ?_ (by first | (simp; done) | omega | (simp; omega)) _)))⟩

theorem keyCheck_any (o d : Int) (w : World) : Calls Tryd.prog 52 #[.agg #[.int .i64 o, .int .i64 d]] w fun e w' => e = .returned (.bool (keyOk o d)) ∧ Below w.heap.size w w' := by
  go_enter Tryd.func52, Tryd.ntmps52
  go_wp2_with (go_at_call 79; go_must (refine (is_any _ _).mono ?_; rintro e w1 ⟨rfl, hb⟩))
  all_goals go_ret
  all_goals refine ⟨ret_bool ?_, (by with_reducible (repeat (first | assumption | exact Below.refl _ _ | refine Below.drew ?_ | refine below_drewN ?_ _ | refine Below.alloc ?_ (by first | (simp; done) | omega | (simp; omega)) _ | refine Below.setCell ?_ (by first | (simp; done) | omega | (simp; omega)) _ | refine Below.trans ?_ (Below.mono (by assumption) (by first | (simp; done) | omega | (simp; omega))))))⟩
  all_goals (rw [Bool.eq_iff_iff]; simp [keyOk, isDeed] <;> omega)

theorem refKeyCheck_any (o d : Int) (w : World) : Calls Tryd.prog 47 #[.agg #[.int .i64 o, .int .i64 d]] w fun e w' => e = .returned (.bool (keyOk o d)) ∧ Below w.heap.size w w' := by
  go_enter Tryd.func47, Tryd.ntmps47
  go_wp2
  all_goals (go_ret; refine ⟨ret_bool ?_, (by with_reducible (repeat (first | exact Below.refl _ _ | assumption | refine Below.drew ?_ | refine below_drewN ?_ _ | refine Below.alloc ?_ (by first | (simp; done) | omega | (simp; omega)) _ | refine Below.setCell ?_ (by first | (simp; done) | omega | (simp; omega)) _)))⟩; rw [Bool.eq_iff_iff]; simp [keyOk, isDeed] <;> first | omega | grind)

theorem less_any (a b c d : Int) (w : World) : Calls Tryd.prog 93 #[.agg #[.int .i64 a, .int .i64 b], .agg #[.int .i64 c, .int .i64 d]] w fun e w' => e = .returned (.bool (keyLess a b c d)) ∧ Below w.heap.size w w' := by
  go_enter Tryd.func93, Tryd.ntmps93
  go_wp2
  all_goals (go_ret; refine ⟨ret_bool ?_, (by with_reducible (repeat (first | exact Below.refl _ _ | assumption | refine Below.drew ?_ | refine below_drewN ?_ _ | refine Below.alloc ?_ (by first | (simp; done) | omega | (simp; omega)) _ | refine Below.setCell ?_ (by first | (simp; done) | omega | (simp; omega)) _)))⟩; rw [Bool.eq_iff_iff]; simp [keyLess] <;> first | omega | grind)

theorem refLess_any (a b c d : Int) (w : World) : Calls Tryd.prog 94 #[.agg #[.int .i64 a, .int .i64 b], .agg #[.int .i64 c, .int .i64 d]] w fun e w' => e = .returned (.bool (keyLess a b c d)) ∧ Below w.heap.size w w' := by
  go_enter Tryd.func94, Tryd.ntmps94
  go_wp2
  all_goals (go_ret; refine ⟨ret_bool ?_, (by with_reducible (repeat (first | exact Below.refl _ _ | assumption | refine Below.drew ?_ | refine below_drewN ?_ _ | refine Below.alloc ?_ (by first | (simp; done) | omega | (simp; omega)) _ | refine Below.setCell ?_ (by first | (simp; done) | omega | (simp; omega)) _)))⟩; rw [Bool.eq_iff_iff]; simp [keyLess] <;> first | omega | grind)
end Go.Proofs.YtlfphfklcifgpaaDoor

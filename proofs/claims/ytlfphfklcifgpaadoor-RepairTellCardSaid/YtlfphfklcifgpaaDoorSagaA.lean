/-
  What the saga's simple functions compute, by walking both texts; conditions: none.
-/
import Derived.Test.YtlfphfklcifgpaaDoorOrdChk
namespace Go.Proofs.YtlfphfklcifgpaaDoor
open Go.RowKit Go.Own

/-- How each deed is. -/
structure D6 where
  a : Int
  b : Int
  c : Int
  d : Int
  e : Int
  f : Int
  x : Bool
deriving DecidableEq
/-- The order that a saga is of. -/
structure OrdS where
  id : Int
  ref : List UInt8
  sku : List UInt8
  qty : Int
  amt : Int
def sagaV (o : OrdS) (s : D6) : Value := .agg #[.int .i64 o.id, .string ⟨o.ref.toArray⟩, .string ⟨o.sku.toArray⟩, .int .i64 o.qty, .int .i64 o.amt,
  .int .i64 s.a, .int .i64 s.b, .int .i64 s.c, .int .i64 s.d, .int .i64 s.e, .int .i64 s.f, .bool s.x]
def ordV (o : OrdS) : Value := .agg #[.int .i64 o.id, .string ⟨o.ref.toArray⟩, .string ⟨o.sku.toArray⟩, .int .i64 o.qty, .int .i64 o.amt]

def waitsOf (s : D6) : Int × Bool := if s.a = 1 then (0, true) else if s.b = 1 then (1, true) else if s.c = 1 then (2, true) else if s.d = 1 then (3, true) else if s.e = 1 then (4, true) else if s.f = 1 then (5, true) else (0, false)
def backOf (s : D6) : Bool := s.x || decide (s.a = 3) || decide (s.b = 3) || decide (s.c = 3)

set_option maxHeartbeats 2000000 in
set_option maxRecDepth 100000 in
theorem waits_any (o : OrdS) (s : D6) (w : World) : Calls Tryd.prog 31 #[sagaV o s] w fun e w' => e = .returned (.tuple #[.int .i64 (waitsOf s).1, .bool (waitsOf s).2]) ∧ Below w.heap.size w w' := by
  obtain ⟨a, b, c, d, e, f, x⟩ := s
  simp only [sagaV]
  have HQ := Lib.hid (show waitsOf ⟨a, b, c, d, e, f, x⟩ = waitsOf ⟨a, b, c, d, e, f, x⟩ from rfl)
  conv at HQ => arg 1; rhs; unfold waitsOf
  simp only at HQ
  have i0 : ∀ w, (Instr.index 61 (.agg #[.int .i64 a, .int .i64 b, .int .i64 c, .int .i64 d, .int .i64 e, .int .i64 f]) (.int .i64 0)).run Tryd.prog w = .ok (.int .i64 a) w := fun _ => by kernel_rfl
  have i1 : ∀ w, (Instr.index 61 (.agg #[.int .i64 a, .int .i64 b, .int .i64 c, .int .i64 d, .int .i64 e, .int .i64 f]) (.int .i64 1)).run Tryd.prog w = .ok (.int .i64 b) w := fun _ => by kernel_rfl
  have i2 : ∀ w, (Instr.index 61 (.agg #[.int .i64 a, .int .i64 b, .int .i64 c, .int .i64 d, .int .i64 e, .int .i64 f]) (.int .i64 2)).run Tryd.prog w = .ok (.int .i64 c) w := fun _ => by kernel_rfl
  have i3 : ∀ w, (Instr.index 61 (.agg #[.int .i64 a, .int .i64 b, .int .i64 c, .int .i64 d, .int .i64 e, .int .i64 f]) (.int .i64 3)).run Tryd.prog w = .ok (.int .i64 d) w := fun _ => by kernel_rfl
  have i4 : ∀ w, (Instr.index 61 (.agg #[.int .i64 a, .int .i64 b, .int .i64 c, .int .i64 d, .int .i64 e, .int .i64 f]) (.int .i64 4)).run Tryd.prog w = .ok (.int .i64 e) w := fun _ => by kernel_rfl
  have i5 : ∀ w, (Instr.index 61 (.agg #[.int .i64 a, .int .i64 b, .int .i64 c, .int .i64 d, .int .i64 e, .int .i64 f]) (.int .i64 5)).run Tryd.prog w = .ok (.int .i64 f) w := fun _ => by kernel_rfl
  go_enter Tryd.func31, Tryd.ntmps31
  go_wp2_with fail
  refine wp_loop_rounds 7 ?_
  rw [rounds_succ]
  go_wp2_with fail
  all_goals (try (rw [rounds_succ]; go_wp2_with fail))
  all_goals (try (rw [rounds_succ]; go_wp2_with fail))
  all_goals (try (rw [rounds_succ]; go_wp2_with fail))
  all_goals (try (rw [rounds_succ]; go_wp2_with fail))
  all_goals (try (rw [rounds_succ]; go_wp2_with fail))
  all_goals (try (rw [rounds_succ]; go_wp2_with fail))
  all_goals go_ret2
  all_goals refine ⟨?_, (by with_reducible (repeat (first | assumption | exact Below.refl _ _ | refine Below.drew ?_ | refine below_drewN ?_ _ | refine Below.alloc ?_ (by first | (simp; done) | omega | (simp; omega)) _ | refine Below.setCell ?_ (by first | (simp; done) | omega | (simp; omega)) _ | refine Below.trans ?_ (Below.mono (by assumption) (by first | (simp; done) | omega | (simp; omega))))))⟩
  all_goals (rw [HQ.out]; clear i0 i1 i2 i3 i4 i5; simp_all)

set_option maxHeartbeats 2000000 in
set_option maxRecDepth 100000 in
theorem refWaits_any (o : OrdS) (s : D6) (w : World) : Calls Tryd.prog 54 #[sagaV o s] w fun e w' => e = .returned (.tuple #[.int .i64 (waitsOf s).1, .bool (waitsOf s).2]) ∧ Below w.heap.size w w' := by
  obtain ⟨a, b, c, d, e, f, x⟩ := s
  simp only [sagaV]
  have HQ := Lib.hid (show waitsOf ⟨a, b, c, d, e, f, x⟩ = waitsOf ⟨a, b, c, d, e, f, x⟩ from rfl)
  conv at HQ => arg 1; rhs; unfold waitsOf
  simp only at HQ
  go_enter Tryd.func54, Tryd.ntmps54
  go_wp2_with fail
  refine wp_loop_rounds 7 ?_
  rw [rounds_succ]
  go_wp2_with fail
  all_goals (try (rw [rounds_succ]; go_wp2_with fail))
  all_goals (try (rw [rounds_succ]; go_wp2_with fail))
  all_goals (try (rw [rounds_succ]; go_wp2_with fail))
  all_goals (try (rw [rounds_succ]; go_wp2_with fail))
  all_goals (try (rw [rounds_succ]; go_wp2_with fail))
  all_goals (try (rw [rounds_succ]; go_wp2_with fail))
  all_goals go_ret2
  all_goals refine ⟨?_, (by with_reducible (repeat (first | assumption | exact Below.refl _ _ | refine Below.drew ?_ | refine below_drewN ?_ _ | refine Below.alloc ?_ (by first | (simp; done) | omega | (simp; omega)) _ | refine Below.setCell ?_ (by first | (simp; done) | omega | (simp; omega)) _ | refine Below.trans ?_ (Below.mono (by assumption) (by first | (simp; done) | omega | (simp; omega))))))⟩
  all_goals (rw [HQ.out]; (first | (simp_all; done) | (simp_all; rw [Bool.eq_iff_iff]; simp; done) | (rw [Bool.eq_iff_iff]; simp_all; done) | (simp_all; omega) | grind))

set_option maxHeartbeats 2000000 in
set_option maxRecDepth 100000 in
theorem back_any (o : OrdS) (s : D6) (w : World) : Calls Tryd.prog 58 #[sagaV o s] w fun e w' => e = .returned (.bool (backOf s)) ∧ Below w.heap.size w w' := by
  obtain ⟨a, b, c, d, e, f, x⟩ := s
  simp only [sagaV]
  have HQ := Lib.hid (show backOf ⟨a, b, c, d, e, f, x⟩ = (x || decide (a = 3) || decide (b = 3) || decide (c = 3)) from rfl)
  cases x
  · by_cases ha : a = 3
    · subst ha
      go_enter Tryd.func58, Tryd.ntmps58
      go_wp2_with fail
      refine wp_loop_rounds 4 ?_
      rw [rounds_succ]
      go_wp2_with fail
      all_goals (try (rw [rounds_succ]; go_wp2_with fail))
      all_goals (try (rw [rounds_succ]; go_wp2_with fail))
      all_goals (try (rw [rounds_succ]; go_wp2_with fail))
      all_goals go_ret
      all_goals refine ⟨ret_bool ?_, (by with_reducible (repeat (first | assumption | exact Below.refl _ _ | refine Below.drew ?_ | refine below_drewN ?_ _ | refine Below.alloc ?_ (by first | (simp; done) | omega | (simp; omega)) _ | refine Below.setCell ?_ (by first | (simp; done) | omega | (simp; omega)) _ | refine Below.trans ?_ (Below.mono (by assumption) (by first | (simp; done) | omega | (simp; omega))))))⟩
      all_goals (rw [HQ.out]; (first | (simp_all; done) | (simp_all; rw [Bool.eq_iff_iff]; simp; done) | (rw [Bool.eq_iff_iff]; simp_all; done) | (simp_all; omega) | grind))
    · have hab : (a == 3) = false := by simpa using ha
      by_cases hb : b = 3
      · subst hb
        clear ha
        go_enter Tryd.func58, Tryd.ntmps58
        go_wp2_with fail
        refine wp_loop_rounds 4 ?_
        rw [rounds_succ]
        go_wp2_with fail
        all_goals (try (rw [rounds_succ]; go_wp2_with fail))
        all_goals (try (rw [rounds_succ]; go_wp2_with fail))
        all_goals (try (rw [rounds_succ]; go_wp2_with fail))
        all_goals go_ret
        all_goals refine ⟨ret_bool ?_, (by with_reducible (repeat (first | assumption | exact Below.refl _ _ | refine Below.drew ?_ | refine below_drewN ?_ _ | refine Below.alloc ?_ (by first | (simp; done) | omega | (simp; omega)) _ | refine Below.setCell ?_ (by first | (simp; done) | omega | (simp; omega)) _ | refine Below.trans ?_ (Below.mono (by assumption) (by first | (simp; done) | omega | (simp; omega))))))⟩
        all_goals (rw [HQ.out]; (first | (simp_all; done) | (simp_all; rw [Bool.eq_iff_iff]; simp; done) | (rw [Bool.eq_iff_iff]; simp_all; done) | (simp_all; omega) | grind))
      · have hbb : (b == 3) = false := by simpa using hb
        clear ha hb
        go_enter Tryd.func58, Tryd.ntmps58
        go_wp2_with fail
        refine wp_loop_rounds 4 ?_
        rw [rounds_succ]
        go_wp2_with fail
        all_goals (try (rw [rounds_succ]; go_wp2_with fail))
        all_goals (try (rw [rounds_succ]; go_wp2_with fail))
        all_goals (try (rw [rounds_succ]; go_wp2_with fail))
        all_goals go_ret
        all_goals refine ⟨ret_bool ?_, (by with_reducible (repeat (first | assumption | exact Below.refl _ _ | refine Below.drew ?_ | refine below_drewN ?_ _ | refine Below.alloc ?_ (by first | (simp; done) | omega | (simp; omega)) _ | refine Below.setCell ?_ (by first | (simp; done) | omega | (simp; omega)) _ | refine Below.trans ?_ (Below.mono (by assumption) (by first | (simp; done) | omega | (simp; omega))))))⟩
        all_goals (rw [HQ.out]; (first | (simp_all; done) | (simp_all; rw [Bool.eq_iff_iff]; simp; done) | (rw [Bool.eq_iff_iff]; simp_all; done) | (simp_all; omega) | grind))
  · go_enter Tryd.func58, Tryd.ntmps58
    go_wp2_with fail
    refine wp_loop_rounds 4 ?_
    rw [rounds_succ]
    go_wp2_with fail
    all_goals (try (rw [rounds_succ]; go_wp2_with fail))
    all_goals (try (rw [rounds_succ]; go_wp2_with fail))
    all_goals (try (rw [rounds_succ]; go_wp2_with fail))
    all_goals go_ret
    all_goals refine ⟨ret_bool ?_, (by with_reducible (repeat (first | assumption | exact Below.refl _ _ | refine Below.drew ?_ | refine below_drewN ?_ _ | refine Below.alloc ?_ (by first | (simp; done) | omega | (simp; omega)) _ | refine Below.setCell ?_ (by first | (simp; done) | omega | (simp; omega)) _ | refine Below.trans ?_ (Below.mono (by assumption) (by first | (simp; done) | omega | (simp; omega))))))⟩
    all_goals (rw [HQ.out]; (first | (simp_all; done) | (simp_all; rw [Bool.eq_iff_iff]; simp; done) | (rw [Bool.eq_iff_iff]; simp_all; done) | (simp_all; omega) | grind))

set_option maxHeartbeats 2000000 in
set_option maxRecDepth 100000 in
theorem refBack_any (o : OrdS) (s : D6) (w : World) : Calls Tryd.prog 80 #[sagaV o s] w fun e w' => e = .returned (.bool (backOf s)) ∧ Below w.heap.size w w' := by
  obtain ⟨a, b, c, d, e, f, x⟩ := s
  simp only [sagaV]
  have HQ := Lib.hid (show backOf ⟨a, b, c, d, e, f, x⟩ = (x || decide (a = 3) || decide (b = 3) || decide (c = 3)) from rfl)
  cases x
  · by_cases ha : a = 3
    · subst ha
      go_enter Tryd.func80, Tryd.ntmps80
      go_wp2_with fail
      all_goals go_ret
      all_goals refine ⟨ret_bool ?_, (by with_reducible (repeat (first | assumption | exact Below.refl _ _ | refine Below.drew ?_ | refine below_drewN ?_ _ | refine Below.alloc ?_ (by first | (simp; done) | omega | (simp; omega)) _ | refine Below.setCell ?_ (by first | (simp; done) | omega | (simp; omega)) _ | refine Below.trans ?_ (Below.mono (by assumption) (by first | (simp; done) | omega | (simp; omega))))))⟩
      all_goals (rw [HQ.out]; (first | (simp_all; done) | (simp_all; rw [Bool.eq_iff_iff]; simp; done) | (rw [Bool.eq_iff_iff]; simp_all; done) | (simp_all; omega) | grind))
    · have hab : (a == 3) = false := by simpa using ha
      by_cases hb : b = 3
      · subst hb
        clear ha
        go_enter Tryd.func80, Tryd.ntmps80
        go_wp2_with fail
        all_goals go_ret
        all_goals refine ⟨ret_bool ?_, (by with_reducible (repeat (first | assumption | exact Below.refl _ _ | refine Below.drew ?_ | refine below_drewN ?_ _ | refine Below.alloc ?_ (by first | (simp; done) | omega | (simp; omega)) _ | refine Below.setCell ?_ (by first | (simp; done) | omega | (simp; omega)) _ | refine Below.trans ?_ (Below.mono (by assumption) (by first | (simp; done) | omega | (simp; omega))))))⟩
        all_goals (rw [HQ.out]; (first | (simp_all; done) | (simp_all; rw [Bool.eq_iff_iff]; simp; done) | (rw [Bool.eq_iff_iff]; simp_all; done) | (simp_all; omega) | grind))
      · have hbb : (b == 3) = false := by simpa using hb
        clear ha hb
        go_enter Tryd.func80, Tryd.ntmps80
        go_wp2_with fail
        all_goals go_ret
        all_goals refine ⟨ret_bool ?_, (by with_reducible (repeat (first | assumption | exact Below.refl _ _ | refine Below.drew ?_ | refine below_drewN ?_ _ | refine Below.alloc ?_ (by first | (simp; done) | omega | (simp; omega)) _ | refine Below.setCell ?_ (by first | (simp; done) | omega | (simp; omega)) _ | refine Below.trans ?_ (Below.mono (by assumption) (by first | (simp; done) | omega | (simp; omega))))))⟩
        all_goals (rw [HQ.out]; (first | (simp_all; done) | (simp_all; rw [Bool.eq_iff_iff]; simp; done) | (rw [Bool.eq_iff_iff]; simp_all; done) | (simp_all; omega) | grind))
  · go_enter Tryd.func80, Tryd.ntmps80
    go_wp2_with fail
    all_goals go_ret
    all_goals refine ⟨ret_bool ?_, (by with_reducible (repeat (first | assumption | exact Below.refl _ _ | refine Below.drew ?_ | refine below_drewN ?_ _ | refine Below.alloc ?_ (by first | (simp; done) | omega | (simp; omega)) _ | refine Below.setCell ?_ (by first | (simp; done) | omega | (simp; omega)) _ | refine Below.trans ?_ (Below.mono (by assumption) (by first | (simp; done) | omega | (simp; omega))))))⟩
    all_goals (rw [HQ.out]; (first | (simp_all; done) | (simp_all; rw [Bool.eq_iff_iff]; simp; done) | (rw [Bool.eq_iff_iff]; simp_all; done) | (simp_all; omega) | grind))
end Go.Proofs.YtlfphfklcifgpaaDoor

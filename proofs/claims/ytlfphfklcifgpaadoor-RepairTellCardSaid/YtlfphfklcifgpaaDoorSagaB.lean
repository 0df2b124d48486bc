/-
  What a saga becomes, by walking both texts; conditions: none.
-/
import Derived.Test.YtlfphfklcifgpaaDoorSagaA
namespace Go.Proofs.YtlfphfklcifgpaaDoor
open Go.RowKit Go.Own

def stateOf (s : D6) : Int := if backOf s = true then (if (waitsOf s).2 = true then 1 else if s.x = true then 4 else 3) else (if (waitsOf s).2 = true then 0 else 2)
def onOf (s : D6) : D6 :=
  if backOf s = true then
    if (s.c = 2 ∨ s.c = 4) ∧ s.f = 0 then { s with f := 1 } else if (s.b = 2 ∨ s.b = 4) ∧ s.e = 0 then { s with e := 1 } else if (s.a = 2 ∨ s.a = 4) ∧ s.d = 0 then { s with d := 1 } else s
  else if s.a = 0 then { s with a := 1 } else if s.b = 0 then { s with b := 1 } else if s.c = 0 then { s with c := 1 } else s

theorem onOf_fwd {s : D6} (h : backOf s = false) : onOf s = if s.a = 0 then { s with a := 1 } else if s.b = 0 then { s with b := 1 } else if s.c = 0 then { s with c := 1 } else s := by
  unfold onOf; rw [h]; rfl
theorem onOf_bwd {s : D6} (h : backOf s = true) : onOf s = if (s.c = 2 ∨ s.c = 4) ∧ s.f = 0 then { s with f := 1 } else if (s.b = 2 ∨ s.b = 4) ∧ s.e = 0 then { s with e := 1 } else if (s.a = 2 ∨ s.a = 4) ∧ s.d = 0 then { s with d := 1 } else s := by
  unfold onOf; rw [h]; rfl

set_option maxHeartbeats 2000000 in
set_option maxRecDepth 100000 in
theorem state_any (o : OrdS) (s : D6) (w : World) : Calls Tryd.prog 32 #[sagaV o s] w fun e w' => e = .returned (.int .i64 (stateOf s)) ∧ Below w.heap.size w w' := by
  have W := fun w => waits_any o s w
  have B := fun w => back_any o s w
  obtain ⟨a, b, c, d, e, f, x⟩ := s
  simp only [sagaV] at W B ⊢
  have HQ := Lib.hid (show stateOf ⟨a, b, c, d, e, f, x⟩ = _ from rfl)
  conv at HQ => arg 1; rhs; unfold stateOf
  simp only at HQ
  generalize waitsOf ⟨a, b, c, d, e, f, x⟩ = p at *
  generalize backOf ⟨a, b, c, d, e, f, x⟩ = k at *
  obtain ⟨n, v⟩ := p
  simp only at W HQ
  cases v <;> cases k <;> cases x
  all_goals
    go_enter Tryd.func32, Tryd.ntmps32
    go_wp2_with (first | (go_at_call 31; go_must ((with_reducible refine (W _).mono ?_); rintro e w1 ⟨rfl, hb⟩; obtain ⟨hc, hf⟩ := bcell hb; have hz := hb.size; (try simp at hz); (try have hzT := Nat.lt_of_succ_le hz); have hzA : w.heap.size < w1.heap.size := (by omega); have hzA2 := Nat.le_of_lt hzA)) | (go_at_call 58; go_must ((with_reducible refine (B _).mono ?_); rintro e w1 ⟨rfl, hb⟩; obtain ⟨hc, hf⟩ := bcell hb; have hz := hb.size; (try simp at hz); (try have hzT := Nat.lt_of_succ_le hz); have hzA : w.heap.size < w1.heap.size := (by omega); have hzA2 := Nat.le_of_lt hzA)))
    go_ret
    exact ⟨by rw [HQ.out]; rfl, (by with_reducible (repeat (first | assumption | exact Below.refl _ _ | refine Below.drew ?_ | refine below_drewN ?_ _ | refine Below.alloc ?_ (by first | (simp; done) | omega | (simp; omega)) _ | refine Below.setCell ?_ (by first | (simp; done) | omega | (simp; omega)) _ | refine Below.trans ?_ (Below.mono (by assumption) (by first | (simp; done) | omega | (simp; omega))))))⟩

set_option maxHeartbeats 2000000 in
set_option maxRecDepth 100000 in
theorem refState_any (o : OrdS) (s : D6) (w : World) : Calls Tryd.prog 55 #[sagaV o s] w fun e w' => e = .returned (.int .i64 (stateOf s)) ∧ Below w.heap.size w w' := by
  have W := fun w => refWaits_any o s w
  have B := fun w => refBack_any o s w
  obtain ⟨a, b, c, d, e, f, x⟩ := s
  simp only [sagaV] at W B ⊢
  have HQ := Lib.hid (show stateOf ⟨a, b, c, d, e, f, x⟩ = _ from rfl)
  conv at HQ => arg 1; rhs; unfold stateOf
  simp only at HQ
  generalize waitsOf ⟨a, b, c, d, e, f, x⟩ = p at *
  generalize backOf ⟨a, b, c, d, e, f, x⟩ = k at *
  obtain ⟨n, v⟩ := p
  simp only at W HQ
  cases v <;> cases k <;> cases x
  all_goals
    go_enter Tryd.func55, Tryd.ntmps55
    go_wp2_with (first | (go_at_call 54; go_must ((with_reducible refine (W _).mono ?_); rintro e w1 ⟨rfl, hb⟩; obtain ⟨hc, hf⟩ := bcell hb; have hz := hb.size; (try simp at hz); (try have hzT := Nat.lt_of_succ_le hz); have hzA : w.heap.size < w1.heap.size := (by omega); have hzA2 := Nat.le_of_lt hzA)) | (go_at_call 80; go_must ((with_reducible refine (B _).mono ?_); rintro e w1 ⟨rfl, hb⟩; obtain ⟨hc, hf⟩ := bcell hb; have hz := hb.size; (try simp at hz); (try have hzT := Nat.lt_of_succ_le hz); have hzA : w.heap.size < w1.heap.size := (by omega); have hzA2 := Nat.le_of_lt hzA)))
    go_ret
    exact ⟨by rw [HQ.out]; rfl, (by with_reducible (repeat (first | assumption | exact Below.refl _ _ | refine Below.drew ?_ | refine below_drewN ?_ _ | refine Below.alloc ?_ (by first | (simp; done) | omega | (simp; omega)) _ | refine Below.setCell ?_ (by first | (simp; done) | omega | (simp; omega)) _ | refine Below.trans ?_ (Below.mono (by assumption) (by first | (simp; done) | omega | (simp; omega))))))⟩

end Go.Proofs.YtlfphfklcifgpaaDoor

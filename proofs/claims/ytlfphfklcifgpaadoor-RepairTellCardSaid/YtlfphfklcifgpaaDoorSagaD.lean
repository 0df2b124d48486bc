/-
  What a saga becomes by a reply, or by being cancelled, how it begins, and its net, by walking both texts; conditions: none.
-/
import Derived.Test.YtlfphfklcifgpaaDoorSagaC
namespace Go.Proofs.YtlfphfklcifgpaaDoor
open Go.RowKit Go.Own

def setD (s : D6) (d n : Int) : D6 := if d = 0 then { s with a := n } else if d = 1 then { s with b := n } else if d = 2 then { s with c := n } else if d = 3 then { s with d := n } else if d = 4 then { s with e := n } else { s with f := n }
def noneV : Value := .agg #[.int .i64 0, .string ⟨#[]⟩, .string ⟨#[]⟩, .int .i64 0, .int .i64 0, .int .i64 0, .int .i64 0, .int .i64 0, .int .i64 0, .int .i64 0, .int .i64 0, .bool false]
/-- What a reply makes of it. -/
def replyOf (s : D6) (deed code : Int) : Option D6 :=
  if (waitsOf s).2 = true ∧ (waitsOf s).1 = deed ∧ (code = 1 ∨ (code = 2 ∧ deed ≤ 2)) then some (onOf (setD s deed (code + 1))) else none
def stopOf (s : D6) : Option D6 := if stateOf s = 0 then some (onOf { setD s (waitsOf s).1 4 with x := true }) else none
def replyV (o : OrdS) (r : Option D6) : Value := match r with
  | some t => .tuple #[sagaV o t, .bool true]
  | none => .tuple #[noneV, .bool false]
def stopV (o : OrdS) (r : Option D6) : Value := match r with
  | some t => .tuple #[sagaV o t, .int .i64 0]
  | none => .tuple #[noneV, .int .i64 92]
def netS (o : OrdS) (s : D6) : Int := if s.b = 2 ∧ s.e ≠ 2 then o.amt else 0
def beginD : D6 := ⟨1, 0, 0, 0, 0, 0, false⟩

theorem waitsOf_cases (s : D6) : (waitsOf s).2 = false ∧ (waitsOf s).1 = 0 ∨ (waitsOf s).2 = true ∧ ((waitsOf s).1 = 0 ∨ (waitsOf s).1 = 1 ∨ (waitsOf s).1 = 2 ∨ (waitsOf s).1 = 3 ∨ (waitsOf s).1 = 4 ∨ (waitsOf s).1 = 5) := by
  unfold waitsOf
  (repeat' split) <;> simp

set_option maxHeartbeats 2000000 in
theorem begin_any (o : OrdS) (w : World) : Calls Tryd.prog 51 #[ordV o] w fun e w' => e = .returned (sagaV o beginD) ∧ Below w.heap.size w w' := by
  rw [show ordV o = .agg #[.int .i64 o.id, .string ⟨o.ref.toArray⟩, .string ⟨o.sku.toArray⟩, .int .i64 o.qty, .int .i64 o.amt] from rfl]
  go_enter Tryd.func51, Tryd.ntmps51
  go_wp2_with fail
  refine bodyPost_ret (v := sagaV o beginD) (by unfold sagaV; simp [results, Tryd.results51, go_sem, beginD]) rfl ⟨rfl, (by with_reducible (repeat (first | assumption | exact Below.refl _ _ | refine Below.drew ?_ | refine below_drewN ?_ _ | refine Below.alloc ?_ (by first | (simp; done) | omega | (simp; omega)) _ | refine Below.setCell ?_ (by first | (simp; done) | omega | (simp; omega)) _ | refine Below.trans ?_ (Below.mono (by assumption) (by first | (simp; done) | omega | (simp; omega))))))⟩
end Go.Proofs.YtlfphfklcifgpaaDoor

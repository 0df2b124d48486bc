/-
  Whether two sagas are the same, as the machine tells it; conditions: none.
-/
import Derived.Test.YtlfphfklcifgpaaSagaV
import Derived.Test.YtlfphfklcifgpaaTypes
namespace Go.Proofs.Ytlfphfklcifgpaa
open Go.RowKit Go.Own

def sagaCs (o : OrdS) (s : D6) : List Value := [.int .i64 o.id, .string ⟨o.ref.toArray⟩, .string ⟨o.sku.toArray⟩, .int .i64 o.qty, .int .i64 o.amt,
  .int .i64 s.a, .int .i64 s.b, .int .i64 s.c, .int .i64 s.d, .int .i64 s.e, .int .i64 s.f, .bool s.x]
def sagaEqB (o : OrdS) (s : D6) (o' : OrdS) (s' : D6) : Bool := decide (o.id = o'.id) && decide (o.ref = o'.ref) && decide (o.sku = o'.sku) && decide (o.qty = o'.qty) && decide (o.amt = o'.amt) && decide (s = s')
theorem sagaEqB_self (o : OrdS) (s : D6) : sagaEqB o s o s = true := by simp [sagaEqB]
theorem sagaEqB_same (o : OrdS) (s s' : D6) : sagaEqB o s o s' = decide (s = s') := by simp [sagaEqB]
theorem sameDeeds_eq (t s : D6) : (sameDeeds t s && decide (t.x = s.x)) = decide (t = s) := by
  obtain ⟨a, b, c, d, e, f, x⟩ := s
  obtain ⟨a', b', c', d', e', f', x'⟩ := t
  rw [Bool.eq_iff_iff]
  simp [sameDeeds, and_assoc]
theorem run_deeds_in (t s : D6) (w : World) : (Op.equalIn 9999 24 (deedsV t) (deedsV s)).run Try.prog w = .ok (sameDeeds t s) w := by
  obtain ⟨a, b, c, d, e, f, x⟩ := s
  obtain ⟨a', b', c', d', e', f', x'⟩ := t
  simp only [deedsV]
  obtain ⟨i0, hi, hz0, hz1, hz2⟩ := info_parts infoInt
  have hr : List.range 6 = [0, 1, 2, 3, 4, 5] := by decide
  have hc : Try.prog.cellsOf 3 = 1 := by kernel_rfl
  rw [show (9999 : Nat) = 9998 + 1 from rfl, run_equalIn_array w 9998 _ _ Try.underlying24 hi, hr, hc]
  simp only [Op.eqItems]
  go_simp
  simp [sameDeeds]
  (repeat' split) <;> simp_all
theorem run_saga_neq (o o' : OrdS) (s s' : D6) (w : World) : (binOp .neq 34 (.agg (sagaCs o s).toArray) (.agg (sagaCs o' s').toArray)).run Try.prog w = .ok (.bool (!sagaEqB o s o' s')) w := by
  have hd := run_deeds_in s s' w
  simp only [deedsV] at hd
  simp only [sagaCs]
  go_simp
  unfold sagaEqB
  rw [← sameDeeds_eq]
  by_cases h1 : o.id = o'.id <;> by_cases h2 : o.ref = o'.ref <;> by_cases h3 : o.sku = o'.sku <;> by_cases h4 : o.qty = o'.qty <;> by_cases h5 : o.amt = o'.amt <;> simp [h1, h2, h3, h4, h5]
  by_cases h6 : sameDeeds s s' = true <;> by_cases h7 : s.x = s'.x <;> simp [h6, h7]
theorem run_saga_eql (o o' : OrdS) (s s' : D6) (w : World) : (binOp .eql 34 (.agg (sagaCs o s).toArray) (.agg (sagaCs o' s').toArray)).run Try.prog w = .ok (.bool (sagaEqB o s o' s')) w := by
  have hd := run_deeds_in s s' w
  simp only [deedsV] at hd
  simp only [sagaCs]
  go_simp
  unfold sagaEqB
  rw [← sameDeeds_eq]
  by_cases h1 : o.id = o'.id <;> by_cases h2 : o.ref = o'.ref <;> by_cases h3 : o.sku = o'.sku <;> by_cases h4 : o.qty = o'.qty <;> by_cases h5 : o.amt = o'.amt <;> simp [h1, h2, h3, h4, h5]
  by_cases h6 : sameDeeds s s' = true <;> by_cases h7 : s.x = s'.x <;> simp [h6, h7]
theorem noGuard : Try.prog.eqGuardType Try.prog.depth 34 = false := by kernel_rfl
/-- The operation. -/
theorem run_op_neq {a : Act} {p : Oper} {x y : Operand} {T : TypeId} (o o' : OrdS) (s s' : D6) (ho : p.op = .binOp .neq 34 x y T) (hx : a.eval x = .agg (sagaCs o s).toArray) (hy : a.eval y = .agg (sagaCs o' s').toArray) (w : World) :
    (execOp a.eval p).run Try.prog w = .ok (.value (.bool (!sagaEqB o s o' s'))) w := by
  unfold execOp
  simp only [ho, hx, hy, Sem.run_bind, eqGuard]
  simp [noGuard, run_saga_neq]
theorem run_op_eql {a : Act} {p : Oper} {x y : Operand} {T : TypeId} (o o' : OrdS) (s s' : D6) (ho : p.op = .binOp .eql 34 x y T) (hx : a.eval x = .agg (sagaCs o s).toArray) (hy : a.eval y = .agg (sagaCs o' s').toArray) (w : World) :
    (execOp a.eval p).run Try.prog w = .ok (.value (.bool (sagaEqB o s o' s'))) w := by
  unfold execOp
  simp only [ho, hx, hy, Sem.run_bind, eqGuard]
  simp [noGuard, run_saga_eql]
end Go.Proofs.Ytlfphfklcifgpaa

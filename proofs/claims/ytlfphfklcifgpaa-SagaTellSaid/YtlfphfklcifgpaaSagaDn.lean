/-
  A saga's net, by walking the program's text; conditions: none.
-/
import Derived.Test.YtlfphfklcifgpaaSagaD
namespace Go.Proofs.Ytlfphfklcifgpaa
open Go.RowKit Go.Own

set_option maxHeartbeats 2000000 in
set_option maxRecDepth 100000 in
theorem sagaNet_any (o : OrdS) (s : D6) (w : World) : Calls Try.prog 15 #[sagaV o s] w fun e w' => e = .returned (.int .i64 (netS o s)) ∧ Below w.heap.size w w' := by
  obtain ⟨a, b, c, d, e, f, x⟩ := s
  rw [(show sagaV o ⟨a, b, c, d, e, f, x⟩ = .agg #[.int .i64 o.id, .string ⟨o.ref.toArray⟩, .string ⟨o.sku.toArray⟩, .int .i64 o.qty, .int .i64 o.amt, .int .i64 a, .int .i64 b, .int .i64 c, .int .i64 d, .int .i64 e, .int .i64 f, .bool x] from rfl)]
  by_cases h1 : b = 2
  · by_cases h2 : e = 2
    · have HQ := Lib.hid (show netS o ⟨a, b, c, d, e, f, x⟩ = 0 by simp [netS, h2])
      have h1b : (b != 2) = false := by simpa using h1
      have h2b : (e == 2) = true := by simpa using h2
      clear h1 h2
      go_enter Try.func15, Try.ntmps15
      go_wp2_with fail
      go_ret
      exact ⟨by rw [HQ.out]; rfl, (by with_reducible (repeat (first | assumption | exact Below.refl _ _ | refine Below.drew ?_ | refine below_drewN ?_ _ | refine Below.alloc ?_ (by first | (simp; done) | omega | (simp; omega)) _ | refine Below.setCell ?_ (by first | (simp; done) | omega | (simp; omega)) _ | refine Below.trans ?_ (Below.mono (by assumption) (by first | (simp; done) | omega | (simp; omega))))))⟩
    · have HQ := Lib.hid (show netS o ⟨a, b, c, d, e, f, x⟩ = o.amt by simp [netS, h1, h2])
      have h1b : (b != 2) = false := by simpa using h1
      have h2b : (e == 2) = false := by simpa using h2
      clear h1 h2
      go_enter Try.func15, Try.ntmps15
      go_wp2_with fail
      go_ret
      exact ⟨by rw [HQ.out]; rfl, (by with_reducible (repeat (first | assumption | exact Below.refl _ _ | refine Below.drew ?_ | refine below_drewN ?_ _ | refine Below.alloc ?_ (by first | (simp; done) | omega | (simp; omega)) _ | refine Below.setCell ?_ (by first | (simp; done) | omega | (simp; omega)) _ | refine Below.trans ?_ (Below.mono (by assumption) (by first | (simp; done) | omega | (simp; omega))))))⟩
  · have HQ := Lib.hid (show netS o ⟨a, b, c, d, e, f, x⟩ = 0 by simp [netS, h1])
    have h1b : (b != 2) = true := by simpa using h1
    clear h1
    go_enter Try.func15, Try.ntmps15
    go_wp2_with fail
    go_ret
    exact ⟨by rw [HQ.out]; rfl, (by with_reducible (repeat (first | assumption | exact Below.refl _ _ | refine Below.drew ?_ | refine below_drewN ?_ _ | refine Below.alloc ?_ (by first | (simp; done) | omega | (simp; omega)) _ | refine Below.setCell ?_ (by first | (simp; done) | omega | (simp; omega)) _ | refine Below.trans ?_ (Below.mono (by assumption) (by first | (simp; done) | omega | (simp; omega))))))⟩
end Go.Proofs.Ytlfphfklcifgpaa

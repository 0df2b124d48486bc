/-
  An argument of sixteen bits, opened; conditions: none.
-/
import Derived.Test.YtlfphfklcifgpaaDoorFrame
namespace Go.Own
open Go.RowKit Go.ChangeShapes Go.WideShapes
theorem u16_of {H : Type} {enc : TypeId × Value → H} {P : Program} {w : World} {base b0 : Nat} {r : Reach} {spare : Nat → Bool} {held : Bool} {t : TypeId} {v : Value} {d : DataW H} {p : List MemPlace}
    (ht : P.underlying t = some (.int .u16)) (hv : Value.okWide P w r b0 t v) (h : DataW.Trod enc P w base spare held t v d p) : ∃ n : Int, v = .int .u16 n ∧ 0 ≤ n ∧ n ≤ 65535 := by
  obtain ⟨n0, rfl⟩ := okWide_int ht hv
  obtain ⟨fuel, hf⟩ := h
  obtain ⟨n, e, _, hwf⟩ := DataW.trod_int ht hf
  have e2 : n0 = n := by simpa [Value.cells] using e
  subst e2
  simp [Lit.wf, IntKind.min, IntKind.max, IntKind.bits, IntKind.signed] at hwf
  exact ⟨n0, rfl, by omega, by omega⟩
end Go.Own

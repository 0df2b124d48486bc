/-
  A byte that came in, opened; conditions: none.
-/
import Derived.Test.YthiokpjakiidjaaFrameG
namespace Go.Proofs.Ythiokpjakiidjaa
open Go.RowKit Go.Own Go.ChangeShapes Go.WideShapes
theorem u8N_of {H : Type} {enc : TypeId × Value → H} {W : World} {b0 base : Nat} {r : Reach} {spare : Nat → Bool} {held : Bool} {v : Value} {d : DataW H} {p : List MemPlace}
    (hv : Value.okWide Try.prog W r b0 5 v) (h : DataW.Trod enc Try.prog W base spare held 5 v d p) : ∃ n : Nat, v = .int .u8 (n : Int) ∧ n ≤ 255 := by
  obtain ⟨n0, rfl⟩ := okWide_int Try.underlying5 hv
  obtain ⟨fuel, hf⟩ := h
  obtain ⟨n, e, _, hwf⟩ := DataW.trod_int Try.underlying5 hf
  have e2 : n0 = n := by simpa [Value.cells] using e
  subst e2
  simp [Lit.wf, IntKind.min, IntKind.max, IntKind.bits, IntKind.signed] at hwf
  exact ⟨n0.toNat, by rw [Int.toNat_of_nonneg hwf.1], by omega⟩
end Go.Proofs.Ythiokpjakiidjaa

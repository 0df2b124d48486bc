/-
  An argument of eight bools, opened; conditions: none.
-/
import Derived.Test.YtlfphfklcifgpaaFrameSaga
namespace Go.Own
open Go.RowKit Go.ChangeShapes Go.WideShapes
theorem okWide_arr' {P : Program} {w : World} {r : Reach} {base : Nat} {t e : TypeId} {n : Nat} {v : Value} (ht : P.underlying t = some (.array n e)) (h : Value.okWide P w r base t v) : ∃ cs, v = .agg cs ∧ cs.size = P.cellsOf t := by
  simp only [Value.okWide, ht] at h
  obtain ⟨cs, h1, h2, _⟩ := h
  exact ⟨cs, h1, h2⟩
theorem eight_of {l : List Value} (h : l.length = 8) : ∃ a b c d e f g i, l = [a, b, c, d, e, f, g, i] := by
  match l, h with
  | [a, b, c, d, e, f, g, i], _ => exact ⟨a, b, c, d, e, f, g, i, rfl⟩
theorem u8f_of {H : Type} {enc : TypeId × Value → H} {P : Program} {w : World} {base b0 : Nat} {r : Reach} {spare : Nat → Bool} {held : Bool} {t : TypeId} {v : Value} {d : DataW H} {p : List MemPlace}
    (ht : P.underlying t = some (.int .u8)) (hv : Value.okWide P w r b0 t v) (h : DataW.Trod enc P w base spare held t v d p) : ∃ n : Int, v = .int .u8 n ∧ 0 ≤ n ∧ n ≤ 255 := by
  obtain ⟨n0, rfl⟩ := okWide_int ht hv
  obtain ⟨fuel, hf⟩ := h
  obtain ⟨n, e, _, hwf⟩ := DataW.trod_int ht hf
  have e2 : n0 = n := by simpa [Value.cells] using e
  subst e2
  simp [Lit.wf, IntKind.min, IntKind.max, IntKind.bits, IntKind.signed] at hwf
  exact ⟨n0, rfl, by omega, by omega⟩
end Go.Own
namespace Go.Proofs.Ytlfphfklcifgpaa
open Go.RowKit Go.Own Go.ChangeShapes Go.WideShapes
theorem sCellsB8 : Try.prog.cellsOf 51 = 8 := by kernel_rfl
theorem bool8_of {H : Type} {enc : TypeId × Value → H} {W : World} {b0 base : Nat} {r : Reach} {spare : Nat → Bool} {held : Bool} {v : Value} {d : DataW H} {p : List MemPlace}
    (hv : Value.okWide Try.prog W r b0 51 v) (h : DataW.Trod enc Try.prog W base spare held 51 v d p) :
    ∃ b0 b1 b2 b3 b4 b5 b6 b7 : Bool, v = .agg #[.bool b0, .bool b1, .bool b2, .bool b3, .bool b4, .bool b5, .bool b6, .bool b7] := by
  obtain ⟨cs, rfl, hsz⟩ := okWide_arr' Try.underlying51 hv
  obtain ⟨l⟩ := cs
  rw [sCellsB8] at hsz
  obtain ⟨fuel, hf⟩ := h
  simp only [Value.cells] at hf
  obtain ⟨xs, m, _, _, hl, hx, hi⟩ := DataW.trod_array Try.underlying51 hf
  rw [sCellsB8] at hl
  rw [sCellsBool] at hi
  have hb : ∀ (i : Nat) (v : Value), l[i]? = some v → ∃ n : Bool, v = .bool n := by
    intro i v hv
    have hlt : i < 8 := by
      have := (List.getElem?_eq_some_iff.1 hv).1
      omega
    have h1 := hi i hlt
    rw [Nat.mul_one, List.drop_eq_getElem_cons (by omega), List.take_succ_cons, List.take_zero, List.getElem?_eq_getElem (by omega)] at h1
    obtain ⟨n, e, _⟩ := DataW.trod_bool Try.underlying4 h1
    rw [List.getElem?_eq_getElem (by omega)] at hv
    simp only [Option.some.injEq] at hv
    refine ⟨n, ?_⟩
    rw [← hv]
    simpa using e
  obtain ⟨a, b, c, d, e, f, g, i, rfl⟩ := eight_of hl
  obtain ⟨x0, rfl⟩ := hb 0 _ rfl
  obtain ⟨x1, rfl⟩ := hb 1 _ rfl
  obtain ⟨x2, rfl⟩ := hb 2 _ rfl
  obtain ⟨x3, rfl⟩ := hb 3 _ rfl
  obtain ⟨x4, rfl⟩ := hb 4 _ rfl
  obtain ⟨x5, rfl⟩ := hb 5 _ rfl
  obtain ⟨x6, rfl⟩ := hb 6 _ rfl
  obtain ⟨x7, rfl⟩ := hb 7 _ rfl
  exact ⟨x0, x1, x2, x3, x4, x5, x6, x7, rfl⟩
end Go.Proofs.Ytlfphfklcifgpaa

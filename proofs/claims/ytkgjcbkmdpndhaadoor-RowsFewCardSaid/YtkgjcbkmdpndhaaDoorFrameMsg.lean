/-
  A message's argument, opened; conditions: none.
-/
import Derived.Test.YtkgjcbkmdpndhaaDoorFrame
import Derived.Test.YtkgjcbkmdpndhaaDoorMsg
namespace Go.Own
theorem seven {l : List Value} (h : l.length = 7) : ∃ a b c d e f g, l = [a, b, c, d, e, f, g] := by
  match l, h with
  | [a, b, c, d, e, f, g], _ => exact ⟨a, b, c, d, e, f, g, rfl⟩
end Go.Own
namespace Go.Proofs.YtkgjcbkmdpndhaaDoor
open Go.RowKit Go.Own Go.ChangeShapes Go.WideShapes

theorem cellsKey : Tryd.prog.cellsOf 27 = 2 := by kernel_rfl
theorem cellsMsg : Tryd.prog.cellsOf 29 = 7 := by kernel_rfl
theorem msg_of {H : Type} {enc : TypeId × Value → H} {W : World} {b0 base : Nat} {r : Reach} {spare : Nat → Bool} {held : Bool} {v : Value} {d : DataW H} {p : List MemPlace}
    (hv : Value.okWide Tryd.prog W r b0 29 v) (h : DataW.Trod enc Tryd.prog W base spare held 29 v d p) : ∃ m : MsgS, v = m.v ∧ m.sku.length ≤ maxLen := by
  obtain ⟨cs, rfl, hsz⟩ := okWide_struct Tryd.underlying29 hv
  obtain ⟨l⟩ := cs
  rw [cellsMsg] at hsz
  obtain ⟨a, b, c, d, e, f, g, rfl⟩ := seven (by simpa using hsz)
  obtain ⟨fuel, hf⟩ := h
  obtain ⟨_, _, h0⟩ := fld Tryd.underlying29 hf 0 _ rfl
  obtain ⟨_, _, hk⟩ := fld Tryd.underlying29 hf 1 _ rfl
  obtain ⟨_, _, h2⟩ := fld Tryd.underlying29 hf 2 _ rfl
  obtain ⟨_, _, h3⟩ := fld Tryd.underlying29 hf 3 _ rfl
  obtain ⟨_, _, h4⟩ := fld Tryd.underlying29 hf 4 _ rfl
  obtain ⟨_, _, h5⟩ := fld Tryd.underlying29 hf 5 _ rfl
  obtain ⟨_, _, k0⟩ := fld Tryd.underlying27 hk 0 _ rfl
  obtain ⟨_, _, k1⟩ := fld Tryd.underlying27 hk 1 _ rfl
  obtain ⟨n0, e0, _, _⟩ := DataW.trod_int Tryd.underlying3 h0
  obtain ⟨n1, e1, _, _⟩ := DataW.trod_int Tryd.underlying3 k0
  obtain ⟨n2, e2, _, _⟩ := DataW.trod_int Tryd.underlying3 k1
  obtain ⟨s3, e3, _, l3⟩ := DataW.trod_string Tryd.underlying9 h2
  obtain ⟨n4, e4, _, _⟩ := DataW.trod_int Tryd.underlying3 h3
  obtain ⟨n5, e5, _, _⟩ := DataW.trod_int Tryd.underlying2 h4
  obtain ⟨n6, e6, _, _⟩ := DataW.trod_int Tryd.underlying3 h5
  simp [cellsInt, cellsI64, cellsStr, cellsKey, Value.cells] at e0 e1 e2 e3 e4 e5 e6
  subst e0 e1 e2 e3 e4 e5 e6
  exact ⟨⟨n0, n1, n2, s3.data.toList, n4, n5, n6⟩, by simp [MsgS.v], by simpa using l3⟩
end Go.Proofs.YtkgjcbkmdpndhaaDoor

/-
  An entry's argument, opened; conditions: none.
-/
import Derived.Test.YtlfphfklcifgpaaDoorFrameRows
import Derived.Test.YtlfphfklcifgpaaDoorEnt
namespace Go.Own
theorem twelve {l : List Value} (h : l.length = 12) : ∃ a b c d e f g h i j k m, l = [a, b, c, d, e, f, g, h, i, j, k, m] := by
  match l, h with
  | [a, b, c, d, e, f, g, h, i, j, k, m], _ => exact ⟨a, b, c, d, e, f, g, h, i, j, k, m, rfl⟩
end Go.Own
namespace Go.Proofs.YtlfphfklcifgpaaDoor
open Go.RowKit Go.Own Go.ChangeShapes Go.WideShapes

theorem cellsEnt : Tryd.prog.cellsOf 78 = 12 := by kernel_rfl
set_option maxRecDepth 100000 in
theorem entry_of {H : Type} {enc : TypeId × Value → H} {W : World} {b0 base : Nat} {r : Reach} {spare : Nat → Bool} {held : Bool} {v : Value} {d : DataW H} {p : List MemPlace}
    (hv : Value.okWide Tryd.prog W r b0 78 v) (h : DataW.Trod enc Tryd.prog W base spare held 78 v d p) :
    ∃ (x : EntS) (u : Value), v = .agg #[.int .i64 (x).k, .int .i64 (x).id, .string ⟨(x).ref.toArray⟩, .string ⟨(x).sku.toArray⟩, .int .i64 (x).qty, .int .i64 (x).amt, .int .i64 (x).o, .int .i64 (x).d, .int .i64 (x).c, .int .i64 (x).p, .int .i64 (x).q, u] ∧ IsRows W u x.rs ∧ x.ref.length ≤ maxLen ∧ x.sku.length ≤ maxLen := by
  obtain ⟨cs, rfl, hsz⟩ := okWide_struct Tryd.underlying78 hv
  obtain ⟨l⟩ := cs
  rw [cellsEnt] at hsz
  obtain ⟨a, b, c, d, e, f, g, h', i, j, k, m, rfl⟩ := twelve (by simpa using hsz)
  obtain ⟨fuel, hf⟩ := h
  obtain ⟨_, _, h0⟩ := fld Tryd.underlying78 hf 0 _ rfl
  obtain ⟨_, _, ho⟩ := fld Tryd.underlying78 hf 1 _ rfl
  obtain ⟨_, _, hk⟩ := fld Tryd.underlying78 hf 2 _ rfl
  obtain ⟨_, _, h8⟩ := fld Tryd.underlying78 hf 3 _ rfl
  obtain ⟨_, _, hs⟩ := fld Tryd.underlying78 hf 4 _ rfl
  obtain ⟨_, _, h1⟩ := fld Tryd.underlying60 ho 0 _ rfl
  obtain ⟨_, _, h2⟩ := fld Tryd.underlying60 ho 1 _ rfl
  obtain ⟨_, _, h3⟩ := fld Tryd.underlying60 ho 2 _ rfl
  obtain ⟨_, _, h4⟩ := fld Tryd.underlying60 ho 3 _ rfl
  obtain ⟨_, _, h5⟩ := fld Tryd.underlying60 ho 4 _ rfl
  obtain ⟨_, _, h6⟩ := fld Tryd.underlying43 hk 0 _ rfl
  obtain ⟨_, _, h7⟩ := fld Tryd.underlying43 hk 1 _ rfl
  obtain ⟨_, _, h9⟩ := fld Tryd.underlying28 hs 0 _ rfl
  obtain ⟨_, _, h10⟩ := fld Tryd.underlying28 hs 1 _ rfl
  obtain ⟨_, _, h11⟩ := fld Tryd.underlying28 hs 2 _ rfl
  obtain ⟨n0, e0, _, _⟩ := DataW.trod_int Tryd.underlying3 h0
  obtain ⟨n1, e1, _, _⟩ := DataW.trod_int Tryd.underlying3 h1
  obtain ⟨s2, e2, _, l2⟩ := DataW.trod_string Tryd.underlying9 h2
  obtain ⟨s3, e3, _, l3⟩ := DataW.trod_string Tryd.underlying9 h3
  obtain ⟨n4, e4, _, _⟩ := DataW.trod_int Tryd.underlying3 h4
  obtain ⟨n5, e5, _, _⟩ := DataW.trod_int Tryd.underlying2 h5
  obtain ⟨n6, e6, _, _⟩ := DataW.trod_int Tryd.underlying3 h6
  obtain ⟨n7, e7, _, _⟩ := DataW.trod_int Tryd.underlying3 h7
  obtain ⟨n8, e8, _, _⟩ := DataW.trod_int Tryd.underlying3 h8
  obtain ⟨n9, e9, _, _⟩ := DataW.trod_int Tryd.underlying3 h9
  obtain ⟨n10, e10, _, _⟩ := DataW.trod_int Tryd.underlying3 h10
  obtain ⟨u, rs, e11, hu⟩ := rows_of h11
  simp [cellsInt, cellsI64, cellsStr, cellsKey, cellsOrder, cellsStmt, cellsRows, Value.cells] at e0 e1 e2 e3 e4 e5 e6 e7 e8 e9 e10 e11
  subst e0 e1 e2 e3 e4 e5 e6 e7 e8 e9 e10 e11
  exact ⟨⟨n0, n1, s2.data.toList, s3.data.toList, n4, n5, n6, n7, n8, n9, n10, rs⟩, _, by simp, hu, by simpa using l2, by simpa using l3⟩
end Go.Proofs.YtlfphfklcifgpaaDoor

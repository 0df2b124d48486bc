/-
  Slices of sagas that came in, opened; conditions: none.
-/
import Derived.Test.YtlfphfklcifgpaaDoorFrameRep
namespace Go.Proofs.YtlfphfklcifgpaaDoor
open Go.RowKit Go.Own Go.ChangeShapes Go.WideShapes

instance : Inhabited (OrdS × D6) := ⟨(⟨0, [], [], 0, 0⟩, ⟨0, 0, 0, 0, 0, 0, false⟩)⟩
theorem sagaCells_wf {H : Type} {enc : TypeId × Value → H} {W : World} {base : Nat} {spare : Nat → Bool} {held : Bool} {fuel : Nat} {cs : List Value} {x : DataW H × List MemPlace}
    (h : DataW.trod enc Tryd.prog W base spare held fuel 64 cs = some x) (hl : cs.length = 12) : ∃ r : OrdS × D6, cs = sagaL r ∧ (Lit.int .i64 r.1.id).wf = true := by
  obtain ⟨o, s, e, _, _⟩ := sagaCells_of h hl
  have e2 : cs = sagaL (o, s) := by
    have : (Value.agg cs.toArray).cells = (sagaV o s).cells := by rw [e]
    simpa [Value.cells, sagaV, sagaL] using this
  subst e2
  refine ⟨(o, s), rfl, ?_⟩
  obtain ⟨_, _, h0⟩ := fld Tryd.underlying64 h 0 _ rfl
  obtain ⟨_, _, h1⟩ := fld Tryd.underlying60 h0 0 _ rfl
  obtain ⟨n, e, _, w0⟩ := DataW.trod_int Tryd.underlying3 h1
  simp [sCellsInt, sCellsOrder, sagaL] at e
  rw [e]
  exact w0
theorem sagas_of {H : Type} {enc : TypeId × Value → H} {W : World} {base : Nat} {spare : Nat → Bool} {held : Bool} {v : Value} {d : DataW H} {p : List MemPlace}
    (h : DataW.Trod enc Tryd.prog W base spare held 56 v d p) (hv : v.cells.toList = [v]) : ∃ L : List (OrdS × D6), IsL W 12 v (L.map sagaL) ∧ ∀ x ∈ L, (Lit.int .i64 x.1.id).wf = true := by
  obtain ⟨fuel, hf⟩ := h
  obtain ⟨u, L, e, hI, hw⟩ := slice_of sagaL (fun x => (Lit.int .i64 x.1.id).wf = true) Tryd.underlying56 sCellsSaga (by decide) (fun _ => rfl) (fun _ _ _ h hl => sagaCells_wf h hl) hf
  rw [hv] at e
  obtain rfl : v = u := by simpa using e
  exact ⟨L, hI, hw⟩
end Go.Proofs.YtlfphfklcifgpaaDoor

/-
  Slices of keys and of sagas that came in, opened; conditions: none.
-/
import Derived.Test.YtlfphfklcifgpaaDoorFrameL
import Derived.Test.YtlfphfklcifgpaaDoorFrameSl
import Derived.Test.YtlfphfklcifgpaaDoorFrameSaga
import Derived.Test.YtlfphfklcifgpaaDoorPlan
namespace Go.Proofs.YtlfphfklcifgpaaDoor
open Go.RowKit Go.Own Go.ChangeShapes Go.WideShapes

theorem two_of {l : List Value} (h : l.length = 2) : ∃ a b, l = [a, b] := by
  match l, h with
  | [a, b], _ => exact ⟨a, b, rfl⟩
theorem cellsKey : Tryd.prog.cellsOf 43 = 2 := by kernel_rfl
theorem keyCells_of {H : Type} {enc : TypeId × Value → H} {W : World} {base : Nat} {spare : Nat → Bool} {held : Bool} {fuel : Nat} {cs : List Value} {x : DataW H × List MemPlace}
    (h : DataW.trod enc Tryd.prog W base spare held fuel 43 cs = some x) (hl : cs.length = 2) : ∃ k : Int × Int, cs = keyL k ∧ (Lit.int .i64 k.1).wf = true := by
  obtain ⟨a, b, rfl⟩ := two_of hl
  obtain ⟨_, _, h0⟩ := fld Tryd.underlying43 h 0 _ rfl
  obtain ⟨_, _, h1⟩ := fld Tryd.underlying43 h 1 _ rfl
  obtain ⟨n0, e0, _, w0⟩ := DataW.trod_int Tryd.underlying3 h0
  obtain ⟨n1, e1, _, _⟩ := DataW.trod_int Tryd.underlying3 h1
  simp [sCellsInt] at e0 e1
  subst e0 e1
  exact ⟨(n0, n1), rfl, w0⟩
theorem keys_of {H : Type} {enc : TypeId × Value → H} {W : World} {base : Nat} {spare : Nat → Bool} {held : Bool} {v : Value} {d : DataW H} {p : List MemPlace}
    (h : DataW.Trod enc Tryd.prog W base spare held 57 v d p) (hv : v.cells.toList = [v]) : ∃ K : List (Int × Int), IsL W 2 v (K.map keyL) ∧ ∀ k ∈ K, (Lit.int .i64 k.1).wf = true := by
  obtain ⟨fuel, hf⟩ := h
  obtain ⟨u, K, e, hI, hw⟩ := slice_of keyL (fun k => (Lit.int .i64 k.1).wf = true) Tryd.underlying57 cellsKey (by decide) (fun _ => rfl) (fun _ _ _ h hl => keyCells_of h hl) hf
  rw [hv] at e
  obtain rfl : v = u := by simpa using e
  exact ⟨K, hI, hw⟩
theorem wf_of {H : Type} {enc : TypeId × Value → H} {W : World} {base : Nat} {spare : Nat → Bool} {held : Bool} {o : OrdS} {s : D6} {d : DataW H} {p : List MemPlace}
    (h : DataW.Trod enc Tryd.prog W base spare held 64 (sagaV o s) d p) : (Lit.int .i64 o.id).wf = true := by
  obtain ⟨fuel, hf⟩ := h
  obtain ⟨_, _, h0⟩ := fld Tryd.underlying64 hf 0 _ rfl
  obtain ⟨_, _, h1⟩ := fld Tryd.underlying60 h0 0 _ rfl
  obtain ⟨n, e, _, w0⟩ := DataW.trod_int Tryd.underlying3 h1
  simp [sCellsInt, sCellsOrder, sagaV, Value.cells] at e
  rw [e]
  exact w0
end Go.Proofs.YtlfphfklcifgpaaDoor

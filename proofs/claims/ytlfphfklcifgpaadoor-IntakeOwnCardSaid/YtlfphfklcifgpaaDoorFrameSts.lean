/-
  Statements that came in, and a deed's key, opened; conditions: none.
-/
import Derived.Test.YtlfphfklcifgpaaDoorFrameSlF
import Derived.Test.YtlfphfklcifgpaaDoorFrameRows
import Derived.Test.YtlfphfklcifgpaaDoorIntAlike
namespace Go.Proofs.YtlfphfklcifgpaaDoor
open Go.RowKit Go.Own Go.ChangeShapes Go.WideShapes

instance : Inhabited StI := ⟨⟨0, 0, .slice none 0 0, []⟩⟩
set_option maxRecDepth 100000 in
theorem stCells_of {H : Type} {enc : TypeId × Value → H} {W : World} {base : Nat} {spare : Nat → Bool} {held : Bool} {fuel : Nat} {cs : List Value} {x : DataW H × List MemPlace}
    (hf : DataW.trod enc Tryd.prog W base spare held fuel 28 cs = some x) (hl : cs.length = 3) : ∃ s : StI, cs = stC s ∧ IsRows W s.v s.rs := by
  obtain ⟨a, b, c, rfl⟩ := three_of hl
  obtain ⟨_, _, h0⟩ := fld Tryd.underlying28 hf 0 _ rfl
  obtain ⟨_, _, h1⟩ := fld Tryd.underlying28 hf 1 _ rfl
  obtain ⟨_, _, h2⟩ := fld Tryd.underlying28 hf 2 _ rfl
  obtain ⟨n0, e0, _, _⟩ := DataW.trod_int Tryd.underlying3 h0
  obtain ⟨n1, e1, _, _⟩ := DataW.trod_int Tryd.underlying3 h1
  obtain ⟨u, rs, e2, hu⟩ := rows_of h2
  simp [cellsInt, cellsRows] at e0 e1 e2
  subst e0 e1 e2
  exact ⟨⟨n0, n1, _, rs⟩, rfl, hu⟩
set_option maxRecDepth 100000 in
theorem sts_ofW {H : Type} {enc : TypeId × Value → H} {W : World} {base : Nat} {spare : Nat → Bool} {held : Bool} {v : Value} {d : DataW H} {p : List MemPlace}
    (h : DataW.Trod enc Tryd.prog W base spare held 22 v d p) (hv : v.cells.toList = [v]) : ∃ ss : List StI, IsSts W v ss ∧ (ss = [] ∨ ∃ es sp, d = .slice es sp ∧ es.length = ss.length) := by
  obtain ⟨fuel, hf⟩ := h
  obtain ⟨u, ss, e, hI, hw, hx⟩ := slice_ofW stC (fun s => IsRows W s.v s.rs) Tryd.underlying22 cellsStmt (by decide) (fun _ => rfl) (fun _ _ _ h hl => stCells_of h hl) hf
  rw [hv] at e
  obtain rfl : v = u := by simpa using e
  exact ⟨ss, ⟨hI, hw⟩, hx⟩
set_option maxRecDepth 100000 in
theorem sts_of {H : Type} {enc : TypeId × Value → H} {W : World} {base : Nat} {spare : Nat → Bool} {held : Bool} {v : Value} {d : DataW H} {p : List MemPlace}
    (h : DataW.Trod enc Tryd.prog W base spare held 22 v d p) (hv : v.cells.toList = [v]) : ∃ ss : List StI, IsSts W v ss := by
  obtain ⟨fuel, hf⟩ := h
  obtain ⟨u, ss, e, hI, hw⟩ := slice_of stC (fun s => IsRows W s.v s.rs) Tryd.underlying22 cellsStmt (by decide) (fun _ => rfl) (fun _ _ _ h hl => stCells_of h hl) hf
  rw [hv] at e
  obtain rfl : v = u := by simpa using e
  exact ⟨ss, ⟨hI, hw⟩⟩
set_option maxRecDepth 100000 in
theorem key_of {H : Type} {enc : TypeId × Value → H} {W : World} {b0 base : Nat} {r : Reach} {spare : Nat → Bool} {held : Bool} {v : Value} {d : DataW H} {p : List MemPlace}
    (hv : Value.okWide Tryd.prog W r b0 43 v) (h : DataW.Trod enc Tryd.prog W base spare held 43 v d p) :
    ∃ (o d : Int), v = .agg #[.int .i64 o, .int .i64 d] ∧ (Lit.int .i64 o).wf = true ∧ (Lit.int .i64 d).wf = true := by
  obtain ⟨cs, rfl, hsz⟩ := okWide_struct Tryd.underlying43 hv
  obtain ⟨l⟩ := cs
  rw [cellsKey] at hsz
  obtain ⟨a, b, rfl⟩ : ∃ a b, l = [a, b] := by match l, (show l.length = 2 by simpa using hsz) with | [a, b], _ => exact ⟨a, b, rfl⟩
  obtain ⟨fuel, hf⟩ := h
  obtain ⟨_, _, h0⟩ := fld Tryd.underlying43 hf 0 _ rfl
  obtain ⟨_, _, h1⟩ := fld Tryd.underlying43 hf 1 _ rfl
  obtain ⟨n0, e0, _, w0⟩ := DataW.trod_int Tryd.underlying3 h0
  obtain ⟨n1, e1, _, w1⟩ := DataW.trod_int Tryd.underlying3 h1
  simp [cellsInt, Value.cells] at e0 e1
  subst e0 e1
  exact ⟨n0, n1, rfl, w0, w1⟩
end Go.Proofs.YtlfphfklcifgpaaDoor

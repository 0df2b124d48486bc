/-
  Postings that came in, and int64 numbers, opened; conditions: none.
-/
import Derived.Test.YthiokpjakiidjaaFramePl
import Derived.Test.YthiokpjakiidjaaFrameSl
import Derived.Test.YthiokpjakiidjaaBkB
namespace Go.Proofs.Ythiokpjakiidjaa
open Go.RowKit Go.Own Go.ChangeShapes Go.WideShapes

instance : Inhabited Pst := ⟨⟨⟨#[]⟩, 0, 0, 0, 0⟩⟩
theorem bCellsInt : Try.prog.cellsOf 3 = 1 := by kernel_rfl
theorem bCellsI64 : Try.prog.cellsOf 2 = 1 := by kernel_rfl
theorem bCellsStr : Try.prog.cellsOf 9 = 1 := by kernel_rfl
theorem bCellsPst : Try.prog.cellsOf 30 = 5 := by kernel_rfl
theorem inI_wf {n : Int} (h : (Lit.int .i64 n).wf = true) : inI n = true := by
  rw [inI_iff]
  simp [Lit.wf, IntKind.min, IntKind.max, IntKind.bits, IntKind.signed] at h
  omega
theorem intI_of {H : Type} {enc : TypeId × Value → H} {W : World} {b0 base : Nat} {r : Reach} {spare : Nat → Bool} {held : Bool} {v : Value} {d : DataW H} {p : List MemPlace}
    (hv : Value.okWide Try.prog W r b0 3 v) (h : DataW.Trod enc Try.prog W base spare held 3 v d p) : ∃ n : Int, v = .int .i64 n ∧ inI n = true := by
  obtain ⟨n0, rfl⟩ := okWide_int Try.underlying3 hv
  obtain ⟨fuel, hf⟩ := h
  obtain ⟨n, e, _, hwf⟩ := DataW.trod_int Try.underlying3 hf
  have e2 : n0 = n := by simpa [Value.cells] using e
  subst e2
  exact ⟨n0, rfl, inI_wf hwf⟩
theorem pstCells_of {H : Type} {enc : TypeId × Value → H} {W : World} {base : Nat} {spare : Nat → Bool} {held : Bool} {fuel : Nat} {cs : List Value} {x : DataW H × List MemPlace}
    (h : DataW.trod enc Try.prog W base spare held fuel 30 cs = some x) (hl : cs.length = 5) : ∃ p : Pst, cs = pstC p ∧ WfP p := by
  obtain ⟨a, b, c, d, e, rfl⟩ := five hl
  obtain ⟨_, _, h0⟩ := fld Try.underlying30 h 0 _ rfl
  obtain ⟨_, _, h1⟩ := fld Try.underlying30 h 1 _ rfl
  obtain ⟨_, _, h2⟩ := fld Try.underlying30 h 2 _ rfl
  obtain ⟨_, _, h3⟩ := fld Try.underlying30 h 3 _ rfl
  obtain ⟨_, _, h4⟩ := fld Try.underlying30 h 4 _ rfl
  obtain ⟨s0, e0, _, l0⟩ := DataW.trod_string Try.underlying9 h0
  obtain ⟨n1, e1, _, w1⟩ := DataW.trod_int Try.underlying3 h1
  obtain ⟨n2, e2, _, w2⟩ := DataW.trod_int Try.underlying3 h2
  obtain ⟨n3, e3, _, w3⟩ := DataW.trod_int Try.underlying3 h3
  obtain ⟨n4, e4, _, w4⟩ := DataW.trod_int Try.underlying2 h4
  simp [bCellsInt, bCellsI64, bCellsStr] at e0 e1 e2 e3 e4
  subst e0 e1 e2 e3 e4
  exact ⟨⟨s0, n1, n2, n3, n4⟩, rfl, inI_wf w1, inI_wf w2, inI_wf w3, inI_wf w4, l0⟩
set_option maxRecDepth 100000 in
theorem pst_of {H : Type} {enc : TypeId × Value → H} {W : World} {b0 base : Nat} {r : Reach} {spare : Nat → Bool} {held : Bool} {v : Value} {d : DataW H} {p : List MemPlace}
    (hv : Value.okWide Try.prog W r b0 30 v) (h : DataW.Trod enc Try.prog W base spare held 30 v d p) : ∃ q : Pst, v = pstV q ∧ WfP q := by
  obtain ⟨cs, rfl, hsz⟩ := okWide_struct Try.underlying30 hv
  obtain ⟨l⟩ := cs
  rw [bCellsPst] at hsz
  obtain ⟨fuel, hf⟩ := h
  obtain ⟨q, e, hq⟩ := pstCells_of hf (by simpa [Value.cells] using hsz)
  simp only [Value.cells] at e
  subst e
  exact ⟨q, rfl, hq⟩
theorem psts_of {H : Type} {enc : TypeId × Value → H} {W : World} {base : Nat} {spare : Nat → Bool} {held : Bool} {v : Value} {d : DataW H} {p : List MemPlace}
    (h : DataW.Trod enc Try.prog W base spare held 22 v d p) (hv : v.cells.toList = [v]) : ∃ l : List Pst, IsL W 5 v (l.map pstC) ∧ ∀ q ∈ l, WfP q := by
  obtain ⟨fuel, hf⟩ := h
  obtain ⟨u, K, e, hI, hw⟩ := slice_of pstC WfP Try.underlying22 bCellsPst (by decide) (fun _ => rfl) (fun _ _ _ h hl => pstCells_of h hl) hf
  rw [hv] at e
  obtain rfl : v = u := by simpa using e
  exact ⟨K, hI, hw⟩
end Go.Proofs.Ythiokpjakiidjaa

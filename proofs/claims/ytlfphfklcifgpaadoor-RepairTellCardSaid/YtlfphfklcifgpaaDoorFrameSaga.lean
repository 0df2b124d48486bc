/-
  A saga's and an order's arguments, opened; conditions: none.
-/
import Derived.Test.YtlfphfklcifgpaaDoorFrameG
import Derived.Test.YtlfphfklcifgpaaDoorSagaA
namespace Go.Own
theorem twelve_of {l : List Value} (h : l.length = 12) : ∃ a b c d e f g i j k m n, l = [a, b, c, d, e, f, g, i, j, k, m, n] := by
  match l, h with
  | [a, b, c, d, e, f, g, i, j, k, m, n], _ => exact ⟨a, b, c, d, e, f, g, i, j, k, m, n, rfl⟩
theorem six_of {l : List Value} (h : l.length = 6) : ∃ a b c d e f, l = [a, b, c, d, e, f] := by
  match l, h with
  | [a, b, c, d, e, f], _ => exact ⟨a, b, c, d, e, f, rfl⟩
end Go.Own
namespace Go.Proofs.YtlfphfklcifgpaaDoor
open Go.RowKit Go.Own Go.ChangeShapes Go.WideShapes

theorem sCellsInt : Tryd.prog.cellsOf 3 = 1 := by kernel_rfl
theorem sCellsI64 : Tryd.prog.cellsOf 2 = 1 := by kernel_rfl
theorem sCellsStr : Tryd.prog.cellsOf 9 = 1 := by kernel_rfl
theorem sCellsBool : Tryd.prog.cellsOf 4 = 1 := by kernel_rfl
theorem sCellsOrder : Tryd.prog.cellsOf 60 = 5 := by kernel_rfl
theorem sCellsDeeds : Tryd.prog.cellsOf 61 = 6 := by kernel_rfl
theorem sCellsSaga : Tryd.prog.cellsOf 64 = 12 := by kernel_rfl
theorem ints_of {H : Type} {enc : TypeId × Value → H} {W : World} {base : Nat} {spare : Nat → Bool} {held : Bool} {fuel : Nat} {cs : List Value} {x : DataW H × List MemPlace}
    (h : DataW.trod enc Tryd.prog W base spare held fuel 61 cs = some x) : ∀ (i : Nat) (v : Value), cs[i]? = some v → ∃ n : Int, v = .int .i64 n := by
  obtain ⟨xs, m, _, _, hl, hx, hi⟩ := DataW.trod_array Tryd.underlying61 h
  rw [sCellsDeeds] at hl
  rw [sCellsInt] at hi
  intro i v hv
  have hlt : i < 6 := by
    have := (List.getElem?_eq_some_iff.1 hv).1
    omega
  have h1 := hi i hlt
  rw [Nat.mul_one, List.drop_eq_getElem_cons (by omega), List.take_succ_cons, List.take_zero, List.getElem?_eq_getElem (by omega)] at h1
  obtain ⟨n, e, _, _⟩ := DataW.trod_int Tryd.underlying3 h1
  rw [List.getElem?_eq_getElem (by omega)] at hv
  simp only [Option.some.injEq] at hv
  refine ⟨n, ?_⟩
  rw [← hv]
  simpa using e
theorem ordS_of {H : Type} {enc : TypeId × Value → H} {W : World} {base : Nat} {spare : Nat → Bool} {held : Bool} {fuel : Nat} {cs : List Value} {x : DataW H × List MemPlace}
    (h : DataW.trod enc Tryd.prog W base spare held fuel 60 cs = some x) (hl : cs.length = 5) :
    ∃ o : OrdS, cs = [.int .i64 o.id, .string ⟨o.ref.toArray⟩, .string ⟨o.sku.toArray⟩, .int .i64 o.qty, .int .i64 o.amt] ∧ o.ref.length ≤ maxLen ∧ o.sku.length ≤ maxLen := by
  obtain ⟨a, b, c, d, e, rfl⟩ := five hl
  obtain ⟨_, _, h0⟩ := fld Tryd.underlying60 h 0 _ rfl
  obtain ⟨_, _, h1⟩ := fld Tryd.underlying60 h 1 _ rfl
  obtain ⟨_, _, h2⟩ := fld Tryd.underlying60 h 2 _ rfl
  obtain ⟨_, _, h3⟩ := fld Tryd.underlying60 h 3 _ rfl
  obtain ⟨_, _, h4⟩ := fld Tryd.underlying60 h 4 _ rfl
  obtain ⟨n0, e0, _, _⟩ := DataW.trod_int Tryd.underlying3 h0
  obtain ⟨s1, e1, _, l1⟩ := DataW.trod_string Tryd.underlying9 h1
  obtain ⟨s2, e2, _, l2⟩ := DataW.trod_string Tryd.underlying9 h2
  obtain ⟨n3, e3, _, _⟩ := DataW.trod_int Tryd.underlying3 h3
  obtain ⟨n4, e4, _, _⟩ := DataW.trod_int Tryd.underlying2 h4
  simp [sCellsInt, sCellsI64, sCellsStr] at e0 e1 e2 e3 e4
  subst e0 e1 e2 e3 e4
  exact ⟨⟨n0, s1.data.toList, s2.data.toList, n3, n4⟩, by simp, by simpa using l1, by simpa using l2⟩
/-- A saga's cells. -/
theorem sagaCells_of {H : Type} {enc : TypeId × Value → H} {W : World} {base : Nat} {spare : Nat → Bool} {held : Bool} {fuel : Nat} {l : List Value} {x : DataW H × List MemPlace}
    (hf : DataW.trod enc Tryd.prog W base spare held fuel 64 l = some x) (hsz : l.length = 12) :
    ∃ (o : OrdS) (s : D6), Value.agg l.toArray = sagaV o s ∧ o.ref.length ≤ maxLen ∧ o.sku.length ≤ maxLen := by
  obtain ⟨a, b, c, d, e, f, g, i, j, k, m, n, rfl⟩ := twelve_of hsz
  obtain ⟨_, _, h0⟩ := fld Tryd.underlying64 hf 0 _ rfl
  obtain ⟨_, _, h1⟩ := fld Tryd.underlying64 hf 1 _ rfl
  obtain ⟨_, _, h2⟩ := fld Tryd.underlying64 hf 2 _ rfl
  obtain ⟨o, e0, l1, l2⟩ := ordS_of h0 (by simp [sCellsOrder])
  have e1 := ints_of h1
  obtain ⟨q, e2, _, _⟩ := DataW.trod_bool Tryd.underlying4 h2
  simp [sCellsOrder, sCellsDeeds, sCellsBool] at e0 e1 e2
  obtain ⟨rfl, rfl, rfl, rfl, rfl⟩ := e0
  obtain ⟨x0, rfl⟩ := e1 0 _ rfl
  obtain ⟨x1, rfl⟩ := e1 1 _ rfl
  obtain ⟨x2, rfl⟩ := e1 2 _ rfl
  obtain ⟨x3, rfl⟩ := e1 3 _ rfl
  obtain ⟨x4, rfl⟩ := e1 4 _ rfl
  obtain ⟨x5, rfl⟩ := e1 5 _ rfl
  subst e2
  exact ⟨o, ⟨x0, x1, x2, x3, x4, x5, q⟩, rfl, l1, l2⟩
set_option maxRecDepth 100000 in
theorem saga_of {H : Type} {enc : TypeId × Value → H} {W : World} {b0 base : Nat} {r : Reach} {spare : Nat → Bool} {held : Bool} {v : Value} {d : DataW H} {p : List MemPlace}
    (hv : Value.okWide Tryd.prog W r b0 64 v) (h : DataW.Trod enc Tryd.prog W base spare held 64 v d p) :
    ∃ (o : OrdS) (s : D6), v = sagaV o s ∧ o.ref.length ≤ maxLen ∧ o.sku.length ≤ maxLen := by
  obtain ⟨cs, rfl, hsz⟩ := okWide_struct Tryd.underlying64 hv
  obtain ⟨l⟩ := cs
  rw [sCellsSaga] at hsz
  obtain ⟨fuel, hf⟩ := h
  simp only [Value.cells] at hf
  exact sagaCells_of hf (by simpa using hsz)
set_option maxRecDepth 100000 in
theorem ord_of {H : Type} {enc : TypeId × Value → H} {W : World} {b0 base : Nat} {r : Reach} {spare : Nat → Bool} {held : Bool} {v : Value} {d : DataW H} {p : List MemPlace}
    (hv : Value.okWide Tryd.prog W r b0 60 v) (h : DataW.Trod enc Tryd.prog W base spare held 60 v d p) :
    ∃ o : OrdS, v = ordV o ∧ o.ref.length ≤ maxLen ∧ o.sku.length ≤ maxLen := by
  obtain ⟨cs, rfl, hsz⟩ := okWide_struct Tryd.underlying60 hv
  obtain ⟨l⟩ := cs
  rw [sCellsOrder] at hsz
  obtain ⟨fuel, hf⟩ := h
  obtain ⟨o, e, l1, l2⟩ := ordS_of hf (by simpa [Value.cells] using hsz)
  simp only [Value.cells] at e
  subst e
  exact ⟨o, rfl, l1, l2⟩
end Go.Proofs.YtlfphfklcifgpaaDoor

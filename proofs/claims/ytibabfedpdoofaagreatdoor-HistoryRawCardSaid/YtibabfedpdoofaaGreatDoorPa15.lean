/-
  Entries that came in, opened; conditions: none.
  A saga's and an order's arguments, opened; conditions: none.
  Lines of a history that came in, opened; conditions: none.
-/
import Derived.Deep.Slices
import Derived.Test.YtibabfedpdoofaaGreatDoorPa1
import Derived.Test.YtibabfedpdoofaaGreatDoorPa4
import Derived.Test.YtibabfedpdoofaaGreatDoorPa10
import Derived.Test.YtibabfedpdoofaaGreatDoorPa11
import Derived.Test.YtibabfedpdoofaaGreatDoorPa14
namespace Go.Own
open Go.RowKit Go.ChangeShapes Go.WideShapes Go.Deep

theorem five_of {l : List Value} (h : l.length = 5) : ∃ a b c d e, l = [a, b, c, d, e] := by
  match l, h with
  | [a, b, c, d, e], _ => exact ⟨a, b, c, d, e, rfl⟩
theorem addr_add1 (c : Addr) (k : Nat) : c.add (k + 1) = ⟨c.block, c.off + (k + 1), none⟩ := by simp [Addr.add]
/-- Structs of k cells that came in; f: a struct's cells; p: what is known of each. -/
theorem slice_of {H R : Type} [Inhabited R] {enc : TypeId × Value → H} {P : Program} {W : World} {base : Nat} {spare : Nat → Bool} {held : Bool} {fuel : Nat} {t e : TypeId} {cs : List Value} {x : DataW H × List MemPlace} {k : Nat} (f : R → List Value) (p : R → Prop)
    (ht : P.underlying t = some (.slice e)) (hk : P.cellsOf e = k) (hpos : 0 < k) (hf : ∀ r, (f r).length = k)
    (hel : ∀ (fuel' : Nat) (cs' : List Value) (x' : DataW H × List MemPlace), DataW.trod enc P W base spare held fuel' e cs' = some x' → cs'.length = k → ∃ r, cs' = f r ∧ p r)
    (h : DataW.trod enc P W base spare held fuel t cs = some x) : ∃ (v : Value) (L : List R), cs = [v] ∧ IsL W k v (L.map f) ∧ ∀ r ∈ L, p r := by
  rcases open_slice ht h with ⟨rfl, rfl⟩ | ⟨a, len, cap, m, n, D, Pl, rfl, hb, hl, hm, hmm, hx, hi⟩
  · exact ⟨_, [], rfl, .none _ _ (fun _ => rfl), by simp⟩
  · rw [hk] at hi
    have hlm : len ≤ m := by rw [hmm]; split <;> omega
    have hr : ∀ i, i < len → ∃ r : R, (∀ j (u : Value), (f r)[j]? = some u → W.cell? ((a.add (i * k)).add j) = some u) ∧ p r := fun i him => by
      obtain ⟨cs', hc, ht⟩ := hi i (by omega)
      obtain ⟨_, hlen, hg⟩ := World.cells?_some hc
      obtain ⟨r, rfl, hp⟩ := hel _ _ _ ht hlen
      refine ⟨r, fun j u hu => ?_, hp⟩
      have hj : j < k := by
        have := (List.getElem?_eq_some_iff.1 hu).1
        rwa [hf] at this
      rw [hg j hj]
      simpa using hu
    obtain ⟨G, hG⟩ := choose_lt (α := R) (p := fun i r => (∀ j (u : Value), (f r)[j]? = some u → W.cell? ((a.add (i * k)).add j) = some u) ∧ p r) hr
    refine ⟨_, (List.range len).map G, rfl, ?_, fun r hr => ?_⟩
    · by_cases h0 : len = 0
      · subst h0; exact .none _ _ (fun e => by cases e)
      have hL : (((List.range len).map G).map f).length = len := by simp
      have key : IsL W k (.slice (some a) (((List.range len).map G).map f).length cap) (((List.range len).map G).map f) := by
        refine .some a cap _ (by omega) hm (by omega) ⟨?_, fun i h j u hu => ?_⟩
        · have h1 : 0 < (f (G 0)).length := by rw [hf]; exact hpos
          have := World.block_lt_of_cell? W _ ((hG 0 (by omega)).1 0 _ (List.getElem?_eq_getElem h1))
          rwa [lBlock, lBlock] at this
        · rw [hL] at h
          simp only [List.getElem_map, List.getElem_range] at hu
          exact (hG i h).1 j u hu
      rwa [hL] at key
    · obtain ⟨i, hi', rfl⟩ := List.mem_map.1 hr
      exact (hG i (List.mem_range.1 hi')).2
theorem twelve {l : List Value} (h : l.length = 12) : ∃ a b c d e f g h i j k m, l = [a, b, c, d, e, f, g, h, i, j, k, m] := by
  match l, h with
  | [a, b, c, d, e, f, g, h, i, j, k, m], _ => exact ⟨a, b, c, d, e, f, g, h, i, j, k, m, rfl⟩
end Go.Own
namespace Go.Proofs.YtibabfedpdoofaaGreatDoor
open Go.RowKit Go.Own Go.ChangeShapes Go.WideShapes Go.Deep

theorem cellsI64 : Tryz.prog.cellsOf 2 = 1 := by kernel_rfl
theorem cellsKey : Tryz.prog.cellsOf 29 = 2 := by kernel_rfl
theorem cellsStr : Tryz.prog.cellsOf 9 = 1 := by kernel_rfl
theorem cellsOrder : Tryz.prog.cellsOf 27 = 5 := by kernel_rfl
theorem cellsStmt : Tryz.prog.cellsOf 32 = 3 := by kernel_rfl
theorem cellsEnt : Tryz.prog.cellsOf 34 = 12 := by kernel_rfl
theorem cellsRow : Tryz.prog.cellsOf 160 = 5 := by kernel_rfl
theorem cellsRows : Tryz.prog.cellsOf 30 = 1 := by kernel_rfl
set_option maxRecDepth 100000 in
theorem row_of {H : Type} {enc : TypeId × Value → H} {W : World} {base : Nat} {spare : Nat → Bool} {held : Bool} {fuel : Nat} {cs : List Value} {x : DataW H × List MemPlace}
    (h : DataW.trod enc Tryz.prog W base spare held fuel 160 cs = some x) (hl : cs.length = 5) : ∃ r : RowS, cs = r.cells.toList := by
  obtain ⟨a, b, c, d, e, rfl⟩ := five_of hl
  obtain ⟨_, _, hk⟩ := fld Tryz.underlying160 h 0 _ rfl
  obtain ⟨_, _, h1⟩ := fld Tryz.underlying160 h 1 _ rfl
  obtain ⟨_, _, h2⟩ := fld Tryz.underlying160 h 2 _ rfl
  obtain ⟨_, _, h3⟩ := fld Tryz.underlying160 h 3 _ rfl
  obtain ⟨_, _, k0⟩ := fld Tryz.underlying29 hk 0 _ rfl
  obtain ⟨_, _, k1⟩ := fld Tryz.underlying29 hk 1 _ rfl
  obtain ⟨n1, e1, _, _⟩ := DataW.trod_int Tryz.underlying3 k0
  obtain ⟨n2, e2, _, _⟩ := DataW.trod_int Tryz.underlying3 k1
  obtain ⟨n3, e3, _, _⟩ := DataW.trod_int Tryz.underlying3 h1
  obtain ⟨n4, e4, _, _⟩ := DataW.trod_int Tryz.underlying2 h2
  obtain ⟨n5, e5, _, _⟩ := DataW.trod_int Tryz.underlying3 h3
  simp [cellsInt, cellsI64, cellsKey] at e1 e2 e3 e4 e5
  subst e1 e2 e3 e4 e5
  exact ⟨⟨n1, n2, n3, n4, n5⟩, rfl⟩
instance : Inhabited RowS := ⟨⟨0, 0, 0, 0, 0⟩⟩
set_option maxRecDepth 100000 in
/-- Rows that came in. -/
theorem rows_of {H : Type} {enc : TypeId × Value → H} {W : World} {base : Nat} {spare : Nat → Bool} {held : Bool} {fuel : Nat} {cs : List Value} {x : DataW H × List MemPlace}
    (h : DataW.trod enc Tryz.prog W base spare held fuel 30 cs = some x) : ∃ v rs, cs = [v] ∧ IsRows W v rs := by
  rcases open_slice Tryz.underlying30 h with ⟨rfl, rfl⟩ | ⟨a, len, cap, m, n, D, Pl, rfl, hb, hl, hm, hmm, hx, hi⟩
  · exact ⟨_, [], rfl, .none _ _ (fun _ => rfl)⟩
  · rw [cellsRow] at hi
    have hlm : len ≤ m := by rw [hmm]; split <;> omega
    have hr : ∀ i, i < len → ∃ r : RowS, ∀ k (u : Value), r.cells[k]? = some u → W.cell? ((a.add (i * 5)).add k) = some u := fun i him => by
      obtain ⟨cs', hc, ht⟩ := hi i (by omega)
      obtain ⟨_, hlen, hg⟩ := World.cells?_some hc
      obtain ⟨r, rfl⟩ := row_of ht hlen
      refine ⟨r, fun k u hu => ?_⟩
      have hk : k < 5 := by
        have := (Array.getElem?_eq_some_iff.1 hu).1
        simpa [RowS.cells] using this
      rw [hg k hk]
      simpa using hu
    obtain ⟨R, hR⟩ := choose_lt (α := RowS) (p := fun i r => ∀ k (u : Value), r.cells[k]? = some u → W.cell? ((a.add (i * 5)).add k) = some u) hr
    refine ⟨_, (List.range len).map R, rfl, ?_⟩
    by_cases h0 : len = 0
    · subst h0; exact .none _ _ (fun e => by cases e)
    have hL : ((List.range len).map R).length = len := by simp
    have key : IsRows W (.slice (some a) ((List.range len).map R).length cap) ((List.range len).map R) := by
      refine .some a cap _ (by omega) hm (by omega) ⟨?_, fun i h => ?_, fun i h => ?_, fun i h => ?_, fun i h => ?_, fun i h => ?_⟩
      · have := World.block_lt_of_cell? W _ (hR 0 (by omega) 0 _ rfl)
        rwa [add_block, add_block] at this
      all_goals
        rw [hL] at h
        simp only [List.getElem_map, List.getElem_range]
      · exact hR i h 0 _ rfl
      · rw [← addr_add1]; exact hR i h 1 _ rfl
      · rw [← addr_add1]; exact hR i h 2 _ rfl
      · rw [← addr_add1]; exact hR i h 3 _ rfl
      · rw [← addr_add1]; exact hR i h 4 _ rfl
    rwa [hL] at key
theorem wf_inI {n : Int} (h : (Lit.int .i64 n).wf = true) : inI n = true := by
  simp [Lit.wf, IntKind.min, IntKind.max, IntKind.bits, IntKind.signed] at h
  exact inI_iff.2 (by omega)
instance : Inhabited EntI := ⟨⟨⟨0, 0, [], [], 0, 0, 0, 0, 0, 0, 0, []⟩, .slice none 0 0⟩⟩
set_option maxRecDepth 100000 in
set_option maxHeartbeats 4000000 in
theorem entCells_of {H : Type} {enc : TypeId × Value → H} {W : World} {base : Nat} {spare : Nat → Bool} {held : Bool} {fuel : Nat} {cs : List Value} {x : DataW H × List MemPlace}
    (hf : DataW.trod enc Tryz.prog W base spare held fuel 34 cs = some x) (hl : cs.length = 12) : ∃ e : EntI, cs = entC e ∧ IsRows W e.v e.x.rs ∧ e.x.ref.length ≤ maxLen ∧ e.x.sku.length ≤ maxLen ∧ inI e.x.o = true := by
  obtain ⟨a, b, c, d, e, f, g, h', i, j, k, m, rfl⟩ := twelve hl
  obtain ⟨_, _, h0⟩ := fld Tryz.underlying34 hf 0 _ rfl
  obtain ⟨_, _, ho⟩ := fld Tryz.underlying34 hf 1 _ rfl
  obtain ⟨_, _, hk⟩ := fld Tryz.underlying34 hf 2 _ rfl
  obtain ⟨_, _, h8⟩ := fld Tryz.underlying34 hf 3 _ rfl
  obtain ⟨_, _, hs⟩ := fld Tryz.underlying34 hf 4 _ rfl
  obtain ⟨_, _, h1⟩ := fld Tryz.underlying27 ho 0 _ rfl
  obtain ⟨_, _, h2⟩ := fld Tryz.underlying27 ho 1 _ rfl
  obtain ⟨_, _, h3⟩ := fld Tryz.underlying27 ho 2 _ rfl
  obtain ⟨_, _, h4⟩ := fld Tryz.underlying27 ho 3 _ rfl
  obtain ⟨_, _, h5⟩ := fld Tryz.underlying27 ho 4 _ rfl
  obtain ⟨_, _, h6⟩ := fld Tryz.underlying29 hk 0 _ rfl
  obtain ⟨_, _, h7⟩ := fld Tryz.underlying29 hk 1 _ rfl
  obtain ⟨_, _, h9⟩ := fld Tryz.underlying32 hs 0 _ rfl
  obtain ⟨_, _, h10⟩ := fld Tryz.underlying32 hs 1 _ rfl
  obtain ⟨_, _, h11⟩ := fld Tryz.underlying32 hs 2 _ rfl
  obtain ⟨n0, e0, _, _⟩ := DataW.trod_int Tryz.underlying3 h0
  obtain ⟨n1, e1, _, _⟩ := DataW.trod_int Tryz.underlying3 h1
  obtain ⟨s2, e2, _, l2⟩ := DataW.trod_string Tryz.underlying9 h2
  obtain ⟨s3, e3, _, l3⟩ := DataW.trod_string Tryz.underlying9 h3
  obtain ⟨n4, e4, _, _⟩ := DataW.trod_int Tryz.underlying3 h4
  obtain ⟨n5, e5, _, _⟩ := DataW.trod_int Tryz.underlying2 h5
  obtain ⟨n6, e6, _, w6⟩ := DataW.trod_int Tryz.underlying3 h6
  obtain ⟨n7, e7, _, _⟩ := DataW.trod_int Tryz.underlying3 h7
  obtain ⟨n8, e8, _, _⟩ := DataW.trod_int Tryz.underlying3 h8
  obtain ⟨n9, e9, _, _⟩ := DataW.trod_int Tryz.underlying3 h9
  obtain ⟨n10, e10, _, _⟩ := DataW.trod_int Tryz.underlying3 h10
  obtain ⟨u, rs, e11, hu⟩ := rows_of h11
  simp [cellsInt, cellsI64, cellsStr, cellsKey, cellsOrder, cellsStmt, cellsRows] at e0 e1 e2 e3 e4 e5 e6 e7 e8 e9 e10 e11
  subst e0 e1 e2 e3 e4 e5 e6 e7 e8 e9 e10 e11
  exact ⟨⟨⟨n0, n1, s2.data.toList, s3.data.toList, n4, n5, n6, n7, n8, n9, n10, rs⟩, _⟩, by simp [entC], hu, by simpa using l2, by simpa using l3, wf_inI w6⟩
set_option maxRecDepth 100000 in
theorem ents_of {H : Type} {enc : TypeId × Value → H} {W : World} {base : Nat} {spare : Nat → Bool} {held : Bool} {v : Value} {d : DataW H} {p : List MemPlace}
    (h : DataW.Trod enc Tryz.prog W base spare held 22 v d p) (hv : v.cells.toList = [v]) : ∃ es : List EntI, IsEnts W v es := by
  obtain ⟨fuel, hf⟩ := h
  obtain ⟨u, es, e, hI, hw⟩ := slice_of entC (fun e => IsRows W e.v e.x.rs ∧ e.x.ref.length ≤ maxLen ∧ e.x.sku.length ≤ maxLen ∧ inI e.x.o = true) Tryz.underlying22 cellsEnt (by decide) (fun _ => rfl) (fun _ _ _ h hl => entCells_of h hl) hf
  rw [hv] at e
  obtain rfl : v = u := by simpa using e
  exact ⟨es, ⟨hI, hw⟩⟩
end Go.Proofs.YtibabfedpdoofaaGreatDoor
namespace Go.Own
theorem twelve_of {l : List Value} (h : l.length = 12) : ∃ a b c d e f g i j k m n, l = [a, b, c, d, e, f, g, i, j, k, m, n] := by
  match l, h with
  | [a, b, c, d, e, f, g, i, j, k, m, n], _ => exact ⟨a, b, c, d, e, f, g, i, j, k, m, n, rfl⟩
end Go.Own
namespace Go.Proofs.YtibabfedpdoofaaGreatDoor
open Go.RowKit Go.Own Go.ChangeShapes Go.WideShapes

theorem sCellsInt : Tryz.prog.cellsOf 3 = 1 := by kernel_rfl
theorem sCellsI64 : Tryz.prog.cellsOf 2 = 1 := by kernel_rfl
theorem sCellsStr : Tryz.prog.cellsOf 9 = 1 := by kernel_rfl
theorem sCellsBool : Tryz.prog.cellsOf 4 = 1 := by kernel_rfl
theorem sCellsOrder : Tryz.prog.cellsOf 27 = 5 := by kernel_rfl
theorem sCellsDeeds : Tryz.prog.cellsOf 70 = 6 := by kernel_rfl
theorem sCellsSaga : Tryz.prog.cellsOf 72 = 12 := by kernel_rfl
theorem ints_of {H : Type} {enc : TypeId × Value → H} {W : World} {base : Nat} {spare : Nat → Bool} {held : Bool} {fuel : Nat} {cs : List Value} {x : DataW H × List MemPlace}
    (h : DataW.trod enc Tryz.prog W base spare held fuel 70 cs = some x) : ∀ (i : Nat) (v : Value), cs[i]? = some v → ∃ n : Int, v = .int .i64 n := by
  obtain ⟨xs, m, _, _, hl, hx, hi⟩ := DataW.trod_array Tryz.underlying70 h
  rw [sCellsDeeds] at hl
  rw [sCellsInt] at hi
  intro i v hv
  have hlt : i < 6 := by
    have := (List.getElem?_eq_some_iff.1 hv).1
    omega
  have h1 := hi i hlt
  rw [Nat.mul_one, List.drop_eq_getElem_cons (by omega), List.take_succ_cons, List.take_zero, List.getElem?_eq_getElem (by omega)] at h1
  obtain ⟨n, e, _, _⟩ := DataW.trod_int Tryz.underlying3 h1
  rw [List.getElem?_eq_getElem (by omega)] at hv
  simp only [Option.some.injEq] at hv
  refine ⟨n, ?_⟩
  rw [← hv]
  simpa using e
theorem ordS_of {H : Type} {enc : TypeId × Value → H} {W : World} {base : Nat} {spare : Nat → Bool} {held : Bool} {fuel : Nat} {cs : List Value} {x : DataW H × List MemPlace}
    (h : DataW.trod enc Tryz.prog W base spare held fuel 27 cs = some x) (hl : cs.length = 5) :
    ∃ o : OrdS, cs = [.int .i64 o.id, .string ⟨o.ref.toArray⟩, .string ⟨o.sku.toArray⟩, .int .i64 o.qty, .int .i64 o.amt] ∧ o.ref.length ≤ maxLen ∧ o.sku.length ≤ maxLen := by
  obtain ⟨a, b, c, d, e, rfl⟩ := Go.Own.five hl
  obtain ⟨_, _, h0⟩ := fld Tryz.underlying27 h 0 _ rfl
  obtain ⟨_, _, h1⟩ := fld Tryz.underlying27 h 1 _ rfl
  obtain ⟨_, _, h2⟩ := fld Tryz.underlying27 h 2 _ rfl
  obtain ⟨_, _, h3⟩ := fld Tryz.underlying27 h 3 _ rfl
  obtain ⟨_, _, h4⟩ := fld Tryz.underlying27 h 4 _ rfl
  obtain ⟨n0, e0, _, _⟩ := DataW.trod_int Tryz.underlying3 h0
  obtain ⟨s1, e1, _, l1⟩ := DataW.trod_string Tryz.underlying9 h1
  obtain ⟨s2, e2, _, l2⟩ := DataW.trod_string Tryz.underlying9 h2
  obtain ⟨n3, e3, _, _⟩ := DataW.trod_int Tryz.underlying3 h3
  obtain ⟨n4, e4, _, _⟩ := DataW.trod_int Tryz.underlying2 h4
  simp [sCellsInt, sCellsI64, sCellsStr] at e0 e1 e2 e3 e4
  subst e0 e1 e2 e3 e4
  exact ⟨⟨n0, s1.data.toList, s2.data.toList, n3, n4⟩, by simp, by simpa using l1, by simpa using l2⟩
/-- A saga's cells. -/
theorem sagaCells_of {H : Type} {enc : TypeId × Value → H} {W : World} {base : Nat} {spare : Nat → Bool} {held : Bool} {fuel : Nat} {l : List Value} {x : DataW H × List MemPlace}
    (hf : DataW.trod enc Tryz.prog W base spare held fuel 72 l = some x) (hsz : l.length = 12) :
    ∃ (o : OrdS) (s : D6), Value.agg l.toArray = sagaV o s ∧ o.ref.length ≤ maxLen ∧ o.sku.length ≤ maxLen := by
  obtain ⟨a, b, c, d, e, f, g, i, j, k, m, n, rfl⟩ := twelve_of hsz
  obtain ⟨_, _, h0⟩ := fld Tryz.underlying72 hf 0 _ rfl
  obtain ⟨_, _, h1⟩ := fld Tryz.underlying72 hf 1 _ rfl
  obtain ⟨_, _, h2⟩ := fld Tryz.underlying72 hf 2 _ rfl
  obtain ⟨o, e0, l1, l2⟩ := ordS_of h0 (by simp [sCellsOrder])
  have e1 := ints_of h1
  obtain ⟨q, e2, _, _⟩ := DataW.trod_bool Tryz.underlying4 h2
  simp [sCellsOrder, sCellsDeeds, sCellsBool] at e0 e1 e2
  obtain ⟨rfl, rfl, rfl, rfl, rfl⟩ := e0
  obtain ⟨x0, rfl⟩ := e1 0 _ rfl
  obtain ⟨x1, rfl⟩ := e1 1 _ rfl
  obtain ⟨x2, rfl⟩ := e1 2 _ rfl
  obtain ⟨x3, rfl⟩ := e1 3 _ rfl
  obtain ⟨x4, rfl⟩ := e1 4 _ rfl
  obtain ⟨x5, rfl⟩ := e1 5 _ rfl
  subst e2
  exact ⟨o, ⟨x0, x1, x2, x3, x4, x5, q⟩, rfl, l1, l2⟩
end Go.Proofs.YtibabfedpdoofaaGreatDoor
namespace Go.Own
theorem twentynine {l : List Value} (h : l.length = 29) : ∃ c0 c1 c2 c3 c4 c5 c6 c7 c8 c9 c10 c11 c12 c13 c14 c15 c16 c17 c18 c19 c20 c21 c22 c23 c24 c25 c26 c27 c28, l = [c0, c1, c2, c3, c4, c5, c6, c7, c8, c9, c10, c11, c12, c13, c14, c15, c16, c17, c18, c19, c20, c21, c22, c23, c24, c25, c26, c27, c28] := by
  match l, h with
  | [c0, c1, c2, c3, c4, c5, c6, c7, c8, c9, c10, c11, c12, c13, c14, c15, c16, c17, c18, c19, c20, c21, c22, c23, c24, c25, c26, c27, c28], _ => exact ⟨c0, c1, c2, c3, c4, c5, c6, c7, c8, c9, c10, c11, c12, c13, c14, c15, c16, c17, c18, c19, c20, c21, c22, c23, c24, c25, c26, c27, c28, rfl⟩
end Go.Own
namespace Go.Proofs.YtibabfedpdoofaaGreatDoor
open Go.RowKit Go.Own Go.ChangeShapes Go.WideShapes Go.Deep

theorem hCellsStep : Tryz.prog.cellsOf 116 = 10 := by kernel_rfl
theorem hCellsAns : Tryz.prog.cellsOf 121 = 19 := by kernel_rfl
theorem hCellsRej : Tryz.prog.cellsOf 118 = 3 := by kernel_rfl
theorem hCellsErr : Tryz.prog.cellsOf 41 = 1 := by kernel_rfl
theorem hCellsKeep : Tryz.prog.cellsOf 49 = 1 := by kernel_rfl
theorem hCellsDiffs : Tryz.prog.cellsOf 119 = 1 := by kernel_rfl
theorem hCellsLine : Tryz.prog.cellsOf 123 = 29 := by kernel_rfl
instance : Inhabited HisI := ⟨⟨⟨0, 0, 0, zeroO, 0, 0, 0, zeroO, zeroD⟩, [], none, 0, 0, 0, 0, 0, none, 0, 0⟩⟩
theorem slice_val {H : Type} {enc : TypeId × Value → H} {P : Program} {W : World} {base : Nat} {spare : Nat → Bool} {held : Bool} {fuel : Nat} {t e : TypeId} {cs : List Value} {x : DataW H × List MemPlace}
    (ht : P.underlying t = some (.slice e)) (h : DataW.trod enc P W base spare held fuel t cs = some x) : ∃ p n c, cs = [.slice p n c] := by
  rcases open_slice ht h with ⟨rfl, rfl⟩ | ⟨a, len, cap, m, n, D, Pl, rfl, -⟩
  · exact ⟨none, 0, 0, rfl⟩
  · exact ⟨_, _, _, rfl⟩
theorem sagaV_toList {l : List Value} {o : OrdS} {s : D6} (h : Value.agg l.toArray = sagaV o s) : l = sagaL (o, s) := by
  have h1 : sagaV o s = .agg (sagaL (o, s)).toArray := rfl
  rw [h1] at h
  injection h with h
  simpa using congrArg Array.toList h
set_option maxRecDepth 100000 in
set_option maxHeartbeats 8000000 in
theorem lineCells_of {H : Type} {enc : TypeId × Value → H} {W : World} {base : Nat} {spare : Nat → Bool} {held : Bool} {fuel : Nat} {cs : List Value} {x : DataW H × List MemPlace}
    (hf : DataW.trod enc Tryz.prog W base spare held fuel 123 cs = some x) (hl : cs.length = 29) : ∃ y : HisI, cs = hisC y ∧ LineOk y := by
  obtain ⟨c0, c1, c2, c3, c4, c5, c6, c7, c8, c9, c10, c11, c12, c13, c14, c15, c16, c17, c18, c19, c20, c21, c22, c23, c24, c25, c26, c27, c28, rfl⟩ := twentynine hl
  obtain ⟨_, _, hs⟩ := fld Tryz.underlying123 hf 0 _ rfl
  obtain ⟨_, _, ha⟩ := fld Tryz.underlying123 hf 1 _ rfl
  obtain ⟨_, _, s0⟩ := fld Tryz.underlying116 hs 0 _ rfl
  obtain ⟨_, _, s1⟩ := fld Tryz.underlying116 hs 1 _ rfl
  obtain ⟨_, _, s2⟩ := fld Tryz.underlying116 hs 2 _ rfl
  obtain ⟨_, _, s3⟩ := fld Tryz.underlying116 hs 3 _ rfl
  obtain ⟨_, _, s4⟩ := fld Tryz.underlying116 hs 4 _ rfl
  obtain ⟨_, _, s5⟩ := fld Tryz.underlying116 hs 5 _ rfl
  obtain ⟨_, _, a0⟩ := fld Tryz.underlying121 ha 0 _ rfl
  obtain ⟨_, _, a1⟩ := fld Tryz.underlying121 ha 1 _ rfl
  obtain ⟨_, _, a2⟩ := fld Tryz.underlying121 ha 2 _ rfl
  obtain ⟨_, _, a3⟩ := fld Tryz.underlying121 ha 3 _ rfl
  obtain ⟨_, _, a4⟩ := fld Tryz.underlying121 ha 4 _ rfl
  obtain ⟨_, _, a5⟩ := fld Tryz.underlying121 ha 5 _ rfl
  obtain ⟨_, _, r0⟩ := fld Tryz.underlying118 a1 0 _ rfl
  obtain ⟨_, _, r1⟩ := fld Tryz.underlying118 a1 1 _ rfl
  obtain ⟨_, _, r2⟩ := fld Tryz.underlying118 a1 2 _ rfl
  obtain ⟨n0, e0, _, _⟩ := DataW.trod_int Tryz.underlying3 s0
  obtain ⟨o, e1, l1, l2⟩ := ordS_of s1 (by simp [hCellsStep, sCellsOrder])
  obtain ⟨n2, e2, _, w2⟩ := DataW.trod_int Tryz.underlying3 s2
  obtain ⟨n3, e3, _, w3⟩ := DataW.trod_int Tryz.underlying3 s3
  obtain ⟨t, e4, _, l4⟩ := DataW.trod_string Tryz.underlying9 s4
  obtain ⟨kp, kn, kc, e5⟩ := slice_val Tryz.underlying49 s5
  obtain ⟨n6, e6, _, _⟩ := DataW.trod_int Tryz.underlying41 a0
  obtain ⟨n7, e7, _, _⟩ := DataW.trod_int Tryz.underlying3 r0
  obtain ⟨n8, e8, _, _⟩ := DataW.trod_int Tryz.underlying3 r1
  obtain ⟨n9, e9, _, _⟩ := DataW.trod_int Tryz.underlying3 r2
  obtain ⟨n10, e10, _, _⟩ := DataW.trod_int Tryz.underlying3 a2
  obtain ⟨n11, e11, _, _⟩ := DataW.trod_int Tryz.underlying2 a3
  obtain ⟨so, sd, e12, l3, l5⟩ := sagaCells_of a4 (by simp [hCellsAns, sCellsSaga])
  obtain ⟨dp, dn, dc, e13⟩ := slice_val Tryz.underlying119 a5
  replace e12 := sagaV_toList e12
  simp [hCellsStep, hCellsAns, hCellsRej, hCellsErr, hCellsKeep, hCellsDiffs, sCellsInt, sCellsI64, sCellsStr, sCellsOrder, sCellsSaga] at e0 e1 e2 e3 e4 e5 e6 e7 e8 e9 e10 e11 e12 e13
  unfold sagaL at e12
  simp only [List.cons.injEq, and_true] at e12
  obtain ⟨rfl, rfl, rfl, rfl, rfl⟩ := e1
  obtain ⟨rfl, rfl, rfl, rfl, rfl, rfl, rfl, rfl, rfl, rfl, rfl, rfl⟩ := e12
  subst e0 e2 e3 e4 e5 e6 e7 e8 e9 e10 e11 e13
  exact ⟨⟨⟨n0, n2, n3, o, n6, n10, n11, so, sd⟩, t.data.toList, kp, kn, kc, n7, n8, n9, dp, dn, dc⟩, by simp [hisC], ⟨wf_inI w2, wf_inI w3, l1, l2, l3⟩⟩
set_option maxRecDepth 100000 in
theorem lines_of {H : Type} {enc : TypeId × Value → H} {W : World} {base : Nat} {spare : Nat → Bool} {held : Bool} {v : Value} {d : DataW H} {p : List MemPlace}
    (h : DataW.Trod enc Tryz.prog W base spare held 113 v d p) (hv : v.cells.toList = [v]) : ∃ ys : List HisI, IsLines W v ys := by
  obtain ⟨fuel, hf⟩ := h
  obtain ⟨u, ys, e, hI, hw⟩ := slice_of hisC LineOk Tryz.underlying113 hCellsLine (by decide) (fun _ => rfl) (fun _ _ _ h hl => lineCells_of h hl) hf
  rw [hv] at e
  obtain rfl : v = u := by simpa using e
  exact ⟨ys, ⟨hI, hw⟩⟩
end Go.Proofs.YtibabfedpdoofaaGreatDoor

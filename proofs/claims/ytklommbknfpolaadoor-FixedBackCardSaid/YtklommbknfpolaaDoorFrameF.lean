/-
  From a walk of a law to its row, where the library's tables of utf8 are laid; widths and texts that came in; conditions: none.
-/
import Derived.Test.YtklommbknfpolaaDoorFrameG
import Derived.Test.YtklommbknfpolaaDoorTie
import Derived.Test.YtklommbknfpolaaDoorCards
import Derived.Test.YtklommbknfpolaaDoorFixA
import Derived.SevenTiedAt
import Derived.Deep.Slices
namespace Go.Own
open Go.RowKit Go.ChangeShapes Go.WideShapes Go.Deep

/-- Structs of k cells that came in; f: a struct's cells; p: what is known of each. -/
theorem slice_of {H R : Type} [Inhabited R] {enc : TypeId × Value → H} {P : Program} {W : World} {base : Nat} {spare : Nat → Bool} {held : Bool} {fuel : Nat} {t e : TypeId} {cs : List Value} {x : DataW H × List MemPlace} {k : Nat} (f : R → List Value) (p : R → Prop)
    (ht : P.underlying t = some (.slice e)) (hk : P.cellsOf e = k) (hpos : 0 < k) (hf : ∀ r, (f r).length = k)
    (hel : ∀ (fuel' : Nat) (cs' : List Value) (x' : DataW H × List MemPlace), DataW.trod enc P W base spare held fuel' e cs' = some x' → cs'.length = k → ∃ r, cs' = f r ∧ p r)
    (h : DataW.trod enc P W base spare held fuel t cs = some x) : ∃ (v : Value) (L : List R), cs = [v] ∧ IsL W k v (L.map f) ∧ ∀ r ∈ L, p r := by
  rcases open_slice ht h with ⟨rfl, rfl⟩ | ⟨a, len, cap, m, n, D, Pl, rfl, hb, hl, hm, hmm, hx, hi⟩
  · exact ⟨_, [], rfl, .none _ _ (fun _ => rfl), by simp⟩
  · rw [hk] at hi
    have hlm : len ≤ m := by rw [hmm]; split <;> omega
    have hr : ∀ i, i < len → ∃ r : R, (∀ j (u : Value), (f r)[j]? = some u → W.cell? ((a.add (i * k)).add j) = some u) ∧ p r := fun i him => by
      obtain ⟨cs', hc, ht⟩ := hi i (by omega)
      obtain ⟨_, hlen, hg⟩ := World.cells?_some hc
      obtain ⟨r, rfl, hp⟩ := hel _ _ _ ht hlen
      refine ⟨r, fun j u hu => ?_, hp⟩
      have hj : j < k := by
        have := (List.getElem?_eq_some_iff.1 hu).1
        rwa [hf] at this
      rw [hg j hj]
      simpa using hu
    obtain ⟨G, hG⟩ := choose_lt (α := R) (p := fun i r => (∀ j (u : Value), (f r)[j]? = some u → W.cell? ((a.add (i * k)).add j) = some u) ∧ p r) hr
    refine ⟨_, (List.range len).map G, rfl, ?_, fun r hr => ?_⟩
    · by_cases h0 : len = 0
      · subst h0; exact .none _ _ (fun e => by cases e)
      have hL : (((List.range len).map G).map f).length = len := by simp
      have key : IsL W k (.slice (some a) (((List.range len).map G).map f).length cap) (((List.range len).map G).map f) := by
        refine .some a cap _ (by omega) hm (by omega) ⟨?_, fun i h j u hu => ?_⟩
        · have h1 : 0 < (f (G 0)).length := by rw [hf]; exact hpos
          have := World.block_lt_of_cell? W _ ((hG 0 (by omega)).1 0 _ (List.getElem?_eq_getElem h1))
          rwa [lBlock, lBlock] at this
        · rw [hL] at h
          simp only [List.getElem_map, List.getElem_range] at hu
          exact (hG i h).1 j u hu
      rwa [hL] at key
    · obtain ⟨i, hi', rfl⟩ := List.mem_map.1 hr
      exact (hG i (List.mem_range.1 hi')).2
end Go.Own
namespace Go.Proofs.YtklommbknfpolaaDoor
open Go.RowKit Go.Own Go.ChangeShapes Go.WideShapes

theorem own : ownKnob Tryd.prog.godebug = none := by kernel_rfl
theorem laidOut : laidOutB Tryd.prog = true := by kernel_rfl
theorem cellsInt : Tryd.prog.cellsOf 3 = 1 := by kernel_rfl
theorem cellsStr : Tryd.prog.cellsOf 9 = 1 := by kernel_rfl
theorem cellsU8 : Tryd.prog.cellsOf 5 = 1 := by kernel_rfl
instance : Inhabited ByteArray := ⟨⟨#[]⟩⟩
set_option maxRecDepth 100000 in
theorem ints_of {H : Type} {enc : TypeId × Value → H} {W : World} {base : Nat} {spare : Nat → Bool} {held : Bool} {v : Value} {d : DataW H} {p : List MemPlace}
    (h : DataW.Trod enc Tryd.prog W base spare held 22 v d p) (hv : v.cells.toList = [v]) : ∃ ws : List Int, IsInts W v ws := by
  obtain ⟨fuel, hf⟩ := h
  obtain ⟨u, ws, e, hI, -⟩ := slice_of (fun n : Int => [.int .i64 n]) (fun _ => True) Tryd.underlying22 cellsInt (by decide) (fun _ => rfl) (fun fuel' cs x hx hl => by
    obtain ⟨n, e, _, _⟩ := DataW.trod_int Tryd.underlying3 hx
    refine ⟨n, ?_, trivial⟩
    match cs, hl with
    | [c], _ => simpa using e) hf
  rw [hv] at e
  obtain rfl : v = u := by simpa using e
  exact ⟨ws, hI⟩
set_option maxRecDepth 100000 in
theorem strs_of {H : Type} {enc : TypeId × Value → H} {W : World} {base : Nat} {spare : Nat → Bool} {held : Bool} {v : Value} {d : DataW H} {p : List MemPlace}
    (h : DataW.Trod enc Tryd.prog W base spare held 23 v d p) (hv : v.cells.toList = [v]) : ∃ ss : List ByteArray, IsStrs W v ss ∧ ∀ s ∈ ss, s.size ≤ 9223372036854775807 := by
  obtain ⟨fuel, hf⟩ := h
  obtain ⟨u, ss, e, hI, hw⟩ := slice_of (fun s : ByteArray => [.string s]) (fun s => s.size ≤ 9223372036854775807) Tryd.underlying23 cellsStr (by decide) (fun _ => rfl) (fun fuel' cs x hx hl => by
    obtain ⟨s, e, _, hsz⟩ := DataW.trod_string Tryd.underlying9 hx
    refine ⟨s, ?_, by unfold maxLen at hsz; exact hsz⟩
    match cs, hl with
    | [c], _ => simpa using e) hf
  rw [hv] at e
  obtain rfl : v = u := by simpa using e
  exact ⟨ss, hI, hw⟩
theorem str_of {H : Type} {enc : TypeId × Value → H} {W : World} {b0 base : Nat} {r : Reach} {spare : Nat → Bool} {held : Bool} {v : Value} {d : DataW H} {p : List MemPlace}
    (hv : Value.okWide Tryd.prog W r b0 9 v) (h : DataW.Trod enc Tryd.prog W base spare held 9 v d p) : ∃ s : ByteArray, v = .string s ∧ s.size ≤ 9223372036854775807 := by
  obtain ⟨s, rfl, hs⟩ := string_of Tryd.underlying9 hv h
  exact ⟨_, rfl, by unfold maxLen at hs; exact hs⟩
set_option maxRecDepth 100000 in
theorem bytes_of {H : Type} {enc : TypeId × Value → H} {W : World} {base : Nat} {spare : Nat → Bool} {held : Bool} {v : Value} {d : DataW H} {p : List MemPlace}
    (h : DataW.Trod enc Tryd.prog W base spare held 31 v d p) (hv : v.cells.toList = [v]) : ∃ ns : List Nat, IsL W 1 v (ns.map fun n : Nat => [.int .u8 (n : Int)]) ∧ ∀ n ∈ ns, n ≤ 255 := by
  obtain ⟨fuel, hf⟩ := h
  obtain ⟨u, ns, e, hI, hw⟩ := slice_of (fun n : Nat => [.int .u8 (n : Int)]) (fun n => n ≤ 255) Tryd.underlying31 cellsU8 (by decide) (fun _ => rfl) (fun fuel' cs x hx hl => by
    obtain ⟨n, e, _, hwf⟩ := DataW.trod_int Tryd.underlying5 hx
    simp [Lit.wf, IntKind.min, IntKind.max, IntKind.bits, IntKind.signed] at hwf
    refine ⟨n.toNat, ?_, by omega⟩
    rw [Int.toNat_of_nonneg hwf.1]
    match cs, hl with
    | [c], _ => simpa using e) hf
  rw [hv] at e
  obtain rfl : v = u := by simpa using e
  exact ⟨ns, hI, hw⟩
theorem n16_of {H : Type} {enc : TypeId × Value → H} {W : World} {b0 base : Nat} {r : Reach} {spare : Nat → Bool} {held : Bool} {v : Value} {d : DataW H} {p : List MemPlace}
    (hv : Value.okWide Tryd.prog W r b0 32 v) (h : DataW.Trod enc Tryd.prog W base spare held 32 v d p) : ∃ n : Nat, v = .int .u16 (n : Int) ∧ n ≤ 65535 := by
  obtain ⟨n0, rfl⟩ := okWide_int Tryd.underlying32 hv
  obtain ⟨fuel, hf⟩ := h
  obtain ⟨n, e, _, hwf⟩ := DataW.trod_int Tryd.underlying32 hf
  have e2 : n0 = n := by simpa [Value.cells] using e
  subst e2
  simp [Lit.wf, IntKind.min, IntKind.max, IntKind.bits, IntKind.signed] at hwf
  exact ⟨n0.toNat, by rw [Int.toNat_of_nonneg hwf.1], by omega⟩
/-- A world for a witness: the settled one, the two tables holding what their initialisers lay. -/
def litVal : DataW Unit → Value
  | .lit (.int k n) => .int k n
  | _ => .int .u8 0
def litCells : DataW Unit → Array Value
  | .agg ps => (ps.map litVal).toArray
  | _ => #[]
def putCells (cs : Array Value) : Obj → Obj
  | .cells _ t frozen => .cells cs t frozen
  | o => o
noncomputable def laidWorld (os : Os) : World :=
  { World.holding Tryd.prog os ⟨#[], #[], []⟩ with heap := ((World.holding Tryd.prog os ⟨#[], #[], []⟩).heap.modify 1 (putCells (litCells Rows.laid_unicode_utf8_first))).modify 2 (putCells #[.int .u8 128, .int .u8 191, .int .u8 160, .int .u8 191, .int .u8 128, .int .u8 159, .int .u8 144, .int .u8 191, .int .u8 128, .int .u8 143, .int .u8 0, .int .u8 0, .int .u8 0, .int .u8 0, .int .u8 0, .int .u8 0, .int .u8 0, .int .u8 0, .int .u8 0, .int .u8 0, .int .u8 0, .int .u8 0, .int .u8 0, .int .u8 0, .int .u8 0, .int .u8 0, .int .u8 0, .int .u8 0, .int .u8 0, .int .u8 0, .int .u8 0, .int .u8 0]) }
end Go.Proofs.YtklommbknfpolaaDoor

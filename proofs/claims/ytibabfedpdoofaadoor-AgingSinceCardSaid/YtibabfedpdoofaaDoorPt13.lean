/-
  From a walk of a law to its row, where tables and the map of the deeds' words are laid; conditions: none.
  sum 01d55b693ca00eef32f9ac3eb5acf88787ccf3bb
-/
import Derived.Test.YtibabfedpdoofaaDoorTie
import Derived.Test.YtibabfedpdoofaaDoorCards
import Derived.SevenTiedAt
import Derived.WideKeyElems2
import Derived.Test.YtibabfedpdoofaaDoorPt10
import Derived.Test.YtibabfedpdoofaaDoorPt12
namespace Go.Own
open Go.RowKit Go.Maps Go.WideElems Go.WideShapes

/-- A table at any place of the list. -/
theorem tab_of {P : Program} {W : World} {name : String} {k : IntKind} {zs : List Int} {rest : List (String × DataW Unit)} {ps : List MemPlace} {g : Nat} {t e : TypeId} {n : Nat}
    (hg : P.globalNamed name = some g) (hty : (P.globals[g]?).map (·.type) = some t) (ht : P.underlying t = some (.array n e)) (he : P.underlying e = some (.int k)) (hce : P.cellsOf e = 1) (hct : P.cellsOf t = n)
    (h : DataW.LaidVars P W ((name, Lib.tabData k zs) :: rest) ps) : Lib.TabIs P W name k zs := by
  obtain ⟨g', t', cs, fuel, p, q, hg', ht', hvar, hd, _, _⟩ := h
  obtain rfl := Option.some.inj (hg.symm.trans hg')
  obtain rfl := Option.some.inj (hty.symm.trans ht')
  unfold Lib.TabIs
  rw [hvar, ← Lib.cells_of_tab ht he hce hct hd]
theorem tail_of {P : Program} {W : World} {x : String × DataW Unit} {rest : List (String × DataW Unit)} {ps : List MemPlace} (h : DataW.LaidVars P W (x :: rest) ps) : ∃ qs, DataW.LaidVars P W rest qs := by
  obtain ⟨_, _, _, _, _, q, _, _, _, _, h, _⟩ := h
  exact ⟨q, h⟩
/-- A map of texts to numbers that is laid, as a map's own piece. -/
theorem map_laid {P : Program} {W : World} {k e : TypeId} {kd : IntKind} {fuel b : Nat} {es : Array MapEntry} {clock : Nat} {sp : Nat → Bool} {held : Bool} {base : Nat} {E : List (Lit × DataW Unit)} {f : Lit → Option Value} (K : WideMaps.KeyLaw P k)
    (he : P.underlying e = some (.int kd)) (hb : W.heap[b]? = some (.map es clock)) (F : Fit P k (elemAt (fun _ => ()) P W base sp held fuel e) es clock)
    (hE : E = (es.toList.map (rg P k (elemAt (fun _ => ()) P W base sp held fuel e))).foldr DataW.insert [])
    (h1 : ∀ l d, (l, d) ∈ E → ∃ n, d = .lit (.int kd n) ∧ f l = some (.int kd n)) (h2 : ∀ l, (f l).isSome = true → ∃ d, (l, d) ∈ E) : (mapE P k b es.size f).F W := by
  have key : ∀ x ∈ es.toList, ∃ l n, keyOf P k x.key = some l ∧ x.val = .int kd n ∧ f l = some (.int kd n) ∧ rd (H := Value) P k tokR x = some (l, .held (.int kd n)) ∧ (l, DataW.lit (.int kd n)) ∈ E := fun x hx => by
    obtain ⟨y, hy⟩ := F.reads x hx
    have hk := rd_key hy
    have hm : y ∈ E := by
      rw [hE]
      refine (sorted_perm _).symm.subset (List.mem_map.2 ⟨x, hx, rg_of hy⟩)
    obtain ⟨n, hd, hf⟩ := h1 y.1 y.2 hm
    have hv : x.val = .int kd n := by
      unfold rd at hy
      rw [hk] at hy
      simp only [Option.bind_some, Option.map_eq_some_iff] at hy
      obtain ⟨z, hz, hzy⟩ := hy
      have hz1 : z.1 = y.2 := congrArg Prod.snd hzy
      unfold elemAt at hz
      split at hz
      · rename_i hform
        obtain ⟨n', e1, e2, _⟩ := DataW.trod_int he hz
        rw [← hz1, e2] at hd
        simp only [DataW.lit.injEq, Lit.int.injEq, true_and] at hd
        subst hd
        unfold Value.formed at hform
        rw [he] at hform
        cases hxv : x.val <;> rw [hxv] at e1 hform <;> simp_all [Value.cells]
      · cases hz
    refine ⟨y.1, n, hk, hv, hf, ?_, by rw [← hd]; exact hm⟩
    unfold rd
    rw [hk, hv]
    rfl
  have F' : Fit P k (tokR) es clock := ⟨F.size, F.stamped, fun x hx => by
    obtain ⟨l, n, _, _, _, h, _⟩ := key x hx
    exact ⟨_, h⟩⟩
  refine ⟨_, ⟨es, clock, hb, F', Nat.le_refl _, rfl⟩, ⟨_, rfl⟩, fun l hl z => ?_⟩
  have hs := atKey_sorted (es.toList.map (rg P k tokR)) (Go.ChangeMaps.rising_of_pairwise _ (Go.ChangeMaps.sorted_sorted _ (F'.strKeys K) (F'.apart K))) l hl
  by_cases hh : ∃ x ∈ es.toList, keyOf P k x.key = some l
  · obtain ⟨x, hx, hk⟩ := hh
    obtain ⟨l', n, hk', _, hf, hr, _⟩ := key x hx
    obtain rfl := Option.some.inj (hk.symm.trans hk')
    rw [hf]
    exact hs.2 (l, .held (.int kd n)) (List.mem_map.2 ⟨x, hx, rg_of hr⟩) rfl z
  · have hn : f l = none := by
      cases hfl : f l with
      | none => rfl
      | some v =>
        obtain ⟨d, hd⟩ := h2 l (by rw [hfl]; rfl)
        rw [hE] at hd
        obtain ⟨x, hx, hxe⟩ := List.mem_map.1 ((sorted_perm _).subset hd)
        obtain ⟨y, hy⟩ := F.reads x hx
        rw [rg_of hy] at hxe
        subst hxe
        exact absurd ⟨x, hx, rd_key hy⟩ hh
    rw [hn]
    refine hs.1 (fun p hp => ?_) z
    obtain ⟨x, hx, rfl⟩ := List.mem_map.1 hp
    obtain ⟨l', n, hk', _, _, hr, _⟩ := key x hx
    rw [rg_of hr]
    intro e
    exact hh ⟨x, hx, by rw [hk']; exact congrArg some e⟩
end Go.Own
namespace Go.Proofs.YtibabfedpdoofaaDoor
open Go.RowKit Go.Own Go.Maps Go.WideElems Go.ChangeShapes Go.WideShapes

theorem own : ownKnob Tryd.prog.godebug = none := by kernel_rfl
theorem laidOut : laidOutB Tryd.prog = true := by kernel_rfl
theorem gTab : Tryd.prog.globalNamed "consignor/keys.parties" = some 2 := by kernel_rfl
theorem gTabType : (Tryd.prog.globals[2]?).map (·.type) = some 50 := by kernel_rfl
theorem gDeed : Tryd.prog.globalNamed "consignor/keys.deeds" = some 0 := by kernel_rfl
theorem gDeedType : (Tryd.prog.globals[0]?).map (·.type) = some 144 := by kernel_rfl
theorem gPowType : (Tryd.prog.globals[1]?).map (·.type) = some 163 := by kernel_rfl
theorem cellsTab : Tryd.prog.cellsOf 50 = 6 := by kernel_rfl
theorem cellsPow : Tryd.prog.cellsOf 163 = 20 := by kernel_rfl
theorem cellsInt : Tryd.prog.cellsOf 3 = 1 := by kernel_rfl
theorem cellsU64 : Tryd.prog.cellsOf 157 = 1 := by kernel_rfl
theorem deeds_met {W : World} {ps : List MemPlace} (h : DataW.LaidVars Tryd.prog W [("consignor/keys.deeds", Rows.laid_consignor_keys_deeds)] ps) : DeedsLaid W := by
  obtain ⟨g', t', cs, fuel, p, q, hg', ht', hvar, hd, _, _⟩ := h
  obtain rfl := Option.some.inj (gDeed.symm.trans hg')
  obtain rfl := Option.some.inj (gDeedType.symm.trans ht')
  have hc := fun i v (hi : cs[i]? = some v) => World.var?_cell gDeed hvar i ▸ hi
  rcases open_map Tryd.underlying144 hd with ⟨_, h2⟩ | ⟨b, es, clock, n, rfl, hcs, hb, _, F, hx⟩
  · cases h2
  · have h0 : cs[0]? = some (.map (some b)) := by
      have := congrArg (·[0]?) hcs
      simpa using this
    have hcell : W.cell? ⟨0, 0, none⟩ = some (.map (some b)) := by rw [World.var?_cell gDeed hvar 0]; exact h0
    have hE := congrArg Prod.fst hx
    simp only [Rows.laid_consignor_keys_deeds, DataW.map.injEq] at hE
    refine ⟨World.block_lt_of_cell? W _ hcell, b, es.size, hcell, map_laid (WideMaps.string_law Tryd.underlying9) Tryd.underlying3 hb F hE ?_ ?_⟩
    · intro l d hm
      simp only [List.mem_cons, List.not_mem_nil, or_false, Prod.mk.injEq] at hm
      rcases hm with ⟨rfl, rfl⟩ | ⟨rfl, rfl⟩ | ⟨rfl, rfl⟩ | ⟨rfl, rfl⟩ | ⟨rfl, rfl⟩ | ⟨rfl, rfl⟩
      all_goals exact ⟨_, rfl, rfl⟩
    · intro l hl
      obtain ⟨v, hv⟩ := Option.isSome_iff_exists.1 hl
      obtain ⟨d, h0, h5, rfl, rfl⟩ := deedsF_inv hv
      have : d = 0 ∨ d = 1 ∨ d = 2 ∨ d = 3 ∨ d = 4 ∨ d = 5 := by omega
      rcases this with rfl | rfl | rfl | rfl | rfl | rfl
      all_goals exact ⟨_, by simp [deedL]; rfl⟩
/-- What the rows' list gives. -/
theorem laidE_of {W : World} (h : laidMetH Tryd.prog [("math/bits.deBruijn32tab", Rows.laid_math_bits_deBruijn32tab), ("math/bits.deBruijn64tab", Rows.laid_math_bits_deBruijn64tab), ("internal/strconv.uint64pow10", Rows.laid_internal_strconv_uint64pow10), ("consignor/keys.parties", Rows.laid_consignor_keys_parties), ("consignor/keys.deeds", Rows.laid_consignor_keys_deeds)] W) : LaidE W := by
  obtain ⟨ps, h, _⟩ := (h : laidMet Tryd.prog _ W)
  obtain ⟨_, h⟩ := tail_of h
  obtain ⟨_, h⟩ := tail_of h
  have T : Lib.TabIs Tryd.prog W "internal/strconv.uint64pow10" .u64 Lib.pow10Tab := tab_of gPow gPowType Tryd.underlying163 Tryd.underlying157 cellsU64 cellsPow h
  obtain ⟨_, h⟩ := tail_of h
  have P : Lib.TabIs Tryd.prog W "consignor/keys.parties" .i64 [1, 0, 2, 1, 0, 2] := tab_of gTab gTabType Tryd.underlying50 Tryd.underlying3 cellsInt cellsTab h
  obtain ⟨_, h⟩ := tail_of h
  have c0 : W.cell? ⟨2, 0, none⟩ = some (.int .i64 1) := P.cell gTab 0 (by decide)
  exact ⟨⟨World.block_lt_of_cell? W _ c0, c0, P.cell gTab 1 (by decide), P.cell gTab 2 (by decide), P.cell gTab 3 (by decide), P.cell gTab 4 (by decide), P.cell gTab 5 (by decide)⟩, deeds_met h, T⟩
/-- A world for a witness: the settled one, tables and map holding what their initialisers lay. -/
def litVal : DataW Unit → Value
  | .lit (.int k n) => .int k n
  | _ => .int .u8 0
def litCells : DataW Unit → Array Value
  | .agg ps => (ps.map litVal).toArray
  | _ => #[]
def putCells (cs : Array Value) : Obj → Obj
  | .cells _ t frozen => .cells cs t frozen
  | o => o
def deedsObj : Obj := .map #[⟨.string ⟨#[99, 104, 97, 114, 103, 101]⟩, .int .i64 1, 0⟩, ⟨.string ⟨#[114, 101, 102, 117, 110, 100]⟩, .int .i64 4, 1⟩, ⟨.string ⟨#[114, 101, 108, 101, 97, 115, 101]⟩, .int .i64 3, 2⟩, ⟨.string ⟨#[114, 101, 115, 101, 114, 118, 101]⟩, .int .i64 0, 3⟩, ⟨.string ⟨#[115, 104, 105, 112]⟩, .int .i64 2, 4⟩, ⟨.string ⟨#[118, 111, 105, 100]⟩, .int .i64 5, 5⟩] 6
def laidHeap (h : Array Obj) : Array Obj :=
  let h1 := h.modify 3 (putCells (litCells Rows.laid_math_bits_deBruijn32tab))
  let h2 := h1.modify 4 (putCells (litCells Rows.laid_math_bits_deBruijn64tab))
  let h3 := h2.modify 1 (putCells (litCells Rows.laid_internal_strconv_uint64pow10))
  let h4 := h3.modify 2 (putCells (litCells Rows.laid_consignor_keys_parties))
  let h5 := h4.modify 0 (putCells #[.map (some h.size)])
  h5.push deedsObj
noncomputable def laidWorld (os : Os) : World :=
  { World.holding Tryd.prog os ⟨#[], #[], []⟩ with heap := laidHeap (World.holding Tryd.prog os ⟨#[], #[], []⟩).heap }
end Go.Proofs.YtibabfedpdoofaaDoor

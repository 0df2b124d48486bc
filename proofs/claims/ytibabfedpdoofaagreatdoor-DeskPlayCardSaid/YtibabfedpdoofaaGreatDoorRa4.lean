/-
  Whether two statements are the same, by walking the document's text; conditions: the rows lie in memory.
  What a row of a party's rows keeps within; conditions: none.
  A statement's bytes, by walking the document's text; conditions: the rows lie in memory.
  The statement of some bytes, by walking the document's text; conditions: texts that are not too long.
  Rows seen as structs that lie in memory one behind the other; conditions: none.
  Maps whose keys are those of deeds; conditions: none.
  What an intake is, and whether a statement is accepted; conditions: none.
  Rows that may be stand in order; conditions: none.
  What an intake says of a deed: of its map, and of its rows; conditions: none.
  What an intake says of a deed, and of an order, by walking the program's text; conditions: the rows lie in memory, its map bears them.
  What the saga's simple functions compute, by walking both texts; conditions: none.
  Which deeds are asked for again, by walking both texts; conditions: the sagas lie in memory, the table of parties as laid.
  What a core has, and is asked, by walking the program's text; conditions: int64 numbers.
  Whether two statements are the same, by walking the program's text and slices.EqualFunc's; conditions: the rows lie in memory.
  The newest statement of a party, and whether two intakes are the same, by walking the program's text; conditions: the rows lie in memory. (Printed by wip/mkintnew.py.)
  What the document's intake says of a deed, and of an order; whether both are alike, by walking the texts; conditions: the rows lie in memory. (Printed by wip/mkintref.py.)
  Whether an intake is the document's, and whether statements are too great, by walking the law's text; conditions: the rows lie in memory.
-/
import Derived.KernelRfl
import Derived.BigGuardPart
import Derived.Test.YtibabfedpdoofaaGreatDoorRa1
import Derived.Test.YtibabfedpdoofaaGreatDoorRa2
import Derived.Test.YtibabfedpdoofaaGreatDoorRa3
namespace Go.Proofs.YtibabfedpdoofaaGreatDoor
open Go.RowKit Go.Own

theorem run_key_eql (a b a' b' : Int) (w : World) : (binOp .eql 29 (.agg #[.int .i64 a, .int .i64 b]) (.agg #[.int .i64 a', .int .i64 b'])).run Tryz.prog w = .ok (.bool (decide (a = a') && decide (b = b'))) w := by
  go_simp
  (repeat' split) <;> simp_all

/-- Both slices, where there is a row. -/
theorem IsRows.at {w : World} {v : Value} {rs : List RowS} (h : IsRows w v rs) (hn : 0 < rs.length) : ∃ a cap, v = .slice (Option.some a) rs.length cap ∧ rs.length ≤ cap ∧ cap ≤ maxLen ∧ RowsAt w a rs := by
  cases h with
  | none sp sc _ => simp at hn
  | some a cap rs hlen hcap h0 h => exact ⟨a, cap, rfl, hlen, hcap, h⟩

end Go.Proofs.YtibabfedpdoofaaGreatDoor
namespace Go.Proofs.YtibabfedpdoofaaGreatDoor
open Go.RowKit Go.Own

theorem chkRows_row {rs : List RowS} {p : Int} (h : chkRows rs p = true) {j : Nat} (hj : j < rs.length) : mayRow rs[j] p = true ∧ rs.length ≤ 400 := by
  simp only [chkRows, Bool.and_eq_true, decide_eq_true_eq, List.all_eq_true, List.mem_range] at h
  have := h.2 j hj
  simp only [rowOkAt, List.getElem?_eq_getElem hj, Bool.and_eq_true] at this
  exact ⟨this.1, h.1.2⟩
end Go.Proofs.YtibabfedpdoofaaGreatDoor
namespace Go.Proofs.YtibabfedpdoofaaGreatDoor
open Go.RowKit Go.Own

theorem rowBounds {r : RowS} {p : Int} (h : mayRow r p = true) : 1 ≤ r.o ∧ r.o ≤ 60 ∧ 0 ≤ r.d ∧ r.d < 6 ∧ 1 ≤ r.code ∧ r.code ≤ 2 ∧ 0 ≤ r.amt ∧ r.amt ≤ 1099511627776 ∧ 0 ≤ r.qty ∧ r.qty ≤ 999 := by
  simp only [mayRow, keyOk, isDeed, Bool.and_eq_true, Bool.or_eq_true, decide_eq_true_eq] at h
  obtain ⟨⟨⟨⟨⟨h1, h2⟩, h3, h4⟩, _⟩, hc⟩, h5⟩ := h
  have : 0 ≤ r.amt ∧ r.amt ≤ 1099511627776 ∧ 0 ≤ r.qty ∧ r.qty ≤ 999 := by
    split at h5
    · simp at h5; omega
    · split at h5 <;> simp at h5 <;> omega
  omega
theorem okStmt_ok {p q : Int} {rs : List RowS} (h : okStmt p q rs = true) : 1 ≤ q ∧ q ≤ 1073741824 ∧ 0 ≤ p ∧ p ≤ 2 ∧ rs.length ≤ 400 ∧ chkRows rs p = true := by
  simp only [okStmt, Bool.and_eq_true, decide_eq_true_eq] at h
  have h2 := h.2
  simp only [chkRows, Bool.and_eq_true, decide_eq_true_eq] at h2
  exact ⟨h.1.1, h.1.2, h2.1.1.1, h2.1.1.2, h2.1.2, h.2⟩

end Go.Proofs.YtibabfedpdoofaaGreatDoor
namespace Go.Proofs.YtibabfedpdoofaaGreatDoor
open Go.RowKit Go.Own

def rowC (r : RowS) : List Value := [.int .i64 r.o, .int .i64 r.d, .int .i64 r.code, .int .i64 r.amt, .int .i64 r.qty]
theorem rowC_len (rs : List RowS) : ∀ l ∈ rs.map rowC, l.length = 5 := fun l hl => by obtain ⟨x, _, rfl⟩ := List.mem_map.1 hl; rfl
theorem isRows_of_isL {w : World} {v : Value} {rs : List RowS} (h : IsL w 5 v (rs.map rowC)) : IsRows w v rs := by
  generalize hL : rs.map rowC = M at h
  cases h with
  | none sp sc hn => obtain rfl : rs = [] := by simpa using hL
                     exact .none sp sc hn
  | some a cap M hlen hcap h0 hR =>
    subst hL
    simp only [List.length_map] at hlen h0 ⊢
    refine .some a cap rs hlen hcap h0 ⟨hR.lt, fun i hi => hR.c0 i (by simpa using hi) _ (by simp [rowC]), fun i hi => ?_, fun i hi => ?_, fun i hi => ?_, fun i hi => ?_⟩
    · exact hR.cj i (by simpa using hi) 0 _ (by simp [rowC])
    · exact hR.cj i (by simpa using hi) 1 _ (by simp [rowC])
    · exact hR.cj i (by simpa using hi) 2 _ (by simp [rowC])
    · exact hR.cj i (by simpa using hi) 3 _ (by simp [rowC])
end Go.Proofs.YtibabfedpdoofaaGreatDoor
namespace Go.Proofs.YtibabfedpdoofaaGreatDoor
open Go.RowKit Go.Own

theorem lAt_of_rows {w : World} {a : Addr} {rs : List RowS} (h : RowsAt w a rs) : LAt w a 5 (rs.map rowC) := by
  refine ⟨h.lt, fun i hi j u hu => ?_⟩
  have hi' : i < rs.length := by simpa using hi
  simp only [List.getElem_map] at hu
  match j, hu with
  | 0, hu => simp [rowC] at hu; subst hu; rw [add0]; exact h.c0 i hi'
  | 1, hu => simp [rowC] at hu; subst hu; rw [lAdd1]; exact h.c1 i hi'
  | 2, hu => simp [rowC] at hu; subst hu; rw [lAdd1]; exact h.c2 i hi'
  | 3, hu => simp [rowC] at hu; subst hu; rw [lAdd1]; exact h.c3 i hi'
  | 4, hu => simp [rowC] at hu; subst hu; rw [lAdd1]; exact h.c4 i hi'
  | j + 5, hu => simp [rowC] at hu
theorem rowC_one (rs : List RowS) : ∀ u ∈ (rs.map rowC).flatten, u.oneCell' = true := fun u hu => by
  obtain ⟨l, hl, hu⟩ := List.mem_flatten.1 hu
  obtain ⟨r, _, rfl⟩ := List.mem_map.1 hl
  simp [rowC] at hu
  rcases hu with rfl | rfl | rfl | rfl | rfl <;> rfl
theorem isL_of_isRows {w : World} {v : Value} {rs : List RowS} (h : IsRows w v rs) : IsL w 5 v (rs.map rowC) := by
  cases h with
  | none sp sc hn => exact .none sp sc hn
  | some a cap rs hlen hcap h0 h =>
    have := IsL.some (w := w) (k := 5) a cap (rs.map rowC) (by rw [List.length_map]; exact hlen) hcap (by rw [List.length_map]; exact h0) (lAt_of_rows h)
    rwa [List.length_map] at this
end Go.Proofs.YtibabfedpdoofaaGreatDoor
namespace Go.Proofs.YtibabfedpdoofaaGreatDoor
open Go.RowKit Go.Own Go.Maps

theorem mkLaid : laidOutB Tryz.prog = true := by kernel_rfl
theorem mkRow : 29 < Tryz.prog.types.size := of_decide_eq_true (by kernel_rfl)
set_option maxRecDepth 100000 in
theorem mkWide : (match Tryz.prog.underlying 29 with | some (.array _ _) | some (.struct _) => true | _ => false) = true := by kernel_rfl
set_option maxRecDepth 100000 in
theorem keyKeyed : Keyed Tryz.prog 29 := Keyed.of_law (deep_law_laid mkLaid (m := 2) (by omega) mkRow (by kernel_rfl) mkWide)
theorem mkCells : Tryz.prog.cellsOf 29 = 2 := by kernel_rfl
theorem mkCells1 : Tryz.prog.cellsOf 3 = 1 := by kernel_rfl
theorem mkType : Tryz.prog.keyType 29 = true := by kernel_rfl
theorem mkSize : decide (2 ≤ Tryz.prog.types.size) = true := by kernel_rfl
theorem keyLits_int (n : Nat) {o : Int} (h1 : (Lit.int .i64 o).wf = true) : Tryz.prog.keyLits (n + 1) 3 [.int .i64 o] = some [.int .i64 o] := by
  unfold Program.keyLits
  rw [Tryz.underlying3]
  simp [h1]
theorem keyLits_key (n : Nat) {o d : Int} (h1 : (Lit.int .i64 o).wf = true) (h2 : (Lit.int .i64 d).wf = true) : Tryz.prog.keyLits (n + 2) 29 [.int .i64 o, .int .i64 d] = some [.int .i64 o, .int .i64 d] := by
  unfold Program.keyLits
  rw [Tryz.underlying29]
  simp [mkCells, mkCells1, keyLits_int n h1, keyLits_int n h2]
theorem key_formed (o d : Int) : (Value.agg #[.int .i64 o, .int .i64 d]).formed Tryz.prog 29 = true := by
  unfold Value.formed
  rw [Tryz.underlying29]
  simp [mkCells]
theorem keyOf_some {o d : Int} (h1 : (Lit.int .i64 o).wf = true) (h2 : (Lit.int .i64 d).wf = true) : ∃ l, keyOf Tryz.prog 29 (.agg #[.int .i64 o, .int .i64 d]) = some l := by
  have hs := of_decide_eq_true mkSize
  obtain ⟨m, hm⟩ : ∃ m, Tryz.prog.types.size + 1 = m + 2 := ⟨Tryz.prog.types.size - 1, by omega⟩
  unfold keyOf
  rw [Tryz.underlying29]
  simp only [mkType, key_formed, Bool.and_self, if_true, hm]
  rw [show (Value.agg #[.int .i64 o, .int .i64 d]).cells.toList = [.int .i64 o, .int .i64 d] from rfl, keyLits_key m h1 h2]
  exact ⟨_, rfl⟩
noncomputable def keyLit (o d : Int) : Lit := (keyOf Tryz.prog 29 (.agg #[.int .i64 o, .int .i64 d])).getD (.bool true)
theorem keyOf_lit {o d : Int} (h1 : (Lit.int .i64 o).wf = true) (h2 : (Lit.int .i64 d).wf = true) : keyOf Tryz.prog 29 (.agg #[.int .i64 o, .int .i64 d]) = some (keyLit o d) := by
  obtain ⟨l, hl⟩ := keyOf_some h1 h2
  rw [keyLit, hl]
  rfl
theorem keyLit_inj {o d o' d' : Int} (h1 : (Lit.int .i64 o).wf = true) (h2 : (Lit.int .i64 d).wf = true) (h1' : (Lit.int .i64 o').wf = true) (h2' : (Lit.int .i64 d').wf = true) (h : keyLit o d = keyLit o' d') : o = o' ∧ d = d' := by
  have := keyKeyed.inj (keyOf_lit h1 h2) (by rw [h]; exact keyOf_lit h1' h2')
  simpa using this
/-- Rows put into a map, one behind the other, each by its key. -/
noncomputable def putRows (f : Lit → Option Value) : List RowS → Lit → Option Value
  | [] => f
  | r :: rs => putRows (updF f (keyLit r.o r.d) r.v) rs
theorem putRows_snoc (f : Lit → Option Value) : ∀ (rs : List RowS) (r : RowS), putRows f (rs ++ [r]) = updF (putRows f rs) (keyLit r.o r.d) r.v
  | [], _ => rfl
  | x :: rs, r => by rw [List.cons_append, putRows, putRows_snoc _ rs r]; rfl
end Go.Proofs.YtibabfedpdoofaaGreatDoor
namespace Go.Proofs.YtibabfedpdoofaaGreatDoor
open Go.RowKit Go.Own

/-- The newest statement of each party. -/
structure InS where
  p0 : Int
  q0 : Int
  r0 : List RowS
  p1 : Int
  q1 : Int
  r1 : List RowS
  p2 : Int
  q2 : Int
  r2 : List RowS
def zeroI : InS := ⟨0, 0, [], 0, 0, [], 0, 0, []⟩
def InS.seq (A : InS) (p : Int) : Int := if p = 0 then A.q0 else if p = 1 then A.q1 else A.q2
def InS.rows (A : InS) (p : Int) : List RowS := if p = 0 then A.r0 else if p = 1 then A.r1 else A.r2
def InS.put (A : InS) (p q : Int) (rs : List RowS) : InS := if p = 0 then { A with p0 := p, q0 := q, r0 := rs } else if p = 1 then { A with p1 := p, q1 := q, r1 := rs } else { A with p2 := p, q2 := q, r2 := rs }
def InOk (A : InS) : Prop := chkRows A.r0 0 = true ∧ chkRows A.r1 1 = true ∧ chkRows A.r2 2 = true
def accE (A : InS) (p q : Int) (rs : List RowS) : Int := if okStmt p q rs = true then (if q ≤ A.seq p then 93 else 0) else 2
theorem zeroI_ok : InOk zeroI := ⟨by decide +kernel, by decide +kernel, by decide +kernel⟩
theorem accE_ok {A : InS} {p q : Int} {rs : List RowS} (h : accE A p q rs = 0) : okStmt p q rs = true ∧ A.seq p < q := by
  unfold accE at h
  split at h
  · rename_i h1
    split at h
    · cases h
    · exact ⟨h1, by omega⟩
  · cases h
theorem put_ok {A : InS} {p q : Int} {rs : List RowS} (h : InOk A) (h1 : okStmt p q rs = true) : InOk (A.put p q rs) := by
  obtain ⟨a, b, c⟩ := h
  obtain ⟨_, _, p0, p2, _, hc⟩ := okStmt_ok h1
  have hp : p = 0 ∨ p = 1 ∨ p = 2 := by omega
  rcases hp with rfl | rfl | rfl
  · exact ⟨hc, b, c⟩
  · exact ⟨a, hc, c⟩
  · exact ⟨a, b, hc⟩
theorem wf_small {n : Int} (h0 : 0 ≤ n) (h1 : n ≤ 1000) : (Lit.int .i64 n).wf = true := by
  simp [Lit.wf, IntKind.min, IntKind.max, IntKind.bits, IntKind.signed]
  omega
theorem rows_keys {rs : List RowS} {p : Int} (h : chkRows rs p = true) {j : Nat} (hj : j < rs.length) : (Lit.int .i64 rs[j].o).wf = true ∧ (Lit.int .i64 rs[j].d).wf = true := by
  have := rowBounds (chkRows_row h hj).1
  exact ⟨wf_small (by omega) (by omega), wf_small (by omega) (by omega)⟩
theorem rows_len {rs : List RowS} {p : Int} (h : chkRows rs p = true) : rs.length ≤ 400 := by
  simp only [chkRows, Bool.and_eq_true, decide_eq_true_eq] at h
  exact h.1.2
noncomputable def allF (A : InS) : Lit → Option Value := putRows (fun _ => none) (A.r0 ++ (A.r1 ++ A.r2))
/-- A row of an old slice, from whatever world it is read. -/
theorem oldRow {W : World} {v : Value} {rs : List RowS} {p : Option Addr} {n c : Nat} (h : IsRows W v rs) (e : v = .slice p n c) {j : Nat} (hj : j < rs.length) : ∃ a, p = some a ∧ ∀ (w' : World) (L : List Ent), Own W w' L → ∀ i u, (rowC rs[j])[i]? = some u → w'.cell? ((a.add (j * 5)).add i) = some u := by
  obtain ⟨a, cap, h1, _, _, hR⟩ := h.at (by omega)
  rw [e] at h1
  cases h1
  refine ⟨a, rfl, fun w' L hO i u hu => ?_⟩
  have hA := lAt_of_rows hR
  have := hA.c j (by simpa using hj) i u (by simpa using hu)
  rw [← this]
  exact hO.grown.cell (by rw [lBlock, lBlock]; exact hR.lt)
end Go.Proofs.YtibabfedpdoofaaGreatDoor
namespace Go.Proofs.YtibabfedpdoofaaGreatDoor
open Go.RowKit Go.Own

def LessR (a b : RowS) : Prop := keyLess a.o a.d b.o b.d = true
theorem LessR.trans {a b c : RowS} (h1 : LessR a b) (h2 : LessR b c) : LessR a c := by
  simp only [LessR, keyLess, Bool.or_eq_true, Bool.and_eq_true, decide_eq_true_eq] at *
  omega
theorem chkRows_iff {rs : List RowS} {p : Int} : chkRows rs p = true ↔ 0 ≤ p ∧ p ≤ 2 ∧ rs.length ≤ 400 ∧ (∀ r ∈ rs, mayRow r p = true) ∧ rs.Pairwise LessR := by
  simp only [chkRows, Bool.and_eq_true, decide_eq_true_eq, List.all_eq_true, List.mem_range]
  constructor
  · rintro ⟨⟨⟨h1, h2⟩, h3⟩, h4⟩
    have hs : ∀ i (hi : i + 1 < rs.length), LessR (rs[i]'(by omega)) rs[i + 1] := fun i hi => by
      have := h4 (i + 1) hi
      simp only [rowOkAt, List.getElem?_eq_getElem hi, Nat.add_sub_cancel, List.getElem?_eq_getElem (show i < rs.length by omega), Bool.and_eq_true] at this
      simpa [LessR] using this.2
    refine ⟨h1, h2, h3, fun r hr => ?_, ?_⟩
    · obtain ⟨i, hi, rfl⟩ := List.mem_iff_getElem.1 hr
      have := h4 i hi
      simp only [rowOkAt, List.getElem?_eq_getElem hi, Bool.and_eq_true] at this
      exact this.1
    · rw [List.pairwise_iff_getElem]
      intro i j hi hj hij
      induction j with
      | zero => omega
      | succ j ih =>
        by_cases e : i = j
        · subst e; exact hs i hj
        · exact (ih (by omega) (by omega)).trans (hs j hj)
  · rintro ⟨h1, h2, h3, h4, h5⟩
    refine ⟨⟨⟨h1, h2⟩, h3⟩, fun i hi => ?_⟩
    simp only [rowOkAt, List.getElem?_eq_getElem hi, h4 _ (List.getElem_mem hi), Bool.true_and]
    cases i with
    | zero => simp
    | succ i =>
      rw [List.pairwise_iff_getElem] at h5
      have := h5 i (i + 1) (by omega) hi (by omega)
      simp only [Nat.add_sub_cancel, List.getElem?_eq_getElem (show i < rs.length by omega)]
      simpa [LessR] using this
end Go.Proofs.YtibabfedpdoofaaGreatDoor
namespace Go.Proofs.YtibabfedpdoofaaGreatDoor
open Go.RowKit Go.Own

/-- The row of a deed, by the document. -/
def rowOf (A : InS) (o d : Int) : Option RowS := if keyOk o d = true then (A.rows (partyOf d)).find? (fun r => decide (r.o = o) && decide (r.d = d)) else none
def amtOf (x : Option RowS) : Int := match x with
  | some r => if r.code = 1 then r.amt else 0
  | none => 0
def netI (A : InS) (order : Int) : Int := amtOf (rowOf A order 1) - amtOf (rowOf A order 4)
set_option maxRecDepth 100000 in
theorem keyLit_ok {o d : Int} (h1 : (Lit.int .i64 o).wf = true) (h2 : (Lit.int .i64 d).wf = true) : WideAt.IsKeyLit (keyLit o d) := by
  have := keyOf_lit h1 h2
  exact Go.Maps.Keyed.key keyKeyed this
theorem key_self (l : Lit) (h : WideAt.IsKeyLit l) : l.sameKey l = true := WideAt.sameKey_self h
theorem putRows_none {o d : Int} (h1 : (Lit.int .i64 o).wf = true) (h2 : (Lit.int .i64 d).wf = true) : ∀ (rs : List RowS) (f : Lit → Option Value), (∀ r ∈ rs, (Lit.int .i64 r.o).wf = true ∧ (Lit.int .i64 r.d).wf = true) → (∀ r ∈ rs, ¬ (r.o = o ∧ r.d = d)) → putRows f rs (keyLit o d) = f (keyLit o d)
  | [], _, _, _ => rfl
  | r :: rs, f, hw, hn => by
    rw [putRows, putRows_none h1 h2 rs _ (fun x hx => hw x (by simp [hx])) (fun x hx => hn x (by simp [hx]))]
    unfold updF
    rw [if_neg]
    intro hs
    have hk := WideAt.sameKey_eq hs
    obtain ⟨w1, w2⟩ := hw r (by simp)
    obtain ⟨e1, e2⟩ := keyLit_inj h1 h2 w1 w2 hk
    exact hn r (by simp) ⟨e1.symm, e2.symm⟩
set_option maxRecDepth 100000 in
theorem putRows_some {o d : Int} (h1 : (Lit.int .i64 o).wf = true) (h2 : (Lit.int .i64 d).wf = true) {r : RowS} (hr : r.o = o ∧ r.d = d) : ∀ (rs : List RowS) (f : Lit → Option Value), (∀ r ∈ rs, (Lit.int .i64 r.o).wf = true ∧ (Lit.int .i64 r.d).wf = true) → r ∈ rs → (∀ x ∈ rs, x.o = o ∧ x.d = d → x = r) → putRows f rs (keyLit o d) = some r.v
  | [], _, _, hm, _ => by cases hm
  | x :: rs, f, hw, hm, hu => by
    rw [putRows]
    by_cases hin : r ∈ rs
    · exact putRows_some h1 h2 hr rs _ (fun y hy => hw y (by simp [hy])) hin (fun y hy => hu y (by simp [hy]))
    · have hx : r = x := by
        rcases List.mem_cons.1 hm with h | h
        · exact h
        · exact absurd h hin
      subst hx
      rw [putRows_none h1 h2 rs _ (fun y hy => hw y (by simp [hy])) (fun y hy hk => hin (by rw [← hu y (by simp [hy]) hk]; exact hy))]
      rw [hr.1, hr.2]
      have hs := key_self (keyLit o d) (keyLit_ok h1 h2)
      generalize keyLit o d = l at *
      exact if_pos hs
theorem row_party {rs : List RowS} {p : Int} (h : chkRows rs p = true) {r : RowS} (hr : r ∈ rs) : keyOk r.o r.d = true ∧ partyOf r.d = p := by
  obtain ⟨_, _, _, h4, _⟩ := chkRows_iff.1 h
  have := h4 r hr
  simp only [mayRow, Bool.and_eq_true, decide_eq_true_eq] at this
  exact ⟨this.1.1.1, this.1.1.2⟩
theorem row_unique {rs : List RowS} {p : Int} (h : chkRows rs p = true) {r s : RowS} (hr : r ∈ rs) (hs : s ∈ rs) (e1 : r.o = s.o) (e2 : r.d = s.d) : r = s := by
  obtain ⟨_, _, _, _, h5⟩ := chkRows_iff.1 h
  rw [List.pairwise_iff_getElem] at h5
  obtain ⟨i, hi, rfl⟩ := List.mem_iff_getElem.1 hr
  obtain ⟨j, hj, rfl⟩ := List.mem_iff_getElem.1 hs
  rcases Nat.lt_trichotomy i j with h | h | h
  · have := h5 i j hi hj h
    simp only [LessR, keyLess, Bool.or_eq_true, Bool.and_eq_true, decide_eq_true_eq] at this
    omega
  · subst h; rfl
  · have := h5 j i hj hi h
    simp only [LessR, keyLess, Bool.or_eq_true, Bool.and_eq_true, decide_eq_true_eq] at this
    omega
theorem mem_rows {A : InS} (h : InOk A) {r : RowS} (hr : r ∈ A.r0 ++ (A.r1 ++ A.r2)) : r ∈ A.rows (partyOf r.d) ∧ keyOk r.o r.d = true := by
  obtain ⟨a, b, c⟩ := h
  rcases List.mem_append.1 hr with h | h
  · obtain ⟨k, p⟩ := row_party a h
    exact ⟨by rw [p]; exact h, k⟩
  · rcases List.mem_append.1 h with h | h
    · obtain ⟨k, p⟩ := row_party b h
      exact ⟨by rw [p]; exact h, k⟩
    · obtain ⟨k, p⟩ := row_party c h
      exact ⟨by rw [p]; exact h, k⟩
theorem rows_mem {A : InS} {p : Int} {r : RowS} (hr : r ∈ A.rows p) : r ∈ A.r0 ++ (A.r1 ++ A.r2) := by
  unfold InS.rows at hr
  split at hr
  · simp [hr]
  · split at hr <;> simp [hr]
theorem rows_chk {A : InS} (h : InOk A) {d : Int} {o : Int} (hk : keyOk o d = true) : chkRows (A.rows (partyOf d)) (partyOf d) = true := by
  obtain ⟨a, b, c⟩ := h
  have hd : 0 ≤ d ∧ d < 6 := by simp only [keyOk, isDeed, Bool.and_eq_true, decide_eq_true_eq] at hk; omega
  have : partyOf d = 0 ∨ partyOf d = 1 ∨ partyOf d = 2 := by unfold partyOf; omega
  rcases this with e | e | e <;> rw [e]
  · exact a
  · exact b
  · exact c
theorem row_wf {A : InS} (h : InOk A) {r : RowS} (hr : r ∈ A.r0 ++ (A.r1 ++ A.r2)) : (Lit.int .i64 r.o).wf = true ∧ (Lit.int .i64 r.d).wf = true := by
  have hk := (mem_rows h hr).2
  simp only [keyOk, isDeed, Bool.and_eq_true, decide_eq_true_eq] at hk
  exact ⟨wf_small (by omega) (by omega), wf_small (by omega) (by omega)⟩
theorem allF_row {A : InS} (h : InOk A) {o d : Int} (h1 : (Lit.int .i64 o).wf = true) (h2 : (Lit.int .i64 d).wf = true) : allF A (keyLit o d) = (rowOf A o d).map RowS.v := by
  unfold allF rowOf
  by_cases hk : keyOk o d = true
  · rw [if_pos hk]
    cases hf : (A.rows (partyOf d)).find? (fun r => decide (r.o = o) && decide (r.d = d)) with
    | none =>
      rw [putRows_none h1 h2 _ _ (fun r hr => row_wf h hr)]
      · rfl
      · rintro r hr ⟨e1, e2⟩
        have := List.find?_eq_none.1 hf r (by have := (mem_rows h hr).1; rwa [e2] at this)
        simp [e1, e2] at this
    | some r =>
      have hm := List.mem_of_find?_eq_some hf
      have he := List.find?_some hf
      simp only [Bool.and_eq_true, decide_eq_true_eq] at he
      exact putRows_some h1 h2 he _ _ (fun r hr => row_wf h hr) (rows_mem hm) (fun x hx hxk => row_unique (rows_chk h hk) (by have := (mem_rows h hx).1; rwa [hxk.2] at this) hm (by omega) (by omega))
  · rw [if_neg hk, putRows_none h1 h2 _ _ (fun r hr => row_wf h hr)]
    · rfl
    · rintro r hr ⟨e1, e2⟩
      have := (mem_rows h hr).2
      rw [e1, e2] at this
      exact hk this
theorem rowOf_bound {A : InS} (h : InOk A) (o d : Int) : 0 ≤ amtOf (rowOf A o d) ∧ amtOf (rowOf A o d) ≤ 1099511627776 := by
  unfold amtOf
  cases hr : rowOf A o d with
  | none => exact ⟨by decide, by decide⟩
  | some r =>
    simp only
    unfold rowOf at hr
    split at hr
    · rename_i hk
      have hm := List.mem_of_find?_eq_some hr
      obtain ⟨_, _, _, h4, _⟩ := chkRows_iff.1 (rows_chk h hk)
      have := rowBounds (h4 r hm)
      split
      · omega
      · exact ⟨by decide, by decide⟩
    · cases hr
end Go.Proofs.YtibabfedpdoofaaGreatDoor
namespace Go.Proofs.YtibabfedpdoofaaGreatDoor
open Go.RowKit Go.Own Go.Maps

/-- An intake's map: none, or one that bears g. -/
def MapIs (m : Value) (g : Lit → Option Value) (W : World) : Prop := (m = .map none ∧ ∀ l, g l = none) ∨ ∃ b n, m = .map (some b) ∧ (mapE Tryz.prog 29 b n g).F W
theorem MapIs.below {m : Value} {g : Lit → Option Value} {W w : World} (h : MapIs m g W) (hb : Below W.heap.size W w) : MapIs m g w := by
  rcases h with h | ⟨b, n, rfl, hF⟩
  · exact .inl h
  · refine .inr ⟨b, n, rfl, mapE_ok _ _ _ _ _ W w (fun b' hb' => ?_) hF⟩
    obtain rfl := List.mem_singleton.1 hb'
    obtain ⟨D, hD, _⟩ := hF
    exact hb.block _ hD.lt
theorem MapIs.form {m : Value} {g : Lit → Option Value} {W : World} (h : MapIs m g W) : m = .map none ∨ ∃ b, m = .map (some b) := by
  rcases h with h | ⟨b, n, rfl, hF⟩
  · exact .inl h.1
  · exact .inr ⟨b, rfl⟩
def rowT (x : Option RowS) : Value := match x with
  | some r => .agg #[.int .i64 r.o, .int .i64 r.d, .int .i64 r.code, .int .i64 r.amt, .int .i64 r.qty]
  | none => .agg #[.int .i64 0, .int .i64 0, .int .i64 0, .int .i64 0, .int .i64 0]

set_option maxHeartbeats 8000000 in
set_option maxRecDepth 100000 in
theorem intAmount_any {W : World} {v0 v1 v2 m : Value} {g : Lit → Option Value} (A : InS) (o d : Int) (x : Option RowS) (h0 : IsRows W v0 A.r0) (h1 : IsRows W v1 A.r1) (h2 : IsRows W v2 A.r2) (hm : MapIs m g W) (w1 : (Lit.int .i64 o).wf = true) (w2 : (Lit.int .i64 d).wf = true) (hx : g (keyLit o d) = x.map RowS.v) :
    Calls Tryz.prog 160 #[.agg #[.int .i64 (A).p0, .int .i64 (A).q0, v0, .int .i64 (A).p1, .int .i64 (A).q1, v1, .int .i64 (A).p2, .int .i64 (A).q2, v2, m], .int .i64 o, .int .i64 d] W fun e w' => e = .returned (.int .i64 (amtOf x)) ∧ Below W.heap.size W w' := by
  obtain ⟨s0, c0, rfl, -⟩ := h0.slice
  obtain ⟨s1, c1, rfl, -⟩ := h1.slice
  obtain ⟨s2, c2, rfl, -⟩ := h2.slice
  generalize A.r0.length = n0 at *
  generalize A.r1.length = n1 at *
  generalize A.r2.length = n2 at *
  have HK := Lib.hid (keyOf_lit w1 w2)
  have HO := Own.start W
  clear h0 h1 h2 w1 w2
  rcases hm with ⟨rfl, hg⟩ | ⟨b, n, rfl, hF⟩
  · rw [hg] at hx
    cases x with
    | some r => cases hx
    | none =>
      clear hg hx
      go_enter Tryz.func160, Tryz.ntmps160
      go_wp2_with (first | ((with_reducible apply wpList_boxAgg _ HO rfl); exact rfl; exact rfl; exact rfl; clear HO; intro b2 w HO; (simp only [Act.put, zA, zB, zC])) | (first | go_big_skip | ((with_reducible apply wpList_loadOne HO); exact rfl; exact rfl; (repeat (with_reducible (exact At.head _))); exact rfl; infer_instance; exact rfl; (simp only [Act.put, zA, zB, zC]))) | ((with_reducible apply wpList_storeAll HO); exact rfl; exact rfl; exact rfl; (repeat (with_reducible (exact At.head _))); infer_instance; exact rfl; exact rfl; exact rfl; exact rfl; clear HO; intro w HO; (simp only [Act.put])) | ((with_reducible apply wpList_mapLookNil (kt := 29) (et := 160)); exact rfl; exact rfl; exact rfl; exact keyKeyed; exact Tryz.underlying139; infer_instance; exact HK.out; exact rfl; (simp only [Act.put, zA, zB, zC])) | (((with_reducible apply wpList_allocAgg _ HO rfl); exact rfl; infer_instance; exact rfl; clear HO; intro b4 w HO; (simp only [Act.put, zA, zB, zC]))))
      go_ret
      exact ⟨rfl, HO.grown⟩
  · have HF := Lib.hid hF
    have HX := Lib.hid hx
    clear hF hx
    cases x with
    | none =>
      replace HX := Lib.hid (show g (keyLit o d) = none from HX.out)
      go_enter Tryz.func160, Tryz.ntmps160
      go_wp2_with (first | ((with_reducible apply wpList_boxAgg _ HO rfl); exact rfl; exact rfl; exact rfl; clear HO; intro b2 w HO; (simp only [Act.put, zA, zB, zC])) | (first | go_big_skip | ((with_reducible apply wpList_loadOne HO); exact rfl; exact rfl; (repeat (with_reducible (exact At.head _))); exact rfl; infer_instance; exact rfl; (simp only [Act.put, zA, zB, zC]))) | ((with_reducible apply wpList_storeAll HO); exact rfl; exact rfl; exact rfl; (repeat (with_reducible (exact At.head _))); infer_instance; exact rfl; exact rfl; exact rfl; exact rfl; clear HO; intro w HO; (simp only [Act.put])) | ((with_reducible apply wpList_mapLookOld HO (kt := 29) (et := 160)); exact rfl; exact rfl; exact rfl; exact HF.out; exact keyKeyed; exact Tryz.underlying139; infer_instance; exact HK.out; (rw [HX.out]); exact rfl; (simp only [Act.put, zA, zB, zC])) | (((with_reducible apply wpList_allocAgg _ HO rfl); exact rfl; infer_instance; exact rfl; clear HO; intro b4 w HO; (simp only [Act.put, zA, zB, zC]))))
      go_ret
      exact ⟨rfl, HO.grown⟩
    | some r =>
      obtain ⟨ro, rd, rc, ra, rq⟩ := r
      replace HX := Lib.hid (show g (keyLit o d) = some (.agg #[.int .i64 ro, .int .i64 rd, .int .i64 rc, .int .i64 ra, .int .i64 rq]) from HX.out)
      by_cases hc : rc = 1
      · subst hc
        go_enter Tryz.func160, Tryz.ntmps160
        go_wp2_with (first | ((with_reducible apply wpList_boxAgg _ HO rfl); exact rfl; exact rfl; exact rfl; clear HO; intro b2 w HO; (simp only [Act.put, zA, zB, zC])) | (((with_reducible apply wpList_loadOne HO); exact rfl; exact rfl; (repeat (with_reducible (exact At.head _))); exact rfl; infer_instance; exact rfl; (simp only [Act.put, zA, zB, zC]))) | ((with_reducible apply wpList_storeAll HO); exact rfl; exact rfl; exact rfl; (repeat (with_reducible (exact At.head _))); infer_instance; exact rfl; exact rfl; exact rfl; exact rfl; clear HO; intro w HO; (simp only [Act.put])) | ((with_reducible apply wpList_mapLookOld HO (kt := 29) (et := 160)); exact rfl; exact rfl; exact rfl; exact HF.out; exact keyKeyed; exact Tryz.underlying139; infer_instance; exact HK.out; (rw [HX.out]); exact rfl; (simp only [Act.put, zA, zB, zC])) | (((with_reducible apply wpList_allocAgg _ HO rfl); exact rfl; infer_instance; exact rfl; clear HO; intro b4 w HO; (simp only [Act.put, zA, zB, zC]))))
        go_ret
        exact ⟨rfl, HO.grown⟩
      · have HQ := Lib.hid (show amtOf (some ⟨ro, rd, rc, ra, rq⟩) = 0 by simp [amtOf, hc])
        have e1 : (rc == 1) = false := by simpa using hc
        have e2 : (rc != 1) = true := by simpa using hc
        clear hc
        go_enter Tryz.func160, Tryz.ntmps160
        go_wp2_with (first | ((with_reducible apply wpList_boxAgg _ HO rfl); exact rfl; exact rfl; exact rfl; clear HO; intro b2 w HO; (simp only [Act.put, zA, zB, zC])) | (((with_reducible apply wpList_loadOne HO); exact rfl; exact rfl; (repeat (with_reducible (exact At.head _))); exact rfl; infer_instance; exact rfl; (simp only [Act.put, zA, zB, zC]))) | ((with_reducible apply wpList_storeAll HO); exact rfl; exact rfl; exact rfl; (repeat (with_reducible (exact At.head _))); infer_instance; exact rfl; exact rfl; exact rfl; exact rfl; clear HO; intro w HO; (simp only [Act.put])) | ((with_reducible apply wpList_mapLookOld HO (kt := 29) (et := 160)); exact rfl; exact rfl; exact rfl; exact HF.out; exact keyKeyed; exact Tryz.underlying139; infer_instance; exact HK.out; (rw [HX.out]); exact rfl; (simp only [Act.put, zA, zB, zC])) | (((with_reducible apply wpList_allocAgg _ HO rfl); exact rfl; infer_instance; exact rfl; clear HO; intro b4 w HO; (simp only [Act.put, zA, zB, zC]))))
        go_ret
        exact ⟨by first | (rw [HQ.out]; done) | (rw [HQ.out]; rfl), HO.grown⟩

set_option maxHeartbeats 8000000 in
set_option maxRecDepth 100000 in
theorem intNet_any {W : World} {v0 v1 v2 m : Value} {g : Lit → Option Value} (A : InS) (o : Int) (h0 : IsRows W v0 A.r0) (h1 : IsRows W v1 A.r1) (h2 : IsRows W v2 A.r2) (hA : InOk A) (hm : MapIs m g W) (hg : ∀ o d, (Lit.int .i64 o).wf = true → (Lit.int .i64 d).wf = true → g (keyLit o d) = (rowOf A o d).map RowS.v) (w1 : (Lit.int .i64 o).wf = true) :
    Calls Tryz.prog 131 #[.agg #[.int .i64 (A).p0, .int .i64 (A).q0, v0, .int .i64 (A).p1, .int .i64 (A).q1, v1, .int .i64 (A).p2, .int .i64 (A).q2, v2, m], .int .i64 o] W fun e w' => e = .returned (.int .i64 (netI A o)) ∧ Below W.heap.size W w' := by
  have A1 : ∀ w, Below W.heap.size W w → Calls Tryz.prog 160 #[.agg #[.int .i64 (A).p0, .int .i64 (A).q0, v0, .int .i64 (A).p1, .int .i64 (A).q1, v1, .int .i64 (A).p2, .int .i64 (A).q2, v2, m], .int .i64 o, .int .i64 1] w fun e w' => e = .returned (.int .i64 (amtOf (rowOf A o 1))) ∧ Below w.heap.size w w' := fun w hb => intAmount_any A o 1 _ (h0.below hb h0.lt) (h1.below hb h1.lt) (h2.below hb h2.lt) (hm.below hb) w1 rfl (hg o 1 w1 rfl)
  have A4 : ∀ w, Below W.heap.size W w → Calls Tryz.prog 160 #[.agg #[.int .i64 (A).p0, .int .i64 (A).q0, v0, .int .i64 (A).p1, .int .i64 (A).q1, v1, .int .i64 (A).p2, .int .i64 (A).q2, v2, m], .int .i64 o, .int .i64 4] w fun e w' => e = .returned (.int .i64 (amtOf (rowOf A o 4))) ∧ Below w.heap.size w w' := fun w hb => intAmount_any A o 4 _ (h0.below hb h0.lt) (h1.below hb h1.lt) (h2.below hb h2.lt) (hm.below hb) w1 rfl (hg o 4 w1 rfl)
  have HQ := Lib.hid (show netI A o = amtOf (rowOf A o 1) - amtOf (rowOf A o 4) from rfl)
  obtain ⟨b1, b2⟩ := rowOf_bound hA o 1
  obtain ⟨b3, b4⟩ := rowOf_bound hA o 4
  generalize netI A o = z at *
  generalize amtOf (rowOf A o 1) = x1 at *
  generalize amtOf (rowOf A o 4) = x4 at *
  have hw : IntKind.i64.wrap (x1 - x4) = x1 - x4 := by
    simp [IntKind.wrap, IntKind.bits, IntKind.signed]; omega
  obtain ⟨s0, c0, rfl, -⟩ := h0.slice
  obtain ⟨s1, c1, rfl, -⟩ := h1.slice
  obtain ⟨s2, c2, rfl, -⟩ := h2.slice
  generalize A.r0.length = n0 at *
  generalize A.r1.length = n1 at *
  generalize A.r2.length = n2 at *
  have HO := Own.start W
  clear h0 h1 h2 hg b1 b2 b3 b4
  rcases hm.form with rfl | ⟨mb, rfl⟩
  all_goals
    clear hm
    go_enter Tryz.func131, Tryz.ntmps131
    go_wp2_with (((with_reducible apply wpList_boxAgg _ HO rfl); exact rfl; exact rfl; exact rfl; clear HO; intro b5 w HO; (simp only [Act.put, zA, zB, zC])))
    refine region_own HO (by kernel_rfl) (by kernel_rfl) ?_
    clear HO
    intro F HF
    repeat (first | (((with_reducible apply wpQuiet_loadAll HF); exact rfl; exact rfl; (repeat (with_reducible (exact At.head _))); infer_instance; exact rfl; exact rfl; (simp only [Act.put, zA, zB, zC]))) | go_big_quiet_step ((go_at_call 160; first | (with_reducible exact calls_fam HF (A1 _ (HF.own _).grown)) | (with_reducible exact calls_fam HF (A4 _ (HF.own _).grown)))))
    refine wpQuiet_nil ?_
    intro x
    have HO := HF.own x
    clear HF
    generalize F x = w at *
    clear x F
    go_wp2_with fail
    go_ret
    exact ⟨by first | (rw [HQ.out]; done) | (rw [HQ.out]; rfl), HO.grown⟩
end Go.Proofs.YtibabfedpdoofaaGreatDoor
namespace Go.Proofs.YtibabfedpdoofaaGreatDoor
open Go.RowKit Go.Own

/-- How each deed is. -/
structure D6 where
  a : Int
  b : Int
  c : Int
  d : Int
  e : Int
  f : Int
  x : Bool
deriving DecidableEq
/-- The order that a saga is of. -/
structure OrdS where
  id : Int
  ref : List UInt8
  sku : List UInt8
  qty : Int
  amt : Int
def sagaV (o : OrdS) (s : D6) : Value := .agg #[.int .i64 o.id, .string ⟨o.ref.toArray⟩, .string ⟨o.sku.toArray⟩, .int .i64 o.qty, .int .i64 o.amt,
  .int .i64 s.a, .int .i64 s.b, .int .i64 s.c, .int .i64 s.d, .int .i64 s.e, .int .i64 s.f, .bool s.x]
def ordV (o : OrdS) : Value := .agg #[.int .i64 o.id, .string ⟨o.ref.toArray⟩, .string ⟨o.sku.toArray⟩, .int .i64 o.qty, .int .i64 o.amt]

def waitsOf (s : D6) : Int × Bool := if s.a = 1 then (0, true) else if s.b = 1 then (1, true) else if s.c = 1 then (2, true) else if s.d = 1 then (3, true) else if s.e = 1 then (4, true) else if s.f = 1 then (5, true) else (0, false)
def backOf (s : D6) : Bool := s.x || decide (s.a = 3) || decide (s.b = 3) || decide (s.c = 3)

set_option maxHeartbeats 2000000 in
set_option maxRecDepth 100000 in
theorem waits_any (o : OrdS) (s : D6) (w : World) : Calls Tryz.prog 98 #[sagaV o s] w fun e w' => e = .returned (.tuple #[.int .i64 (waitsOf s).1, .bool (waitsOf s).2]) ∧ Below w.heap.size w w' := by
  obtain ⟨a, b, c, d, e, f, x⟩ := s
  simp only [sagaV]
  have HQ := Lib.hid (show waitsOf ⟨a, b, c, d, e, f, x⟩ = waitsOf ⟨a, b, c, d, e, f, x⟩ from rfl)
  conv at HQ => arg 1; rhs; unfold waitsOf
  simp only at HQ
  have i0 : ∀ w, (Instr.index 70 (.agg #[.int .i64 a, .int .i64 b, .int .i64 c, .int .i64 d, .int .i64 e, .int .i64 f]) (.int .i64 0)).run Tryz.prog w = .ok (.int .i64 a) w := fun _ => by kernel_rfl
  have i1 : ∀ w, (Instr.index 70 (.agg #[.int .i64 a, .int .i64 b, .int .i64 c, .int .i64 d, .int .i64 e, .int .i64 f]) (.int .i64 1)).run Tryz.prog w = .ok (.int .i64 b) w := fun _ => by kernel_rfl
  have i2 : ∀ w, (Instr.index 70 (.agg #[.int .i64 a, .int .i64 b, .int .i64 c, .int .i64 d, .int .i64 e, .int .i64 f]) (.int .i64 2)).run Tryz.prog w = .ok (.int .i64 c) w := fun _ => by kernel_rfl
  have i3 : ∀ w, (Instr.index 70 (.agg #[.int .i64 a, .int .i64 b, .int .i64 c, .int .i64 d, .int .i64 e, .int .i64 f]) (.int .i64 3)).run Tryz.prog w = .ok (.int .i64 d) w := fun _ => by kernel_rfl
  have i4 : ∀ w, (Instr.index 70 (.agg #[.int .i64 a, .int .i64 b, .int .i64 c, .int .i64 d, .int .i64 e, .int .i64 f]) (.int .i64 4)).run Tryz.prog w = .ok (.int .i64 e) w := fun _ => by kernel_rfl
  have i5 : ∀ w, (Instr.index 70 (.agg #[.int .i64 a, .int .i64 b, .int .i64 c, .int .i64 d, .int .i64 e, .int .i64 f]) (.int .i64 5)).run Tryz.prog w = .ok (.int .i64 f) w := fun _ => by kernel_rfl
  go_enter Tryz.func98, Tryz.ntmps98
  go_wp2_with fail
  refine wp_loop_rounds 7 ?_
  rw [rounds_succ]
  go_wp2_with fail
  all_goals (try (rw [rounds_succ]; go_wp2_with fail))
  all_goals (try (rw [rounds_succ]; go_wp2_with fail))
  all_goals (try (rw [rounds_succ]; go_wp2_with fail))
  all_goals (try (rw [rounds_succ]; go_wp2_with fail))
  all_goals (try (rw [rounds_succ]; go_wp2_with fail))
  all_goals (try (rw [rounds_succ]; go_wp2_with fail))
  all_goals go_ret2
  all_goals refine ⟨?_, (by with_reducible (repeat (first | exact Below.refl _ _ | refine Below.alloc ?_ (by first | (simp; done) | omega | (simp; omega)) _)))⟩
  all_goals (rw [HQ.out]; clear i0 i1 i2 i3 i4 i5; simp_all)

set_option maxHeartbeats 2000000 in
set_option maxRecDepth 100000 in
theorem refWaits_any (o : OrdS) (s : D6) (w : World) : Calls Tryz.prog 118 #[sagaV o s] w fun e w' => e = .returned (.tuple #[.int .i64 (waitsOf s).1, .bool (waitsOf s).2]) ∧ Below w.heap.size w w' := by
  obtain ⟨a, b, c, d, e, f, x⟩ := s
  simp only [sagaV]
  have HQ := Lib.hid (show waitsOf ⟨a, b, c, d, e, f, x⟩ = waitsOf ⟨a, b, c, d, e, f, x⟩ from rfl)
  conv at HQ => arg 1; rhs; unfold waitsOf
  simp only at HQ
  go_enter Tryz.func118, Tryz.ntmps118
  go_wp2_with fail
  refine wp_loop_rounds 7 ?_
  rw [rounds_succ]
  go_wp2_with fail
  all_goals (try (rw [rounds_succ]; go_wp2_with fail))
  all_goals (try (rw [rounds_succ]; go_wp2_with fail))
  all_goals (try (rw [rounds_succ]; go_wp2_with fail))
  all_goals (try (rw [rounds_succ]; go_wp2_with fail))
  all_goals (try (rw [rounds_succ]; go_wp2_with fail))
  all_goals (try (rw [rounds_succ]; go_wp2_with fail))
  all_goals go_ret2
  all_goals refine ⟨?_, (by with_reducible (repeat (first | exact Below.refl _ _ | refine Below.alloc ?_ (by first | (simp; done) | omega | (simp; omega)) _)))⟩
  all_goals (rw [HQ.out]; ((simp_all; done)))

set_option maxHeartbeats 2000000 in
set_option maxRecDepth 100000 in
theorem back_any (o : OrdS) (s : D6) (w : World) : Calls Tryz.prog 99 #[sagaV o s] w fun e w' => e = .returned (.bool (backOf s)) ∧ Below w.heap.size w w' := by
  obtain ⟨a, b, c, d, e, f, x⟩ := s
  simp only [sagaV]
  have HQ := Lib.hid (show backOf ⟨a, b, c, d, e, f, x⟩ = (x || decide (a = 3) || decide (b = 3) || decide (c = 3)) from rfl)
  cases x
  · by_cases ha : a = 3
    · subst ha
      go_enter Tryz.func99, Tryz.ntmps99
      go_wp2_with fail
      refine wp_loop_rounds 4 ?_
      rw [rounds_succ]
      go_wp2_with fail
      all_goals (try (rw [rounds_succ]; go_wp2_with fail))
      all_goals (try (rw [rounds_succ]; go_wp2_with fail))
      all_goals (try (rw [rounds_succ]; go_wp2_with fail))
      all_goals go_ret
      all_goals refine ⟨ret_bool ?_, (by with_reducible (repeat (first | exact Below.refl _ _ | refine Below.alloc ?_ (by first | (simp; done) | omega | (simp; omega)) _)))⟩
      all_goals (rw [HQ.out]; ((simp_all; done)))
    · have hab : (a == 3) = false := by simpa using ha
      by_cases hb : b = 3
      · subst hb
        clear ha
        go_enter Tryz.func99, Tryz.ntmps99
        go_wp2_with fail
        refine wp_loop_rounds 4 ?_
        rw [rounds_succ]
        go_wp2_with fail
        all_goals (try (rw [rounds_succ]; go_wp2_with fail))
        all_goals (try (rw [rounds_succ]; go_wp2_with fail))
        all_goals (try (rw [rounds_succ]; go_wp2_with fail))
        all_goals go_ret
        all_goals refine ⟨ret_bool ?_, (by with_reducible (repeat (first | exact Below.refl _ _ | refine Below.alloc ?_ (by first | (simp; done) | omega | (simp; omega)) _)))⟩
        all_goals (rw [HQ.out]; ((simp_all; done)))
      · have hbb : (b == 3) = false := by simpa using hb
        clear ha hb
        go_enter Tryz.func99, Tryz.ntmps99
        go_wp2_with fail
        refine wp_loop_rounds 4 ?_
        rw [rounds_succ]
        go_wp2_with fail
        all_goals (try (rw [rounds_succ]; go_wp2_with fail))
        all_goals (try (rw [rounds_succ]; go_wp2_with fail))
        all_goals (try (rw [rounds_succ]; go_wp2_with fail))
        all_goals go_ret
        all_goals refine ⟨ret_bool ?_, (by with_reducible (repeat (first | exact Below.refl _ _ | refine Below.alloc ?_ (by first | (simp; done) | omega | (simp; omega)) _)))⟩
        all_goals (rw [HQ.out]; ((simp_all; rw [Bool.eq_iff_iff]; simp; done)))
  · go_enter Tryz.func99, Tryz.ntmps99
    go_wp2_with fail
    refine wp_loop_rounds 4 ?_
    rw [rounds_succ]
    go_wp2_with fail
    all_goals (try (rw [rounds_succ]; go_wp2_with fail))
    all_goals (try (rw [rounds_succ]; go_wp2_with fail))
    all_goals (try (rw [rounds_succ]; go_wp2_with fail))
    all_goals go_ret
    all_goals refine ⟨ret_bool ?_, (by with_reducible (repeat (first | exact Below.refl _ _ | refine Below.alloc ?_ (by first | (simp; done) | omega | (simp; omega)) _)))⟩
    all_goals (rw [HQ.out]; ((simp_all; done)))

set_option maxHeartbeats 2000000 in
set_option maxRecDepth 100000 in
theorem refBack_any (o : OrdS) (s : D6) (w : World) : Calls Tryz.prog 124 #[sagaV o s] w fun e w' => e = .returned (.bool (backOf s)) ∧ Below w.heap.size w w' := by
  obtain ⟨a, b, c, d, e, f, x⟩ := s
  simp only [sagaV]
  have HQ := Lib.hid (show backOf ⟨a, b, c, d, e, f, x⟩ = (x || decide (a = 3) || decide (b = 3) || decide (c = 3)) from rfl)
  cases x
  · by_cases ha : a = 3
    · subst ha
      go_enter Tryz.func124, Tryz.ntmps124
      go_wp2_with fail
      all_goals go_ret
      all_goals refine ⟨ret_bool ?_, (by with_reducible (repeat (first | exact Below.refl _ _ | refine Below.alloc ?_ (by first | (simp; done) | omega | (simp; omega)) _)))⟩
      all_goals (rw [HQ.out]; ((simp_all; done)))
    · have hab : (a == 3) = false := by simpa using ha
      by_cases hb : b = 3
      · subst hb
        clear ha
        go_enter Tryz.func124, Tryz.ntmps124
        go_wp2_with fail
        all_goals go_ret
        all_goals refine ⟨ret_bool ?_, (by with_reducible (repeat (first | exact Below.refl _ _ | refine Below.alloc ?_ (by first | (simp; done) | omega | (simp; omega)) _)))⟩
        all_goals (rw [HQ.out]; ((simp_all; done)))
      · have hbb : (b == 3) = false := by simpa using hb
        clear ha hb
        go_enter Tryz.func124, Tryz.ntmps124
        go_wp2_with fail
        all_goals go_ret
        all_goals refine ⟨ret_bool ?_, (by with_reducible (repeat (first | exact Below.refl _ _ | refine Below.alloc ?_ (by first | (simp; done) | omega | (simp; omega)) _)))⟩
        all_goals (rw [HQ.out]; ((simp_all; rw [Bool.eq_iff_iff]; simp; done)))
  · go_enter Tryz.func124, Tryz.ntmps124
    go_wp2_with fail
    all_goals go_ret
    all_goals refine ⟨ret_bool ?_, (by with_reducible (repeat (first | exact Below.refl _ _ | refine Below.alloc ?_ (by first | (simp; done) | omega | (simp; omega)) _)))⟩
    all_goals (rw [HQ.out]; ((simp_all; done)))
end Go.Proofs.YtibabfedpdoofaaGreatDoor
namespace Go.Proofs.YtibabfedpdoofaaGreatDoor
open Go.RowKit Go.Own

def sagaL (x : OrdS × D6) : List Value := [.int .i64 x.1.id, .string ⟨x.1.ref.toArray⟩, .string ⟨x.1.sku.toArray⟩, .int .i64 x.1.qty, .int .i64 x.1.amt,
  .int .i64 x.2.a, .int .i64 x.2.b, .int .i64 x.2.c, .int .i64 x.2.d, .int .i64 x.2.e, .int .i64 x.2.f, .bool x.2.x]
end Go.Proofs.YtibabfedpdoofaaGreatDoor
namespace Go.Proofs.YtibabfedpdoofaaGreatDoor
open Go.RowKit Go.Own Go.Maps

/-- What a core is: its sagas, its postings. -/
structure CoS where
  L : List (OrdS × D6)
  P : List Pst
def coC (v : Value) (k : Nat) (A : InS) (v0 v1 v2 m : Value) : List Value := [v, .pointer (some ⟨k, 0, none⟩), .int .i64 A.p0, .int .i64 A.q0, v0, .int .i64 A.p1, .int .i64 A.q1, v1, .int .i64 A.p2, .int .i64 A.q2, v2, m]
/-- Where a core lies: its block, its sagas' slice, the books' block, slice and maps. -/
structure CoA where
  c : Nat
  v : Value
  k : Nat
  u : Value
  pm : Nat
  bm : Nat
/-- Where an intake lies. -/
structure InA where
  v0 : Value
  v1 : Value
  v2 : Value
  m : Value
structure CoAt (w : World) (a : CoA) (S : CoS) (i : InA) (A : InS) : Prop where
  box : w.heap[a.c]? = some (.cells (coC a.v a.k A i.v0 i.v1 i.v2 i.m).toArray 143)
  row : IsL w 12 a.v (S.L.map sagaL)
  bk : BkAt w a.k a.u a.pm a.bm S.P
theorem CoAt.below {w w' : World} {a : CoA} {S : CoS} {i : InA} {A : InS} (h : CoAt w a S i A) (hb : Below w.heap.size w w') : CoAt w' a S i A :=
  ⟨by rw [hb.block _ (old_lt h.box)]; exact h.box, h.row.below hb h.row.lt, h.bk.below hb⟩
set_option maxHeartbeats 4000000 in
theorem coNone_any {w : World} {a : CoA} {S : CoS} {i : InA} {A : InS} (h : CoAt w a S i A) : Calls Tryz.prog 66 #[.pointer (some ⟨a.c, 0, none⟩)] w fun e w' => e = .returned (.bool false) ∧ Below w.heap.size w w' := by
  have HO := Own.start w
  have h1 := old_cell h.box 1 rfl
  have hlt := old_lt h.box
  clear h
  go_enter Tryz.func66, Tryz.ntmps66
  go_wp2_with (((with_reducible apply wpList_loadOld1 HO); exact rfl; exact rfl; exact hlt; exact h1; infer_instance; exact rfl; (simp only [Act.put, zA, zB, zC])))
  go_ret
  exact ⟨rfl, HO.grown⟩

set_option maxHeartbeats 4000000 in
theorem coBal_any {w : World} {a : CoA} {S : CoS} {i : InA} {A : InS} (h : CoAt w a S i A) {n o : Int} (hn : inI n = true) (ho : inI o = true) : Calls Tryz.prog 50 #[.pointer (some ⟨a.c, 0, none⟩), .int .i64 n, .int .i64 o] w fun e w' => e = .returned (.int .i64 (bal S.P n o)) ∧ Below w.heap.size w w' := by
  have HO := Own.start w
  have N := fun w' (hb : Below w.heap.size w w') => coNone_any (h.below hb)
  have B := fun w' (hb : Below w.heap.size w w') => bkBal_any (h.bk.below hb) hn ho
  have h1 := old_cell h.box 1 rfl
  have hlt := old_lt h.box
  clear h
  go_enter Tryz.func50, Tryz.ntmps50
  go_wp2_with (first | ((with_reducible apply wpList_loadOld1 HO); exact rfl; exact rfl; exact hlt; exact h1; infer_instance; exact rfl; (simp only [Act.put, zA, zB, zC])) | (go_at_call 66; go_must ((with_reducible refine (N _ HO.grown).mono ?_); rintro e w ⟨rfl, hb⟩; replace HO := HO.call hb; clear hb)) | (go_at_call 52; go_must ((with_reducible refine (B _ HO.grown).mono ?_); rintro e w ⟨rfl, hb⟩; replace HO := HO.call hb; clear hb)))
  go_ret
  exact ⟨rfl, HO.grown⟩

def noSaga : Value := .agg #[.int .i64 0, .string ⟨#[]⟩, .string ⟨#[]⟩, .int .i64 0, .int .i64 0, .int .i64 0, .int .i64 0, .int .i64 0, .int .i64 0, .int .i64 0, .int .i64 0, .bool false]
/-- A core's answer to a number. -/
def ordAt (L : List (OrdS × D6)) (id : Int) : Option (OrdS × D6) := if 1 ≤ id then L[(id - 1).toNat]? else none
def ordR (x : Option (OrdS × D6)) : Value := match x with
  | some x => .tuple #[sagaV x.1 x.2, .int .i64 0]
  | none => .tuple #[noSaga, .int .i64 4]
theorem ordAt_no {L : List (OrdS × D6)} {id : Int} (h : id < 1 ∨ (L.length : Int) < id) : ordAt L id = none := by
  unfold ordAt
  split
  · exact List.getElem?_eq_none (by omega)
  · rfl
theorem ordAt_yes {L : List (OrdS × D6)} {id : Int} {j : Nat} (h : id = (j : Int) + 1) (hj : j < L.length) : ordAt L id = some L[j] := by
  subst h
  unfold ordAt
  rw [if_pos (by omega), show ((j : Int) + 1 - 1).toNat = j by omega, List.getElem?_eq_getElem hj]

set_option maxHeartbeats 8000000 in
set_option maxRecDepth 100000 in
theorem coOrder_any {w : World} {a : CoA} {S : CoS} {i : InA} {A : InS} (h : CoAt w a S i A) {id : Int} (hi : inI id = true) : Calls Tryz.prog 36 #[.pointer (some ⟨a.c, 0, none⟩), .int .i64 id] w fun e w' => e = .returned (ordR (ordAt S.L id)) ∧ Below w.heap.size w w' := by
  have HO := Own.start w
  have N := fun w' (hb : Below w.heap.size w w') => coNone_any (h.below hb)
  obtain ⟨p, c, hv, hmx⟩ := h.row.slice
  rw [List.length_map] at hv hmx
  have HR := Lib.hid h.row
  have h0 := old_cell h.box 0 rfl
  have hlt := old_lt h.box
  have hmx' : (S.L.length : Int) ≤ 9223372036854775807 := by unfold maxLen at hmx; omega
  have hi := inI_iff.1 hi
  rw [hv] at h0
  generalize ha : a.v = av at *
  subst hv
  clear h ha
  by_cases h1 : id < 1 ∨ (S.L.length : Int) < id
  · have HE := Lib.hid (ordAt_no h1)
    generalize ordAt S.L id = x at *
    obtain rfl := HE.out
    clear HE HR
    by_cases h2 : id < 1
    · clear h1
      go_enter Tryz.func36, Tryz.ntmps36
      go_wp2_with (first | ((with_reducible apply wpList_storeAll HO); exact rfl; exact rfl; exact rfl; (repeat (with_reducible (exact At.head _))); infer_instance; exact rfl; exact rfl; exact rfl; exact rfl; clear HO; intro w HO; (simp only [Act.put])) | (((with_reducible apply wpList_allocAgg _ HO rfl); exact rfl; infer_instance; exact rfl; clear HO; intro b3 w HO; (simp only [Act.put, zA, zB, zC]))) | (go_at_call 66; go_must ((with_reducible refine (N _ HO.grown).mono ?_); rintro e w ⟨rfl, hb⟩; replace HO := HO.call hb; clear hb)))
      refine bodyPost_ret (results_box HO rfl rfl (by (repeat (with_reducible (exact At.head _)))) inferInstance rfl rfl) rfl ?_
      exact ⟨rfl, HO.grown⟩
    · have h3 : (S.L.length : Int) < id := by omega
      clear h1
      go_enter Tryz.func36, Tryz.ntmps36
      go_wp2_with (first | ((with_reducible apply wpList_loadOld1 HO); exact rfl; exact rfl; exact hlt; exact h0; infer_instance; exact rfl; (simp only [Act.put, zA, zB, zC])) | ((with_reducible apply wpList_storeAll HO); exact rfl; exact rfl; exact rfl; (repeat (with_reducible (exact At.head _))); infer_instance; exact rfl; exact rfl; exact rfl; exact rfl; clear HO; intro w HO; (simp only [Act.put])) | (((with_reducible apply wpList_allocAgg _ HO rfl); exact rfl; infer_instance; exact rfl; clear HO; intro b3 w HO; (simp only [Act.put, zA, zB, zC]))) | (go_at_call 66; go_must ((with_reducible refine (N _ HO.grown).mono ?_); rintro e w ⟨rfl, hb⟩; replace HO := HO.call hb; clear hb)))
      refine bodyPost_ret (results_box HO rfl rfl (by (repeat (with_reducible (exact At.head _)))) inferInstance rfl rfl) rfl ?_
      exact ⟨rfl, HO.grown⟩
  · obtain ⟨j, hid⟩ : ∃ j : Nat, id = (j : Int) + 1 := ⟨(id - 1).toNat, by omega⟩
    have hj : j < S.L.length := by omega
    have hjI : (j : Int) < (S.L.length : Int) := by omega
    have n1 : ¬ (id < 1) := by omega
    have n2 : ¬ ((S.L.length : Int) < id) := by omega
    have e1 : IntKind.i64.wrap (id - 1) = (j : Int) := by rw [wrap_in (inI_iff.2 (by omega))]; omega
    have HE := Lib.hid (ordAt_yes (L := S.L) hid hj)
    obtain ⟨b, rfl, hst⟩ := oldAt HR.out rfl hj
    generalize ordAt S.L id = x at *
    generalize S.L[j] = y at *
    generalize S.L.length = n at *
    obtain rfl := HE.out
    obtain ⟨o, s⟩ := y
    unfold sagaL at hst
    replace hst := Lib.hid hst
    clear HE HR h1 hid
    go_enter Tryz.func36, Tryz.ntmps36
    go_wp2_with (first | ((with_reducible apply wpList_loadOld1 HO); exact rfl; exact rfl; exact hlt; exact h0; infer_instance; exact rfl; (simp only [Act.put, zA, zB, zC])) | ((with_reducible apply wpList_loadAt HO); exact rfl; exact rfl; exact (fun w' h1 => hst.out w' h1.grown); infer_instance; exact rfl; exact rfl; (simp only [Act.put, zA, zB, zC])) | ((with_reducible apply wpList_storeAll HO); exact rfl; exact rfl; exact rfl; (repeat (with_reducible (exact At.head _))); infer_instance; exact rfl; exact rfl; exact rfl; exact rfl; clear HO; intro w HO; (simp only [Act.put])) | (((with_reducible apply wpList_allocAgg _ HO rfl); exact rfl; infer_instance; exact rfl; clear HO; intro b3 w HO; (simp only [Act.put, zA, zB, zC]))) | (go_at_call 66; go_must ((with_reducible refine (N _ HO.grown).mono ?_); rintro e w ⟨rfl, hb⟩; replace HO := HO.call hb; clear hb)))
    refine bodyPost_ret (results_box HO rfl rfl (by (repeat (with_reducible (exact At.head _)))) inferInstance rfl rfl) rfl ?_
    exact ⟨rfl, HO.grown⟩

end Go.Proofs.YtibabfedpdoofaaGreatDoor
namespace Go.Proofs.YtibabfedpdoofaaGreatDoor
open Go.RowKit Go.Own

end Go.Proofs.YtibabfedpdoofaaGreatDoor
namespace Go.Proofs.YtibabfedpdoofaaGreatDoor
open Go.RowKit Go.Own Go.Maps

end Go.Proofs.YtibabfedpdoofaaGreatDoor
namespace Go.Proofs.YtibabfedpdoofaaGreatDoor
open Go.RowKit Go.Own Go.Maps

theorem find_step {α : Type} {f : α → Bool} {l : List α} {j : Nat} (hj : j < l.length) (h : (l.take j).find? f = none) : (f l[j] = true → l.find? f = some l[j]) ∧ (f l[j] = false → (l.take (j + 1)).find? f = none) := by
  constructor
  · intro hf
    have h2 : (l.take j ++ l.drop j).find? f = some l[j] := by rw [List.find?_append, h, List.drop_eq_getElem_cons hj, List.find?_cons, hf]; rfl
    rwa [List.take_append_drop] at h2
  · intro hf
    rw [List.take_succ_eq_append_getElem hj, List.find?_append, h]
    simp [hf]

set_option maxHeartbeats 8000000 in
set_option maxRecDepth 100000 in
theorem refRow_any {W : World} {v0 v1 v2 : Value} (A : InS) (o d : Int) (h0 : IsRows W v0 A.r0) (h1 : IsRows W v1 A.r1) (h2 : IsRows W v2 A.r2) :
    Calls Tryz.prog 137 #[.agg #[.int .i64 (A).p0, .int .i64 (A).q0, v0, .int .i64 (A).p1, .int .i64 (A).q1, v1, .int .i64 (A).p2, .int .i64 (A).q2, v2], .agg #[.int .i64 o, .int .i64 d]] W fun e w' => e = .returned (.tuple #[rowT (rowOf A o d), .bool (rowOf A o d).isSome]) ∧ Below W.heap.size W w' := by
  have K := fun w => refKeyCheck_any o d w
  have PA := fun w => refParty_any d w
  have HO := Own.start W
  cases hk : keyOk o d
  · have HQ := Lib.hid (show rowOf A o d = none by simp [rowOf, hk])
    rw [hk] at K
    obtain ⟨s0, c0, rfl, -⟩ := h0.slice
    obtain ⟨s1, c1, rfl, -⟩ := h1.slice
    obtain ⟨s2, c2, rfl, -⟩ := h2.slice
    generalize A.r0.length = n0 at *
    generalize A.r1.length = n1 at *
    generalize A.r2.length = n2 at *
    clear h0 h1 h2 hk PA
    go_enter Tryz.func137, Tryz.ntmps137
    go_wp2_with (first | ((with_reducible apply wpList_boxAgg _ HO rfl); exact rfl; exact rfl; exact rfl; clear HO; intro b2 w HO; (simp only [Act.put, zA, zB, zC])) | (((with_reducible apply wpList_loadAll HO); exact rfl; exact rfl; (repeat (with_reducible (first | exact At.head _ | apply At.tail))); infer_instance; exact rfl; exact rfl; (simp only [Act.put, zA, zB, zC]))) | ((with_reducible apply wpList_storeAll HO); exact rfl; exact rfl; exact rfl; (repeat (with_reducible (exact At.head _))); infer_instance; exact rfl; exact rfl; exact rfl; exact rfl; clear HO; intro w HO; (simp only [Act.put])) | ((with_reducible apply wpList_allocAgg _ HO rfl); exact rfl; infer_instance; exact rfl; clear HO; intro b4 w HO; (simp only [Act.put, zA, zB, zC])) | (go_at_call 161; go_must ((with_reducible refine (K _).mono ?_); rintro e w ⟨rfl, hb⟩; replace HO := HO.call hb; clear hb)))
    refine bodyPost_ret (results_box HO rfl rfl (by (repeat (with_reducible (exact At.head _)))) inferInstance rfl rfl) rfl ?_
    rw [HQ.out]
    exact ⟨rfl, HO.grown⟩
  · have hd : 0 ≤ d ∧ d < 6 := by simp only [keyOk, isDeed, Bool.and_eq_true, decide_eq_true_eq] at hk; omega
    have hp : partyOf d = 0 ∨ partyOf d = 1 ∨ partyOf d = 2 := by unfold partyOf; omega
    have HQ := Lib.hid (show rowOf A o d = (A.rows (partyOf d)).find? (fun r => decide (r.o = o) && decide (r.d = d)) by simp [rowOf, hk])
    rw [hk] at K
    clear hk hd
    rcases hp with hp | hp | hp
    · rw [hp] at PA HQ
      have HQ2 := Lib.hid (show rowOf A o d = A.r0.find? (fun r => decide (r.o = o) && decide (r.d = d)) from HQ.out)
      have HH := Lib.hid h0
      obtain ⟨s0, c0, rfl, -⟩ := h0.slice
      obtain ⟨s1, c1, rfl, -⟩ := h1.slice
      obtain ⟨s2, c2, rfl, -⟩ := h2.slice
      have hmx : (A.r0.length : Int) ≤ 9223372036854775807 := by have := h0.slice; obtain ⟨_, _, _, hm⟩ := this; unfold maxLen at hm; omega
      generalize A.r0 = rs at *
      generalize rowOf A o d = z at *
      clear h0 h1 h2 hp HQ
      go_enter Tryz.func137, Tryz.ntmps137
      go_wp2_with (first | ((have _h : Own W _ (box _ _ :: _) := HO); clear _h; ((with_reducible apply wpList_boxAgg _ HO rfl); exact rfl; exact rfl; exact rfl; clear HO; intro b3 w HO; (simp only [Act.put, zA, zB, zC]))) | ((with_reducible apply wpList_boxAgg _ HO rfl); exact rfl; exact rfl; exact rfl; clear HO; intro b2 w HO; (simp only [Act.put, zA, zB, zC])) | (first | ((with_reducible apply wpList_loadAll HO); exact rfl; exact rfl; (repeat (with_reducible (first | exact At.head _ | apply At.tail))); infer_instance; exact rfl; exact rfl; (simp only [Act.put, zA, zB, zC])) | ((with_reducible apply wpList_loadOne HO); exact rfl; exact rfl; (repeat (with_reducible (first | exact At.head _ | apply At.tail))); exact rfl; infer_instance; exact rfl; (simp only [Act.put, zA, zB, zC]))) | ((with_reducible apply wpList_allocAgg _ HO rfl); exact rfl; infer_instance; exact rfl; clear HO; intro b4 w HO; (simp only [Act.put, zA, zB, zC])) | (go_at_call 161; go_must ((with_reducible refine (K _).mono ?_); rintro e w ⟨rfl, hb⟩; replace HO := HO.call hb; clear hb)) | (go_at_call 164; go_must ((with_reducible refine (PA _).mono ?_); rintro e w ⟨rfl, hb⟩; replace HO := HO.call hb; clear hb)))
      go_loopw [7] (fun i wr => ∃ j : Nat, j ≤ rs.length ∧ i = .int .i64 (j : Int) ∧ (rs.take j).find? (fun r => decide (r.o = o) && decide (r.d = d)) = none ∧ Own W wr [box b4 (.cells #[.int .i64 0, .int .i64 0, .int .i64 0, .int .i64 0, .int .i64 0] 160), box b3 (.cells #[.int .i64 o, .int .i64 d] 29)]) (fun i _ => rs.length - (intOf i).toNat)
      case atStart => exact ⟨0, by omega, rfl, rfl, HO.sub (by with_reducible (repeat (first | exact List.Sublist.refl _ | apply List.Sublist.cons_cons | apply List.Sublist.cons)))⟩
      case round =>
        clear HO
        obtain ⟨j, hj, rfl, hf, HO⟩ := hrel
        by_cases hjl : j < rs.length
        · have hjI : (j : Int) < (rs.length : Int) := by omega
          obtain ⟨a, rfl, hcell⟩ := oldRow HH.out rfl hjl
          have hst := find_step hjl hf
          generalize rs[j] = r at *
          obtain ⟨ro, rd, rc, ra, rq⟩ := r
          simp only at hst
          have HCK := Lib.hid (fun (w' : World) (h1 : Own W w' [box b4 (.cells #[.int .i64 0, .int .i64 0, .int .i64 0, .int .i64 0, .int .i64 0] 160), box b3 (.cells #[.int .i64 o, .int .i64 d] 29)]) => (show ∀ i u, [Value.int .i64 ro, .int .i64 rd][i]? = some u → w'.cell? ((a.add (j * 5)).add i) = some u from fun i u hu => hcell w' _ h1 i u (by match i, hu with | 0, hu => exact hu | 1, hu => exact hu)))
          have HCR := Lib.hid (fun (w' : World) (h1 : Own W w' [box b4 (.cells #[.int .i64 0, .int .i64 0, .int .i64 0, .int .i64 0, .int .i64 0] 160), box b3 (.cells #[.int .i64 o, .int .i64 d] 29)]) => hcell w' _ h1)
          have RK := fun w => run_key_eql ro rd o d w
          have HST := Lib.hid hst
          clear hst hcell hf
          generalize hB : (decide (ro = o) && decide (rd = d)) = B at *
          clear hB
          go_wp2_with fail
          refine region_own HO (by kernel_rfl) (by kernel_rfl) ?_
          clear HO
          intro F HF
          repeat (first | (first | (((with_reducible apply wpQuiet_loadAll HF); exact rfl; exact rfl; (repeat (with_reducible (first | exact At.head _ | apply At.tail))); infer_instance; exact rfl; exact rfl; (simp only [Act.put, zA, zB, zC]))) | ((with_reducible apply wpQuiet_loadAt HF); exact rfl; exact rfl; exact (HCK.out); infer_instance; exact rfl; exact rfl; (simp only [Act.put, zA, zB, zC]))) | go_big_quiet_step (fail))
          refine wpQuiet_nil ?_
          intro x
          have HO := HF.own x
          clear HF
          generalize F x = w at *
          clear x F
          cases B
          · go_wp2_with fail
            go_roundw
            case rel => exact ⟨j + 1, by omega, by go_num, HST.out.2 (by first | rfl | trivial), HO⟩
            case measure => simp [intOf] <;> omega
          · go_wp2_with (first | ((with_reducible apply wpList_storeAll HO); exact rfl; exact rfl; exact rfl; (repeat (with_reducible (exact At.head _))); infer_instance; exact rfl; exact rfl; exact rfl; exact rfl; clear HO; intro w HO; (simp only [Act.put])) | ((with_reducible apply wpList_loadAt HO); exact rfl; exact rfl; exact (HCR.out); infer_instance; exact rfl; exact rfl; (simp only [Act.put, zA, zB, zC])))
            refine bodyPost_ret (results_box HO rfl rfl (by (repeat (with_reducible (exact At.head _)))) inferInstance rfl rfl) rfl ?_
            rw [HQ2.out, HST.out.1 (by first | rfl | trivial)]
            exact ⟨rfl, HO.grown⟩
        · obtain rfl : j = rs.length := by omega
          rw [List.take_length] at hf
          have HF := Lib.hid hf
          clear hf
          go_wp2_with (((with_reducible apply wpList_storeAll HO); exact rfl; exact rfl; exact rfl; (repeat (with_reducible (exact At.head _))); infer_instance; exact rfl; exact rfl; exact rfl; exact rfl; clear HO; intro w HO; (simp only [Act.put])))
          refine bodyPost_ret (results_box HO rfl rfl (by (repeat (with_reducible (exact At.head _)))) inferInstance rfl rfl) rfl ?_
          rw [HQ2.out, HF.out]
          exact ⟨rfl, HO.grown⟩
    · rw [hp] at PA HQ
      have HQ2 := Lib.hid (show rowOf A o d = A.r1.find? (fun r => decide (r.o = o) && decide (r.d = d)) from HQ.out)
      have HH := Lib.hid h1
      obtain ⟨s0, c0, rfl, -⟩ := h0.slice
      obtain ⟨s1, c1, rfl, -⟩ := h1.slice
      obtain ⟨s2, c2, rfl, -⟩ := h2.slice
      have hmx : (A.r1.length : Int) ≤ 9223372036854775807 := by have := h1.slice; obtain ⟨_, _, _, hm⟩ := this; unfold maxLen at hm; omega
      generalize A.r1 = rs at *
      generalize rowOf A o d = z at *
      clear h0 h1 h2 hp HQ
      go_enter Tryz.func137, Tryz.ntmps137
      go_wp2_with (first | ((have _h : Own W _ (box _ _ :: _) := HO); clear _h; ((with_reducible apply wpList_boxAgg _ HO rfl); exact rfl; exact rfl; exact rfl; clear HO; intro b3 w HO; (simp only [Act.put, zA, zB, zC]))) | ((with_reducible apply wpList_boxAgg _ HO rfl); exact rfl; exact rfl; exact rfl; clear HO; intro b2 w HO; (simp only [Act.put, zA, zB, zC])) | (first | ((with_reducible apply wpList_loadAll HO); exact rfl; exact rfl; (repeat (with_reducible (first | exact At.head _ | apply At.tail))); infer_instance; exact rfl; exact rfl; (simp only [Act.put, zA, zB, zC])) | ((with_reducible apply wpList_loadOne HO); exact rfl; exact rfl; (repeat (with_reducible (first | exact At.head _ | apply At.tail))); exact rfl; infer_instance; exact rfl; (simp only [Act.put, zA, zB, zC]))) | ((with_reducible apply wpList_allocAgg _ HO rfl); exact rfl; infer_instance; exact rfl; clear HO; intro b4 w HO; (simp only [Act.put, zA, zB, zC])) | (go_at_call 161; go_must ((with_reducible refine (K _).mono ?_); rintro e w ⟨rfl, hb⟩; replace HO := HO.call hb; clear hb)) | (go_at_call 164; go_must ((with_reducible refine (PA _).mono ?_); rintro e w ⟨rfl, hb⟩; replace HO := HO.call hb; clear hb)))
      go_loopw [7] (fun i wr => ∃ j : Nat, j ≤ rs.length ∧ i = .int .i64 (j : Int) ∧ (rs.take j).find? (fun r => decide (r.o = o) && decide (r.d = d)) = none ∧ Own W wr [box b4 (.cells #[.int .i64 0, .int .i64 0, .int .i64 0, .int .i64 0, .int .i64 0] 160), box b3 (.cells #[.int .i64 o, .int .i64 d] 29)]) (fun i _ => rs.length - (intOf i).toNat)
      case atStart => exact ⟨0, by omega, rfl, rfl, HO.sub (by with_reducible (repeat (first | exact List.Sublist.refl _ | apply List.Sublist.cons_cons | apply List.Sublist.cons)))⟩
      case round =>
        clear HO
        obtain ⟨j, hj, rfl, hf, HO⟩ := hrel
        by_cases hjl : j < rs.length
        · have hjI : (j : Int) < (rs.length : Int) := by omega
          obtain ⟨a, rfl, hcell⟩ := oldRow HH.out rfl hjl
          have hst := find_step hjl hf
          generalize rs[j] = r at *
          obtain ⟨ro, rd, rc, ra, rq⟩ := r
          simp only at hst
          have HCK := Lib.hid (fun (w' : World) (h1 : Own W w' [box b4 (.cells #[.int .i64 0, .int .i64 0, .int .i64 0, .int .i64 0, .int .i64 0] 160), box b3 (.cells #[.int .i64 o, .int .i64 d] 29)]) => (show ∀ i u, [Value.int .i64 ro, .int .i64 rd][i]? = some u → w'.cell? ((a.add (j * 5)).add i) = some u from fun i u hu => hcell w' _ h1 i u (by match i, hu with | 0, hu => exact hu | 1, hu => exact hu)))
          have HCR := Lib.hid (fun (w' : World) (h1 : Own W w' [box b4 (.cells #[.int .i64 0, .int .i64 0, .int .i64 0, .int .i64 0, .int .i64 0] 160), box b3 (.cells #[.int .i64 o, .int .i64 d] 29)]) => hcell w' _ h1)
          have RK := fun w => run_key_eql ro rd o d w
          have HST := Lib.hid hst
          clear hst hcell hf
          generalize hB : (decide (ro = o) && decide (rd = d)) = B at *
          clear hB
          go_wp2_with fail
          refine region_own HO (by kernel_rfl) (by kernel_rfl) ?_
          clear HO
          intro F HF
          repeat (first | (first | (((with_reducible apply wpQuiet_loadAll HF); exact rfl; exact rfl; (repeat (with_reducible (first | exact At.head _ | apply At.tail))); infer_instance; exact rfl; exact rfl; (simp only [Act.put, zA, zB, zC]))) | ((with_reducible apply wpQuiet_loadAt HF); exact rfl; exact rfl; exact (HCK.out); infer_instance; exact rfl; exact rfl; (simp only [Act.put, zA, zB, zC]))) | go_big_quiet_step (fail))
          refine wpQuiet_nil ?_
          intro x
          have HO := HF.own x
          clear HF
          generalize F x = w at *
          clear x F
          cases B
          · go_wp2_with fail
            go_roundw
            case rel => exact ⟨j + 1, by omega, by go_num, HST.out.2 (by first | rfl | trivial), HO⟩
            case measure => simp [intOf] <;> omega
          · go_wp2_with (first | ((with_reducible apply wpList_storeAll HO); exact rfl; exact rfl; exact rfl; (repeat (with_reducible (exact At.head _))); infer_instance; exact rfl; exact rfl; exact rfl; exact rfl; clear HO; intro w HO; (simp only [Act.put])) | ((with_reducible apply wpList_loadAt HO); exact rfl; exact rfl; exact (HCR.out); infer_instance; exact rfl; exact rfl; (simp only [Act.put, zA, zB, zC])))
            refine bodyPost_ret (results_box HO rfl rfl (by (repeat (with_reducible (exact At.head _)))) inferInstance rfl rfl) rfl ?_
            rw [HQ2.out, HST.out.1 (by first | rfl | trivial)]
            exact ⟨rfl, HO.grown⟩
        · obtain rfl : j = rs.length := by omega
          rw [List.take_length] at hf
          have HF := Lib.hid hf
          clear hf
          go_wp2_with (((with_reducible apply wpList_storeAll HO); exact rfl; exact rfl; exact rfl; (repeat (with_reducible (exact At.head _))); infer_instance; exact rfl; exact rfl; exact rfl; exact rfl; clear HO; intro w HO; (simp only [Act.put])))
          refine bodyPost_ret (results_box HO rfl rfl (by (repeat (with_reducible (exact At.head _)))) inferInstance rfl rfl) rfl ?_
          rw [HQ2.out, HF.out]
          exact ⟨rfl, HO.grown⟩
    · rw [hp] at PA HQ
      have HQ2 := Lib.hid (show rowOf A o d = A.r2.find? (fun r => decide (r.o = o) && decide (r.d = d)) from HQ.out)
      have HH := Lib.hid h2
      obtain ⟨s0, c0, rfl, -⟩ := h0.slice
      obtain ⟨s1, c1, rfl, -⟩ := h1.slice
      obtain ⟨s2, c2, rfl, -⟩ := h2.slice
      have hmx : (A.r2.length : Int) ≤ 9223372036854775807 := by have := h2.slice; obtain ⟨_, _, _, hm⟩ := this; unfold maxLen at hm; omega
      generalize A.r2 = rs at *
      generalize rowOf A o d = z at *
      clear h0 h1 h2 hp HQ
      go_enter Tryz.func137, Tryz.ntmps137
      go_wp2_with (first | ((have _h : Own W _ (box _ _ :: _) := HO); clear _h; ((with_reducible apply wpList_boxAgg _ HO rfl); exact rfl; exact rfl; exact rfl; clear HO; intro b3 w HO; (simp only [Act.put, zA, zB, zC]))) | ((with_reducible apply wpList_boxAgg _ HO rfl); exact rfl; exact rfl; exact rfl; clear HO; intro b2 w HO; (simp only [Act.put, zA, zB, zC])) | (first | ((with_reducible apply wpList_loadAll HO); exact rfl; exact rfl; (repeat (with_reducible (first | exact At.head _ | apply At.tail))); infer_instance; exact rfl; exact rfl; (simp only [Act.put, zA, zB, zC])) | ((with_reducible apply wpList_loadOne HO); exact rfl; exact rfl; (repeat (with_reducible (first | exact At.head _ | apply At.tail))); exact rfl; infer_instance; exact rfl; (simp only [Act.put, zA, zB, zC]))) | ((with_reducible apply wpList_allocAgg _ HO rfl); exact rfl; infer_instance; exact rfl; clear HO; intro b4 w HO; (simp only [Act.put, zA, zB, zC])) | (go_at_call 161; go_must ((with_reducible refine (K _).mono ?_); rintro e w ⟨rfl, hb⟩; replace HO := HO.call hb; clear hb)) | (go_at_call 164; go_must ((with_reducible refine (PA _).mono ?_); rintro e w ⟨rfl, hb⟩; replace HO := HO.call hb; clear hb)))
      go_loopw [7] (fun i wr => ∃ j : Nat, j ≤ rs.length ∧ i = .int .i64 (j : Int) ∧ (rs.take j).find? (fun r => decide (r.o = o) && decide (r.d = d)) = none ∧ Own W wr [box b4 (.cells #[.int .i64 0, .int .i64 0, .int .i64 0, .int .i64 0, .int .i64 0] 160), box b3 (.cells #[.int .i64 o, .int .i64 d] 29)]) (fun i _ => rs.length - (intOf i).toNat)
      case atStart => exact ⟨0, by omega, rfl, rfl, HO.sub (by with_reducible (repeat (first | exact List.Sublist.refl _ | apply List.Sublist.cons_cons | apply List.Sublist.cons)))⟩
      case round =>
        clear HO
        obtain ⟨j, hj, rfl, hf, HO⟩ := hrel
        by_cases hjl : j < rs.length
        · have hjI : (j : Int) < (rs.length : Int) := by omega
          obtain ⟨a, rfl, hcell⟩ := oldRow HH.out rfl hjl
          have hst := find_step hjl hf
          generalize rs[j] = r at *
          obtain ⟨ro, rd, rc, ra, rq⟩ := r
          simp only at hst
          have HCK := Lib.hid (fun (w' : World) (h1 : Own W w' [box b4 (.cells #[.int .i64 0, .int .i64 0, .int .i64 0, .int .i64 0, .int .i64 0] 160), box b3 (.cells #[.int .i64 o, .int .i64 d] 29)]) => (show ∀ i u, [Value.int .i64 ro, .int .i64 rd][i]? = some u → w'.cell? ((a.add (j * 5)).add i) = some u from fun i u hu => hcell w' _ h1 i u (by match i, hu with | 0, hu => exact hu | 1, hu => exact hu)))
          have HCR := Lib.hid (fun (w' : World) (h1 : Own W w' [box b4 (.cells #[.int .i64 0, .int .i64 0, .int .i64 0, .int .i64 0, .int .i64 0] 160), box b3 (.cells #[.int .i64 o, .int .i64 d] 29)]) => hcell w' _ h1)
          have RK := fun w => run_key_eql ro rd o d w
          have HST := Lib.hid hst
          clear hst hcell hf
          generalize hB : (decide (ro = o) && decide (rd = d)) = B at *
          clear hB
          go_wp2_with fail
          refine region_own HO (by kernel_rfl) (by kernel_rfl) ?_
          clear HO
          intro F HF
          repeat (first | (first | (((with_reducible apply wpQuiet_loadAll HF); exact rfl; exact rfl; (repeat (with_reducible (first | exact At.head _ | apply At.tail))); infer_instance; exact rfl; exact rfl; (simp only [Act.put, zA, zB, zC]))) | ((with_reducible apply wpQuiet_loadAt HF); exact rfl; exact rfl; exact (HCK.out); infer_instance; exact rfl; exact rfl; (simp only [Act.put, zA, zB, zC]))) | go_big_quiet_step (fail))
          refine wpQuiet_nil ?_
          intro x
          have HO := HF.own x
          clear HF
          generalize F x = w at *
          clear x F
          cases B
          · go_wp2_with fail
            go_roundw
            case rel => exact ⟨j + 1, by omega, by go_num, HST.out.2 (by first | rfl | trivial), HO⟩
            case measure => simp [intOf] <;> omega
          · go_wp2_with (first | ((with_reducible apply wpList_storeAll HO); exact rfl; exact rfl; exact rfl; (repeat (with_reducible (exact At.head _))); infer_instance; exact rfl; exact rfl; exact rfl; exact rfl; clear HO; intro w HO; (simp only [Act.put])) | ((with_reducible apply wpList_loadAt HO); exact rfl; exact rfl; exact (HCR.out); infer_instance; exact rfl; exact rfl; (simp only [Act.put, zA, zB, zC])))
            refine bodyPost_ret (results_box HO rfl rfl (by (repeat (with_reducible (exact At.head _)))) inferInstance rfl rfl) rfl ?_
            rw [HQ2.out, HST.out.1 (by first | rfl | trivial)]
            exact ⟨rfl, HO.grown⟩
        · obtain rfl : j = rs.length := by omega
          rw [List.take_length] at hf
          have HF := Lib.hid hf
          clear hf
          go_wp2_with (((with_reducible apply wpList_storeAll HO); exact rfl; exact rfl; exact rfl; (repeat (with_reducible (exact At.head _))); infer_instance; exact rfl; exact rfl; exact rfl; exact rfl; clear HO; intro w HO; (simp only [Act.put])))
          refine bodyPost_ret (results_box HO rfl rfl (by (repeat (with_reducible (exact At.head _)))) inferInstance rfl rfl) rfl ?_
          rw [HQ2.out, HF.out]
          exact ⟨rfl, HO.grown⟩

set_option maxHeartbeats 8000000 in
set_option maxRecDepth 100000 in
theorem refNet_any {W : World} {v0 v1 v2 : Value} (A : InS) (o : Int) (h0 : IsRows W v0 A.r0) (h1 : IsRows W v1 A.r1) (h2 : IsRows W v2 A.r2) (hA : InOk A) :
    Calls Tryz.prog 90 #[.agg #[.int .i64 (A).p0, .int .i64 (A).q0, v0, .int .i64 (A).p1, .int .i64 (A).q1, v1, .int .i64 (A).p2, .int .i64 (A).q2, v2], .int .i64 o] W fun e w' => e = .returned (.int .i64 (netI A o)) ∧ Below W.heap.size W w' := by
  have R1 := fun w (hb : Below W.heap.size W w) => refRow_any A o 1 (h0.below hb h0.lt) (h1.below hb h1.lt) (h2.below hb h2.lt)
  have R4 := fun w (hb : Below W.heap.size W w) => refRow_any A o 4 (h0.below hb h0.lt) (h1.below hb h1.lt) (h2.below hb h2.lt)
  have HQ := Lib.hid (show netI A o = amtOf (rowOf A o 1) - amtOf (rowOf A o 4) from rfl)
  obtain ⟨b1, b2⟩ := rowOf_bound hA o 1
  obtain ⟨b3, b4⟩ := rowOf_bound hA o 4
  have hw : IntKind.i64.wrap (amtOf (rowOf A o 1) - amtOf (rowOf A o 4)) = amtOf (rowOf A o 1) - amtOf (rowOf A o 4) := by
    simp [IntKind.wrap, IntKind.bits, IntKind.signed]; omega
  have hw2 : IntKind.i64.wrap (-(amtOf (rowOf A o 4))) = -(amtOf (rowOf A o 4)) := by
    simp [IntKind.wrap, IntKind.bits, IntKind.signed]; omega
  generalize netI A o = z at *
  generalize rowOf A o 1 = x1 at *
  generalize rowOf A o 4 = x4 at *
  obtain ⟨s0, c0, rfl, -⟩ := h0.slice
  obtain ⟨s1, c1, rfl, -⟩ := h1.slice
  obtain ⟨s2, c2, rfl, -⟩ := h2.slice
  generalize A.r0.length = n0 at *
  generalize A.r1.length = n1 at *
  generalize A.r2.length = n2 at *
  have HO := Own.start W
  clear h0 h1 h2 b1 b2 b3 b4
  have hc : ∀ x : Option RowS, (∃ ro rd ra rq, x = some ⟨ro, rd, 1, ra, rq⟩ ∧ amtOf x = ra) ∨ ((∃ a b c d e, (c == 1) = false ∧ rowT x = .agg #[.int .i64 a, .int .i64 b, .int .i64 c, .int .i64 d, .int .i64 e]) ∧ amtOf x = 0) := fun x => by
    cases x with
    | none => exact .inr ⟨⟨0, 0, 0, 0, 0, rfl, rfl⟩, rfl⟩
    | some r =>
      obtain ⟨ro, rd, rc, ra, rq⟩ := r
      by_cases h : rc = 1
      · subst h; exact .inl ⟨ro, rd, ra, rq, rfl, rfl⟩
      · exact .inr ⟨⟨ro, rd, rc, ra, rq, by simpa using h, rfl⟩, by simp [amtOf, h]⟩
  rcases hc x1 with ⟨ro, rd, ra, rq, rfl, e1⟩ | ⟨⟨a1, a2, a3, a4, a5, n1', e1'⟩, e1⟩ <;> rcases hc x4 with ⟨ro4, rd4, ra4, rq4, rfl, e4⟩ | ⟨⟨d1, d2, d3, d4, d5, n4', e4'⟩, e4⟩
  all_goals
    rw [e1, e4] at HQ hw
    rw [e4] at hw2
    try rw [e1'] at R1
    try rw [e4'] at R4
    try simp only [rowT] at R1
    try simp only [rowT] at R4
    clear hc e1 e4
    go_enter Tryz.func90, Tryz.ntmps90
    go_wp2_with (first | ((with_reducible apply wpList_boxAgg _ HO rfl); exact rfl; exact rfl; exact rfl; clear HO; intro b2 w HO; (simp only [Act.put, zA, zB, zC])) | (first | ((with_reducible apply wpList_loadAll HO); exact rfl; exact rfl; (repeat (with_reducible (first | exact At.head _ | apply At.tail))); infer_instance; exact rfl; exact rfl; (simp only [Act.put, zA, zB, zC])) | ((with_reducible apply wpList_loadOne HO); exact rfl; exact rfl; (repeat (with_reducible (first | exact At.head _ | apply At.tail))); exact rfl; infer_instance; exact rfl; (simp only [Act.put, zA, zB, zC]))) | ((with_reducible apply wpList_storeAll HO); exact rfl; exact rfl; exact rfl; (repeat (with_reducible (exact At.head _))); infer_instance; exact rfl; exact rfl; exact rfl; exact rfl; clear HO; intro w HO; (simp only [Act.put])) | (((with_reducible apply wpList_allocAgg _ HO rfl); exact rfl; infer_instance; exact rfl; clear HO; intro b4 w HO; (simp only [Act.put, zA, zB, zC]))) | (go_at_call 137; first | ((with_reducible refine (R1 _ HO.grown).mono ?_); (rintro e w ⟨rfl, hb⟩; replace HO := HO.call hb; clear hb)) | ((with_reducible refine (R4 _ HO.grown).mono ?_); (rintro e w ⟨rfl, hb⟩; replace HO := HO.call hb; clear hb))))
    go_ret
    exact ⟨by rw [HQ.out]; first | rfl | simp, HO.grown⟩
end Go.Proofs.YtibabfedpdoofaaGreatDoor
namespace Go.Proofs.YtibabfedpdoofaaGreatDoor
open Go.RowKit Go.Own Go.Maps

end Go.Proofs.YtibabfedpdoofaaGreatDoor

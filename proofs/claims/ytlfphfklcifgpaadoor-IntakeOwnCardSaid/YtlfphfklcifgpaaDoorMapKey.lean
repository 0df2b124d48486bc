/-
  Maps whose keys are those of deeds; conditions: none.
-/
import Derived.Test.YtlfphfklcifgpaaDoorMap
import Derived.Test.YtlfphfklcifgpaaDoorRowMay
import Derived.KernelRfl
namespace Go.Proofs.YtlfphfklcifgpaaDoor
open Go.RowKit Go.Own Go.Maps

theorem mkLaid : laidOutB Tryd.prog = true := by kernel_rfl
theorem mkRow : 43 < Tryd.prog.types.size := of_decide_eq_true (by kernel_rfl)
set_option maxRecDepth 100000 in
theorem mkWide : (match Tryd.prog.underlying 43 with | some (.array _ _) | some (.struct _) => true | _ => false) = true := by kernel_rfl
set_option maxRecDepth 100000 in
theorem keyKeyed : Keyed Tryd.prog 43 := Keyed.of_law (deep_law_laid mkLaid (m := 2) (by omega) mkRow (by kernel_rfl) mkWide)
theorem mkCells : Tryd.prog.cellsOf 43 = 2 := by kernel_rfl
theorem mkCells1 : Tryd.prog.cellsOf 3 = 1 := by kernel_rfl
theorem mkType : Tryd.prog.keyType 43 = true := by kernel_rfl
theorem mkSize : decide (2 ≤ Tryd.prog.types.size) = true := by kernel_rfl
theorem keyLits_int (n : Nat) {o : Int} (h1 : (Lit.int .i64 o).wf = true) : Tryd.prog.keyLits (n + 1) 3 [.int .i64 o] = some [.int .i64 o] := by
  unfold Program.keyLits
  rw [Tryd.underlying3]
  simp [h1]
theorem keyLits_key (n : Nat) {o d : Int} (h1 : (Lit.int .i64 o).wf = true) (h2 : (Lit.int .i64 d).wf = true) : Tryd.prog.keyLits (n + 2) 43 [.int .i64 o, .int .i64 d] = some [.int .i64 o, .int .i64 d] := by
  unfold Program.keyLits
  rw [Tryd.underlying43]
  simp [mkCells, mkCells1, keyLits_int n h1, keyLits_int n h2]
theorem key_formed (o d : Int) : (Value.agg #[.int .i64 o, .int .i64 d]).formed Tryd.prog 43 = true := by
  unfold Value.formed
  rw [Tryd.underlying43]
  simp [mkCells]
theorem keyOf_some {o d : Int} (h1 : (Lit.int .i64 o).wf = true) (h2 : (Lit.int .i64 d).wf = true) : ∃ l, keyOf Tryd.prog 43 (.agg #[.int .i64 o, .int .i64 d]) = some l := by
  have hs := of_decide_eq_true mkSize
  obtain ⟨m, hm⟩ : ∃ m, Tryd.prog.types.size + 1 = m + 2 := ⟨Tryd.prog.types.size - 1, by omega⟩
  unfold keyOf
  rw [Tryd.underlying43]
  simp only [mkType, key_formed, Bool.and_self, if_true, hm]
  rw [show (Value.agg #[.int .i64 o, .int .i64 d]).cells.toList = [.int .i64 o, .int .i64 d] from rfl, keyLits_key m h1 h2]
  exact ⟨_, rfl⟩
noncomputable def keyLit (o d : Int) : Lit := (keyOf Tryd.prog 43 (.agg #[.int .i64 o, .int .i64 d])).getD (.bool true)
theorem keyOf_lit {o d : Int} (h1 : (Lit.int .i64 o).wf = true) (h2 : (Lit.int .i64 d).wf = true) : keyOf Tryd.prog 43 (.agg #[.int .i64 o, .int .i64 d]) = some (keyLit o d) := by
  obtain ⟨l, hl⟩ := keyOf_some h1 h2
  rw [keyLit, hl]
  rfl
theorem keyLit_inj {o d o' d' : Int} (h1 : (Lit.int .i64 o).wf = true) (h2 : (Lit.int .i64 d).wf = true) (h1' : (Lit.int .i64 o').wf = true) (h2' : (Lit.int .i64 d').wf = true) (h : keyLit o d = keyLit o' d') : o = o' ∧ d = d' := by
  have := keyKeyed.inj (keyOf_lit h1 h2) (by rw [h]; exact keyOf_lit h1' h2')
  simpa using this
/-- Rows put into a map, one behind the other, each by its key. -/
noncomputable def putRows (f : Lit → Option Value) : List RowS → Lit → Option Value
  | [] => f
  | r :: rs => putRows (updF f (keyLit r.o r.d) r.v) rs
theorem putRows_snoc (f : Lit → Option Value) : ∀ (rs : List RowS) (r : RowS), putRows f (rs ++ [r]) = updF (putRows f rs) (keyLit r.o r.d) r.v
  | [], _ => rfl
  | x :: rs, r => by rw [List.cons_append, putRows, putRows_snoc _ rs r]; rfl
theorem putRows_app (f : Lit → Option Value) : ∀ (rs ss : List RowS), putRows f (rs ++ ss) = putRows (putRows f rs) ss
  | [], _ => rfl
  | x :: rs, ss => by rw [List.cons_append, putRows, putRows_app _ rs ss]; rfl
end Go.Proofs.YtlfphfklcifgpaaDoor

/-
  Rows and slices among the pieces of memory that a call has made: read and grown; conditions: none.
  Regions whose order the model draws, walked in one order of one's own choice: what reads is taken as it comes up, what writes or calls where nothing else may come up; over any program; conditions: none.
  Regions whose order the model draws, walked in one order of one's own choice, where what the quiet ones read must stay only till the last of them has come up; over any program; conditions: none.
  Results that lie in a box; reads of rows in a region walked in an order of one's own; over any program; conditions: none.
  Postings, and what they come to: plain Lean; conditions: none.
  Sums, accounts, and whether a posting may be, by walking both texts; conditions: int64 in, int64 out.
  Whether a posting may be, and a balance posting by posting, by walking both texts; conditions: int64 numbers, the postings lie in memory.
  A map of the call's own among its other memory: made, put into, looked up; over any program; conditions: none.
  Appending a part of a slice that was there when the call began; a row taken as a box and back; over any program; conditions: none.
  Memory that a callee hands over, taken among the caller's own; appending all of a slice that lies anywhere; over any program; conditions: none.
  sum 2c0306cedc6804f8978b916da7028857e103ee72
-/
import Derived.OrdersHeld
import Derived.Deep.RegionHeld3
import Derived.Test.YtibabfedpdoofaaDoorProg
import Derived.Deep.DeepCutAuto
import Derived.Maps.OwnSet
import Derived.Maps.Views
import Derived.DeepKeys4
import Derived.Laws.OwnMore
import Derived.Test.YtibabfedpdoofaaDoorPt1
namespace Go.Own
open Go.RowKit
section
variable {P : Program} {ops : Array Oper} {rest : List Oper} {o : Oper} {a : Act} {W w : World} {Q : Exit → Act → World → Prop} {L L' : List Ent}
/-- What a row reads as. -/
theorem Own.rowAt {t k n c i : Nat} {q : Addr} {A : List (List Value)} {l : List Value} (h : Own W w L) (hat : At (row t k (.slice (some q) n c) A) (row t k (.slice (some q) n c) A) L L') (hA : ∀ l ∈ A, l.length = k) (hl : A[i]? = some l) :
    ∀ j u, l[j]? = some u → w.cell? ((q.add (i * k)).add j) = some u := by
  have hF := isL_of_owns hA (h.has _ hat.mem)
  intro j u hu
  obtain ⟨hi, rfl⟩ := List.getElem?_eq_some_iff.1 hl
  cases hF with
  | none sp sc hn => simp at hi
  | some a' cap L'' hlen hcap h0 hR => exact hR.c i hi j u hu
theorem Own.islAt {k n c i : Nat} {q : Addr} {A : List (List Value)} {l : List Value} (h : Own W w L) (hat : At (isl k (.slice (some q) n c) A) (isl k (.slice (some q) n c) A) L L') (hl : A[i]? = some l) :
    ∀ j u, l[j]? = some u → w.cell? ((q.add (i * k)).add j) = some u := by
  have hF : IsL w k (.slice (some q) n c) A := h.has _ hat.mem
  intro j u hu
  obtain ⟨hi, rfl⟩ := List.getElem?_eq_some_iff.1 hl
  cases hF with
  | none sp sc hn => simp at hi
  | some a' cap L'' hlen hcap h0 hR => exact hR.c i hi j u hu
theorem Own.islAt0 {k n c : Nat} {q : Addr} {A : List (List Value)} {l : List Value} (h : Own W w (isl k (.slice (some q) n c) (l :: A) :: L)) : ∀ j u, l[j]? = some u → w.cell? (q.add j) = some u := by
  intro j u hu
  have := h.islAt (.head _) (i := 0) rfl j u hu
  rwa [Nat.zero_mul, show q.add 0 = q by unfold Addr.add; rw [if_pos rfl]] at this
/-- The form of a row's slice. -/
theorem Own.rowForm {t k : Nat} {v : Value} {A : List (List Value)} (h : Own W w L) (hat : At (row t k v A) (row t k v A) L L') : (∃ p c, v = .slice p A.length c) ∧ (0 < A.length → ∃ q c, v = .slice (some q) A.length c) := by
  rcases (h.has _ hat.mem).2 with ⟨rfl, h0⟩ | ⟨g, cap, cur, rfl, _⟩
  · exact ⟨⟨_, _, by rw [h0]⟩, fun hh => by omega⟩
  · exact ⟨⟨_, _, rfl⟩, fun _ => ⟨_, _, rfl⟩⟩
theorem Own.islForm {k : Nat} {v : Value} {A : List (List Value)} (h : Own W w L) (hat : At (isl k v A) (isl k v A) L L') : (∃ p c, v = .slice p A.length c) ∧ (0 < A.length → ∃ q c, v = .slice (some q) A.length c) := by
  have hF : IsL w k v A := h.has _ hat.mem
  cases hF with
  | none sp sc hn => exact ⟨⟨_, _, rfl⟩, fun hh => by simp at hh⟩
  | some a' cap L'' hlen hcap h0 hR => exact ⟨⟨_, _, rfl⟩, fun _ => ⟨_, _, rfl⟩⟩
/-- A block that a slice literal has laid is a row. -/
theorem Own.litRow {t k n b : Nat} {cs : Array Value} {A : List (List Value)} (h : Own W w (box b (.cells cs t) :: L)) (hA : ∀ l ∈ A, l.length = k) (hn : A.length = n) (hc : A.flatten.toArray = cs) (hm : n ≤ maxLen) : Own W w (row t k (.slice (some ⟨b, 0, none⟩) n n) A :: L) :=
  h.as (.head _) (row_ok _ _ _ _) (fun hF => by
    refine ⟨flatL_len hA, .inr ⟨b, n, cs, by rw [hn], Nat.zero_le _, hF, by omega, hm, ?_, ?_⟩⟩
    · rw [← hc]; simp [flatL_len hA, hn]
    · rw [← hc]; rw [List.take_of_length_le]; simp [flatL_len hA]) (fun _ hb => hb)
theorem run_load_at {p : Addr} {l : List Value} {t : TypeId} (x : Operand) (ho : o.op = .load t x) (hx : a.eval x = .pointer (some p)) (hl : ∀ j v, l[j]? = some v → w.cell? (p.add j) = some v) (ht : aggSize P t = some l.length) :
    (execOp a.eval o).run P w = .ok (.value (.agg l.toArray)) w := by
  have hc : (loadCells p l.length).run P w = .ok l.toArray w := run_loadCells_list (P := P) w p l hl
  obtain ⟨h1, h2⟩ := run_isAgg_yes ht w
  simp [execOp, ho, hx, Instr.loadAt, Instr.sureAddr, loadVar, h1, h2, hc]
theorem run_load_at1 {p : Addr} {v : Value} {t : TypeId} (x : Operand) (ho : o.op = .load t x) (hx : a.eval x = .pointer (some p)) (hl : w.cell? p = some v) (ht : oneCellT P t = true) :
    (execOp a.eval o).run P w = .ok (.value v) w := by
  obtain ⟨h1, h2⟩ := run_isAgg_no ht w
  simp [execOp, ho, hx, Instr.loadAt, Instr.sureAddr, loadVar, h1, hl]
theorem wpList_loadRow {e t k n c i m : Nat} {q : Addr} {A : List (List Value)} {l : List Value} {x : Operand} (hO : Own W w L) (ho : o.op = .load t x) (hx : a.eval x = .pointer (some (q.add (i * k)))) (hat : At (row e k (.slice (some q) n c) A) (row e k (.slice (some q) n c) A) L L')
    (hA : ∀ l ∈ A, l.length = k) (hl : A[i]? = some l) (ht : IsAgg P t m) (hm : l.length = m) (hw : Region.wanted o (yielded ops a.tmps) = true) (h : wpList P ops Q rest (a.put o.dst (.agg l.toArray)) w) : wpList P ops Q (o :: rest) a w :=
  wpList_value hw (run_load_at x ho hx (hO.rowAt hat hA hl) (by rw [ht.out, hm])) h
theorem wpList_loadIsl {t k n c i m : Nat} {q : Addr} {A : List (List Value)} {l : List Value} {x : Operand} (hO : Own W w L) (ho : o.op = .load t x) (hx : a.eval x = .pointer (some (q.add (i * k)))) (hat : At (isl k (.slice (some q) n c) A) (isl k (.slice (some q) n c) A) L L')
    (hl : A[i]? = some l) (ht : IsAgg P t m) (hm : l.length = m) (hw : Region.wanted o (yielded ops a.tmps) = true) (h : wpList P ops Q rest (a.put o.dst (.agg l.toArray)) w) : wpList P ops Q (o :: rest) a w :=
  wpList_value hw (run_load_at x ho hx (hO.islAt hat hl) (by rw [ht.out, hm])) h
end
section
variable {P : Program} {ops : Array Oper} {rest : List Oper} {o : Oper} {a : Act} {W : World} {F : World → World} {Q : Act → Prop} {L L' : List Ent}
theorem wpQuiet_loadRow {e t k n c i m : Nat} {q : Addr} {A : List (List Value)} {l : List Value} {x : Operand} (hF : Fam W L F) (ho : o.op = .load t x) (hx : a.eval x = .pointer (some (q.add (i * k)))) (hat : At (row e k (.slice (some q) n c) A) (row e k (.slice (some q) n c) A) L L')
    (hA : ∀ l ∈ A, l.length = k) (hl : A[i]? = some l) (ht : IsAgg P t m) (hm : l.length = m) (hw : Region.wanted o (yielded ops a.tmps) = true) (h : wpQuiet P ops (fun w' => ∃ x, w' = F x) Q rest (a.put o.dst (.agg l.toArray))) :
    wpQuiet P ops (fun w' => ∃ x, w' = F x) Q (o :: rest) a :=
  wpQuiet_value (v := .agg l.toArray) hw (fun w' ⟨y, hy⟩ => run_load_at x ho hx ((hy ▸ hF.own y : Own W w' L).rowAt hat hA hl) (by rw [ht.out, hm])) h
theorem wpQuiet_loadIsl {t k n c i m : Nat} {q : Addr} {A : List (List Value)} {l : List Value} {x : Operand} (hF : Fam W L F) (ho : o.op = .load t x) (hx : a.eval x = .pointer (some (q.add (i * k)))) (hat : At (isl k (.slice (some q) n c) A) (isl k (.slice (some q) n c) A) L L')
    (hl : A[i]? = some l) (ht : IsAgg P t m) (hm : l.length = m) (hw : Region.wanted o (yielded ops a.tmps) = true) (h : wpQuiet P ops (fun w' => ∃ x, w' = F x) Q rest (a.put o.dst (.agg l.toArray))) :
    wpQuiet P ops (fun w' => ∃ x, w' = F x) Q (o :: rest) a :=
  wpQuiet_value (v := .agg l.toArray) hw (fun w' ⟨y, hy⟩ => run_load_at x ho hx ((hy ▸ hF.own y : Own W w' L).islAt hat hl) (by rw [ht.out, hm])) h
/-- An operation that neither reads memory nor changes it. -/
theorem wpQuiet_pure {v : Value} (hr : ∀ w', (execOp a.eval o).run P w' = .ok (.value v) w') (hw : Region.wanted o (yielded ops a.tmps) = true) (h : wpQuiet P ops (fun w' => ∃ x, w' = F x) Q rest (a.put o.dst v)) : wpQuiet P ops (fun w' => ∃ x, w' = F x) Q (o :: rest) a :=
  wpQuiet_value (v := v) hw (fun w' _ => hr w') h
theorem wpList_pure {w : World} {Q : Exit → Act → World → Prop} {v : Value} (hr : ∀ w', (execOp a.eval o).run P w' = .ok (.value v) w') (hw : Region.wanted o (yielded ops a.tmps) = true) (h : wpList P ops Q rest (a.put o.dst v) w) : wpList P ops Q (o :: rest) a w :=
  wpList_value hw (hr w) h
end
end Go.Own
namespace Go.Own
open Go.RowKit
theorem fold_set : ∀ (l : List Value) (i : Nat) (z : List Value), i + l.length = z.length →
    (l.zipIdx i).foldl (fun (cs : Array Value) (p : Value × Nat) => cs.setIfInBounds p.2 p.1) z.toArray = (z.take i ++ l).toArray
  | [], i, z, h => by simp at h; simp [h]
  | x :: l, i, z, h => by
    simp only [List.length_cons] at h
    rw [List.zipIdx_cons, List.foldl_cons]
    have e : (z.toArray.setIfInBounds i x) = (z.set i x).toArray := by simp
    rw [e, fold_set l (i + 1) (z.set i x) (by simp; omega)]
    congr 1
    rw [List.take_succ_eq_append_getElem (by simp; omega), List.take_set_of_le (Nat.le_refl _)]
    simp
theorem fill_one (place : Nat → Option (Nat × Nat)) (z l : List Value) (v : Value) (hp : place 0 = some (0, l.length)) (hv : v.cells = l.toArray) (hz : z.length = l.length) : Instr.fill place z.toArray [(0, v)] = some l.toArray := by
  unfold Instr.fill
  simp only [hp, hv]
  have h1 : ¬ (l.toArray.size ≠ l.length || decide (0 + l.toArray.size > z.toArray.size)) = true := by simp; omega
  rw [if_neg (by simpa using h1)]
  have := fold_set l 0 z (by omega)
  simp only [List.take_zero, List.nil_append] at this
  simp only [Instr.fill, Nat.zero_add]
  rw [← Array.foldl_toList, Array.toList_zipIdx]
  exact congrArg some this
section
variable {P : Program} {ops : Array Oper} {rest : List Oper} {o : Oper} {a : Act} {W w : World} {Q : Exit → Act → World → Prop} {L : List Ent}
/-- A slice literal of one element. -/
theorem run_lit1 {t e k by' : Nat} {x : Operand} {l : List Value} {v : Value} (ho : o.op = .buildSlice t 1 #[(0, x)]) (ht : IsSlice P t e) (hsz : IsElem P e k by') (hx : a.eval x = v) (hv : v.cells = l.toArray) (hl : l.length = k) (hk : k ≤ 1000) (w : World) :
    (execOp a.eval o).run P w = .ok (.value (.slice (some ⟨w.heap.size, 0, none⟩) 1 1)) (w.alloc (.cells l.toArray e)) := by
  have h1 := hsz.out
  have hpos := hsz.pos
  cases hi : P.info? e with
  | none => simp [hi] at h1
  | some i =>
    cases hzz : i.zero with
    | none => simp [hi, hzz] at h1
    | some zv =>
      simp only [hi, hzz, Option.bind_some, Option.map_some, Option.some.injEq, Prod.mk.injEq] at h1
      obtain ⟨h2, h3, _⟩ := h1
      have hlt : ¬ (16777216 < 1 * k) := by omega
      have h0 : ¬ (1 * k = 0) := by omega
      have hf : Instr.fill (fun i => some (i * k, k)) (Array.map (fun x => zv.cells[x % zv.cells.size]!) (Array.range (1 * k))) [(0, v)] = some l.toArray := by
        have := fill_one (fun i => some (i * k, k)) (Array.map (fun x => zv.cells[x % zv.cells.size]!) (Array.range (1 * k))).toList l v (by simp [hl]) hv (by simp [hl])
        rwa [Array.toArray_toList] at this
      unfold execOp
      simp only [ho, Instr.buildSlice]
      simp only [Nat.one_mul] at hf hlt h0
      simp [underlying, ht.out, sizeOf, typeInfo, hi, h3, h0, zeroValue, hzz, hlt, newRow, hx, hf]
theorem wpList_lit1 {t e k by' : Nat} {x : Operand} {l : List Value} (hO : Own W w L) (ho : o.op = .buildSlice t 1 #[(0, x)]) (ht : IsSlice P t e) (hsz : IsElem P e k by') (hx : a.eval x = .agg l.toArray) (hl : l.length = k) (hk : k ≤ 1000)
    (hw : Region.wanted o (yielded ops a.tmps) = true) (h : ∀ b w', Own W w' (box b (.cells l.toArray e) :: L) → wpList P ops Q rest (a.put o.dst (.slice (some ⟨b, 0, none⟩) 1 1)) w') : wpList P ops Q (o :: rest) a w :=
  wpList_value hw (run_lit1 ho ht hsz hx rfl hl hk w) (h _ _ (hO.alloc _))
/-- The same, of one cell. -/
theorem wpList_lit1c {t e by' : Nat} {x : Operand} {v : Value} (hO : Own W w L) (ho : o.op = .buildSlice t 1 #[(0, x)]) (ht : IsSlice P t e) (hsz : IsElem P e 1 by') (hx : a.eval x = v) (hv : v.oneCell' = true)
    (hw : Region.wanted o (yielded ops a.tmps) = true) (h : ∀ b w', Own W w' (box b (.cells [v].toArray e) :: L) → wpList P ops Q rest (a.put o.dst (.slice (some ⟨b, 0, none⟩) 1 1)) w') : wpList P ops Q (o :: rest) a w :=
  wpList_value hw (run_lit1 (l := [v]) ho ht hsz hx (by cases v <;> first | rfl | cases hv) rfl (by omega) w) (h _ _ (hO.alloc _))
end
end Go.Own
namespace Go.Own
open Go.RowKit
section
variable {P : Program} {ops : Array Oper} {rest : List Oper} {o : Oper} {a : Act} {W w : World} {F : World → World} {Q : Act → Prop} {L : List Ent}
/-- A load from wherever what is known of the pieces tells the cells. -/
theorem wpQuiet_loadAt {p : Addr} {l : List Value} {t m : Nat} {x : Operand} (hF : Fam W L F) (ho : o.op = .load t x) (hx : a.eval x = .pointer (some p)) (hc : ∀ w', Own W w' L → ∀ j u, l[j]? = some u → w'.cell? (p.add j) = some u) (ht : IsAgg P t m) (hm : l.length = m)
    (hw : Region.wanted o (yielded ops a.tmps) = true) (h : wpQuiet P ops (fun w' => ∃ x, w' = F x) Q rest (a.put o.dst (.agg l.toArray))) : wpQuiet P ops (fun w' => ∃ x, w' = F x) Q (o :: rest) a :=
  wpQuiet_value (v := .agg l.toArray) hw (fun w' ⟨y, hy⟩ => run_load_at x ho hx (hc w' (hy ▸ hF.own y)) (by rw [ht.out, hm])) h
theorem wpQuiet_loadAt1 {p : Addr} {v : Value} {t : Nat} {x : Operand} (hF : Fam W L F) (ho : o.op = .load t x) (hx : a.eval x = .pointer (some p)) (hc : ∀ w', Own W w' L → w'.cell? p = some v) (ht : IsOne P t)
    (hw : Region.wanted o (yielded ops a.tmps) = true) (h : wpQuiet P ops (fun w' => ∃ x, w' = F x) Q rest (a.put o.dst v)) : wpQuiet P ops (fun w' => ∃ x, w' = F x) Q (o :: rest) a :=
  wpQuiet_value (v := v) hw (fun w' ⟨y, hy⟩ => run_load_at1 x ho hx (hc w' (hy ▸ hF.own y)) ht.out) h
theorem wpList_loadAt {Q : Exit → Act → World → Prop} {p : Addr} {l : List Value} {t m : Nat} {x : Operand} (hO : Own W w L) (ho : o.op = .load t x) (hx : a.eval x = .pointer (some p)) (hc : ∀ w', Own W w' L → ∀ j u, l[j]? = some u → w'.cell? (p.add j) = some u) (ht : IsAgg P t m) (hm : l.length = m)
    (hw : Region.wanted o (yielded ops a.tmps) = true) (h : wpList P ops Q rest (a.put o.dst (.agg l.toArray)) w) : wpList P ops Q (o :: rest) a w :=
  wpList_value hw (run_load_at x ho hx (hc w hO) (by rw [ht.out, hm])) h
theorem wpList_loadAt1 {Q : Exit → Act → World → Prop} {p : Addr} {v : Value} {t : Nat} {x : Operand} (hO : Own W w L) (ho : o.op = .load t x) (hx : a.eval x = .pointer (some p)) (hc : ∀ w', Own W w' L → w'.cell? p = some v) (ht : IsOne P t)
    (hw : Region.wanted o (yielded ops a.tmps) = true) (h : wpList P ops Q rest (a.put o.dst v) w) : wpList P ops Q (o :: rest) a w :=
  wpList_value hw (run_load_at1 x ho hx (hc w hO) ht.out) h
end
theorem add0 (a : Addr) : a.add 0 = a := by unfold Addr.add; rw [if_pos rfl]
theorem add0' (a : Addr) (k : Nat) : a.add (0 * k) = a := by rw [Nat.zero_mul, add0]
end Go.Own
namespace Go.Own
open Go.RowKit

/-- The pieces that stay as they are while the region runs. -/
def Held (L : List Ent) (w : World) : Prop := ∀ e ∈ L, e.F w
section
variable {P : Program} {ops : Array Oper} {Q : Exit → Act → World → Prop} {S : World → Prop}
/-- What is asked behind a list of operations: S, and R. -/
def thenQ (Q : Exit → Act → World → Prop) (S : World → Prop) (R : Act → World → Prop) : Exit → Act → World → Prop
  | .normal, a, w => S w ∧ R a w
  | e, a, w => Q e a w
/-- The walk: (number, is it quiet?). -/
def wpHeld (P : Program) (ops : Array Oper) (Q : Exit → Act → World → Prop) (S : World → Prop) : List (Nat × Bool) → Act → World → Prop
  | [], a, w => Q .normal a w
  | (i, true) :: rest, a, w => ∃ v, YieldsIf P ops S (ops.getD i default) v a ∧ wpHeld P ops Q S rest (a.put (ops.getD i default).dst v) w
  | (i, false) :: rest, a, w => wpList P ops (thenQ Q S (wpHeld P ops Q S rest)) [ops.getD i default] a w
/-- May it be walked so? -/
def schedB (ops : Array Oper) : List (Nat × Bool) → Array Bool → Bool
  | [], listed => (Region.ready .any ops listed).isEmpty
  | (i, true) :: rest, listed => decide (i < ops.size) && Region.free .any ops listed i && (Region.ready .any ops listed).contains i && schedB ops rest (listed.setIfInBounds i true)
  | (i, false) :: rest, listed => decide (i < ops.size) && (Region.ready .any ops listed == [i]) && schedB ops rest (listed.setIfInBounds i true)

theorem wpOp_of_list {i : Nat} {K : Act → World → Prop} {a : Act} {w : World} (hi : i < ops.size) (h : wpList P ops (thenQ Q S K) [ops.getD i default] a w) :
    wpOp P ops Q i (fun a' w' => S w' ∧ K a' w') a w := by
  have e : ops[i]? = some (ops.getD i default) := by simp [hi]
  generalize ops.getD i default = o at *
  unfold wpOp
  simp only [e]
  unfold wpList at h
  by_cases hw : Region.wanted o (yielded ops a.tmps) = true
  · rw [if_pos hw] at h ⊢
    rcases h with h | ⟨h1, a', w', h2⟩
    · left
      unfold Oper.wp at *
      generalize (execOp a.eval o).run P w = r at *
      cases r with
      | ok n w' =>
        cases n <;> simp only [Oper.upon] at h ⊢ <;> first
          | exact h
          | exact Calls.mono h (fun e w'' he => by cases e <;> first | exact he | (obtain ⟨a', w', hq⟩ := he; exact ⟨a', w', hq⟩))
          | exact Rows.mono h (fun _ _ he => he)
      | halt x w' => cases x <;> simp only [Oper.upon] at h ⊢ <;> exact h
    · exact .inr ⟨h1, a', w', h2⟩
  · rw [if_neg hw] at h ⊢
    exact h
theorem anyH_of_sched (hs : Region.noSelect ops = true) (hQ : ∀ c (d : Option Tmp) v a w, Q (.panic c) (Act.put a d v) w → Q (.panic c) a w) : ∀ (π : List (Nat × Bool)) (listed : Array Bool) (a : Act) (w : World), schedB ops π listed = true → S w → wpHeld P ops Q S π a w →
    wpAnyH P .any ops Q S π.length listed a w
  | [], listed, a, w, hB, _, h => wpAnyH_done (by simpa [schedB] using hB) h 0
  | (i, true) :: rest, listed, a, w, hB, hS, h => by
    simp only [schedB, Bool.and_eq_true, decide_eq_true_eq] at hB
    obtain ⟨⟨⟨h1, h2⟩, h3⟩, h4⟩ := hB
    obtain ⟨v, hy, hr⟩ := h
    exact wpAnyH_take (by simp [h1]) hs h2 h3 (fun c a w => hQ c _ _ a w) hy hS (anyH_of_sched hs hQ rest _ _ w h4 hS hr)
  | (i, false) :: rest, listed, a, w, hB, hS, h => by
    simp only [schedB, Bool.and_eq_true, decide_eq_true_eq, beq_iff_eq] at hB
    obtain ⟨⟨h1, h2⟩, h3⟩ := hB
    refine wpAnyH_all h2 (by simp) (fun j hj => ?_)
    obtain rfl := List.mem_singleton.1 hj
    have h5 := wpOp_of_list (K := wpHeld P ops Q S rest) h1 h
    exact wpOp_mono (fun a' w' h6 => ⟨h6.1, anyH_of_sched hs hQ rest _ a' w' h3 h6.1 h6.2⟩) h5
end
section
variable {P : Program}
/-- The beginning: L the call's own pieces, Ls those among them that stay. -/
theorem region_sched {Q : Exit → Act → World → Prop} {W w : World} {L : List Ent} {id : Nat} {a : Act} {l : List Oper} (Ls : List Ent) (π : List (Nat × Bool)) (hO : Own W w L) (hLs : Ls.Sublist L) (hm : P.follows .mixedOrders = true)
    (hB : (Region.noSelect l.toArray && decide (π.length = l.length) && schedB l.toArray π (Array.replicate l.toArray.size false)) = true)
    (h : ∀ w', Own W w' L → wpHeld P l.toArray (NoPanic Q) (Held Ls) π a w') : (Code.region id l.toArray true).wp P Q a w := by
  simp only [Bool.and_eq_true, decide_eq_true_eq] at hB
  obtain ⟨⟨h1, h2⟩, h3⟩ := hB
  refine wp_region_noPanic (wp_region_held (S := Held Ls) hm ?_)
  have hO' := hO.drew
  have := anyH_of_sched (P := P) (Q := NoPanic Q) (S := Held Ls) h1 (fun _ _ _ _ _ hh => (hh : False).elim) π _ a _ h3 (fun e he => hO'.has e (hLs.mem he)) (h _ hO')
  rw [h2] at this
  simpa using this
end
end Go.Own
namespace Go.Own
open Go.RowKit

section
variable {P : Program} {ops : Array Oper} {Q : Exit → Act → World → Prop} {md : Region.Mode} {S : Nat → World → World → Prop} {T : World → Prop}
/-- Does j wait for i, by others too? -/
def waitsT (md : Region.Mode) (ops : Array Oper) (i : Nat) : Nat → Nat → Bool
  | 0, _ => false
  | n + 1, j => match ops[j]? with
    | some o => o.after.any fun e => Region.binds md e && (e.on == i || waitsT md ops i n e.on)
    | none => false
/-- What has come up, has come up behind what it waits for. -/
def ClosedL (md : Region.Mode) (ops : Array Oper) (listed : Array Bool) : Prop := ∀ j o, listed.getD j false = true → ops[j]? = some o → ∀ e ∈ o.after, Region.binds md e = true → listed.getD e.on false = true
theorem ClosedL.waits {listed : Array Bool} (hc : ClosedL md ops listed) {i : Nat} (hi : listed.getD i false = false) : ∀ n j, (∀ o, ops[j]? = some o → ∀ e ∈ o.after, Region.binds md e = true → listed.getD e.on false = true) → waitsT md ops i n j = false
  | 0, _, _ => rfl
  | n + 1, j, h => by
    unfold waitsT
    split
    · rename_i o ho
      rw [Array.any_eq_false]
      intro k hk
      simp only [Bool.and_eq_true, Bool.or_eq_true, beq_iff_eq]
      rintro ⟨hb, h1⟩
      have h2 := h o ho _ (Array.getElem_mem hk) hb
      rcases h1 with h1 | h1
      · rw [h1, hi] at h2; cases h2
      · rw [hc.waits hi n _ (fun o' ho' => hc _ o' h2 ho')] at h1; cases h1
    · rfl
theorem ClosedL.set {listed : Array Bool} (hc : ClosedL md ops listed) {i : Nat} (hi : i ∈ Region.ready md ops listed) : ClosedL md ops (listed.setIfInBounds i true) := by
  intro j o hj ho e he hb
  refine getD_set_true ?_
  by_cases hji : i = j
  · subst hji
    obtain ⟨_, o', ho', h⟩ := mem_ready.1 hi
    rw [ho] at ho'
    cases ho'
    exact h e he hb
  · rw [getD_set_ne false hji] at hj
    exact hc j o hj ho e he hb
/-- Whatever comes up: behind number i stands S i, of the worlds before and behind it. -/
def wpEach (P : Program) (md : Region.Mode) (ops : Array Oper) (Q : Exit → Act → World → Prop) (S : Nat → World → World → Prop) : Nat → Array Bool → Act → World → Prop
  | 0, l, a, w => Region.ready md ops l = [] ∧ Q .normal a w
  | n + 1, l, a, w => (Region.ready md ops l = [] → Q .normal a w) ∧ ∀ i ∈ Region.ready md ops l, wpOp P ops Q i (fun a' w' => S i w w' ∧ wpEach P md ops Q S n (l.setIfInBounds i true) a' w') a w
theorem wpAny_of_each : ∀ (n : Nat) (l : Array Bool) (a : Act) (w : World), wpEach P md ops Q S n l a w → wpAny P md ops Q n l a w
  | 0, _, _, _, h => h
  | n + 1, _, _, _, h => ⟨h.1, fun i hi => wpOp_mono (fun a' w' h' => wpAny_of_each n _ a' w' h'.2) (h.2 i hi)⟩
theorem wpEach_take {i m : Nat} {oi : Oper} {v : Value} (hi : ops[i]? = some oi) (hs : Region.noSelect ops = true) (hQ : ∀ c a w, Q (.panic c) (a.put oi.dst v) w → Q (.panic c) a w) (hSi : ∀ w, S i w w) : ∀ (n : Nat) (l : Array Bool) (a : Act) (w : World),
    (∀ j oj, ops[j]? = some oj → j ≠ i → l.getD j true = false → (∀ e ∈ oj.after, Region.binds md e = true → e.on ≠ i) → oi.apart ops oj = true) →
    (∀ j, j < ops.size → j ≠ i → l.getD j true = false → waitsT md ops i m j = false → ∀ w w', S j w w' → T w → T w') → ClosedL md ops l → i ∈ Region.ready md ops l → YieldsIf P ops T oi v a → T w →
    wpEach P md ops Q S n (l.setIfInBounds i true) (a.put oi.dst v) w → wpEach P md ops Q S (n + 1) l a w := by
  intro n
  induction n with
  | zero =>
    intro l a w _ _ _ hr hy hT H
    refine ⟨fun h => (by rw [h] at hr; cases hr), fun j hj => ?_⟩
    by_cases hji : j = i
    · subst hji; exact hy.wpOp hi hT ⟨hSi _, H⟩
    · have h0 := ready_mono hj hji
      rw [H.1] at h0
      cases h0
  | succ n ih =>
    intro l a w hfree hB hc hr hy hT H
    refine ⟨fun h => (by rw [h] at hr; cases hr), fun j hj => ?_⟩
    by_cases hji : j = i
    · subst hji; exact hy.wpOp hi hT ⟨hSi _, H⟩
    · have h1 := H.2 j (ready_mono hj hji)
      obtain ⟨hjun, oj, hoj, hall⟩ := mem_ready.1 hj
      have hjs : j < ops.size := (Array.getElem?_eq_some_iff.1 hoj).1
      have his : i < ops.size := (Array.getElem?_eq_some_iff.1 hi).1
      have hif : l.getD i false = false := by
        have h0 := (mem_ready.1 hr).1
        rcases Nat.lt_or_ge i l.size with h' | h'
        · simp [h'] at h0 ⊢; exact h0
        · simp [Array.getElem?_eq_none h']
      have hnot : ∀ e ∈ oj.after, Region.binds md e = true → e.on ≠ i := fun e he hb heq => by
        have h2 := hall e he hb
        rw [heq, hif] at h2
        cases h2
      have hST := hB j hjs hji hjun (hc.waits hif m j fun o ho => by rw [hoj] at ho; cases ho; exact hall)
      have h2 := wpOp_putIf hoj (hfree j oj hoj hji hjun hnot) (fun cs b => Region.noSelect_spec hs i oi cs b hi) (fun cs b => Region.noSelect_spec hs j oj cs b hoj) hQ hy h1
      have hstill : ∀ k, (l.setIfInBounds j true).getD k true = false → l.getD k true = false := fun k hk => by
        by_cases hjk : j = k
        · subst hjk; exact hjun
        · rw [getD_set_ne true hjk] at hk; exact hk
      refine wpOp_mono (fun a' w' h3 => ⟨h3.2.1, ih (l.setIfInBounds j true) a' w' (fun k ok hk hki hun hno => hfree k ok hk hki (hstill k hun) hno) (fun k hk hki hun => hB k hk hki (hstill k hun)) (hc.set hj) (ready_mono hr (Ne.symm hji)) h3.1 (hST _ _ h3.2.1 hT) ?_⟩) h2
      rw [Array.setIfInBounds_comm _ _ hji]
      exact h3.2.2

/-- Does it read memory? -/
def readsB (ops : Array Oper) (i : Nat) : Bool := match (ops.getD i default).op with
  | .load _ _ => true
  | .lookup _ _ _ _ => true
  | _ => false
/-- What a quiet one asks of the world: nothing, if it reads no memory. -/
def askS (ops : Array Oper) (T : World → Prop) (i : Nat) (w : World) : Prop := readsB ops i = true → T w
/-- Must the world still bear T behind number j? -/
def keepB (ops : Array Oper) (π : List (Nat × Bool)) (j : Nat) : Bool := π.any fun p => p.2 && readsB ops p.1 && (p.1 == j || !waitsT .any ops p.1 ops.size j)
def keepS (ops : Array Oper) (π : List (Nat × Bool)) (T : World → Prop) (j : Nat) (w : World) : Prop := keepB ops π j = true → T w
/-- Behind a quiet one the world is as it was; behind a loud one T stands, where it is still wanted. -/
def keepW (ops : Array Oper) (π : List (Nat × Bool)) (T : World → Prop) (j : Nat) (w w' : World) : Prop := (π.contains (j, true) = true → w' = w) ∧ (π.contains (j, true) = false → keepS ops π T j w')
/-- The walk: (number, is it quiet?); behind a loud one T is shown where it is still wanted. -/
def wpSched (P : Program) (ops : Array Oper) (Q : Exit → Act → World → Prop) (T : World → Prop) (π : List (Nat × Bool)) : List (Nat × Bool) → Act → World → Prop
  | [], a, w => Q .normal a w
  | (i, true) :: rest, a, w => ∃ v, YieldsIf P ops (askS ops T i) (ops.getD i default) v a ∧ wpSched P ops Q T π rest (a.put (ops.getD i default).dst v) w
  | (i, false) :: rest, a, w => wpList P ops (thenQ Q (keepS ops π T i) (wpSched P ops Q T π rest)) [ops.getD i default] a w
def schedC (ops : Array Oper) (π : List (Nat × Bool)) : List (Nat × Bool) → Array Bool → Bool
  | [], l => (Region.ready .any ops l).isEmpty
  | (i, true) :: rest, l => decide (i < ops.size) && Region.free .any ops l i && (Region.ready .any ops l).contains i && π.contains (i, true) && (!readsB ops i || ((List.range ops.size).all fun j => j == i || l.getD j true || waitsT .any ops i ops.size j || keepB ops π j || π.contains (j, true))) && schedC ops π rest (l.setIfInBounds i true)
  | (i, false) :: rest, l => decide (i < ops.size) && (Region.ready .any ops l == [i]) && !(π.contains (i, true)) && (keepB ops π i || !(rest.any fun p => p.2 && readsB ops p.1)) && schedC ops π rest (l.setIfInBounds i true)
theorem each_of_sched (hs : Region.noSelect ops = true) (hQ : ∀ c (d : Option Tmp) v a w, Q (.panic c) (Act.put a d v) w → Q (.panic c) a w) (π : List (Nat × Bool)) : ∀ (ρ : List (Nat × Bool)) (l : Array Bool) (a : Act) (w : World), schedC ops π ρ l = true → ClosedL .any ops l → ((ρ.any fun p => p.2 && readsB ops p.1) = true → T w) → wpSched P ops Q T π ρ a w →
    wpEach P .any ops Q (keepW ops π T) ρ.length l a w
  | [], l, a, w, hB, _, _, h => ⟨by simpa [schedC] using hB, h⟩
  | (i, true) :: rest, l, a, w, hB, hc, hT, h => by
    simp only [schedC, Bool.and_eq_true, decide_eq_true_eq] at hB
    obtain ⟨⟨⟨⟨⟨h1, h2⟩, h3⟩, h5⟩, h6⟩, h4⟩ := hB
    obtain ⟨v, hy, hr⟩ := h
    have hTw : askS ops T i w := fun hb => hT (by simp [hb])
    have e : ops[i]? = some (ops.getD i default) := by simp [h1]
    have hrd : i ∈ Region.ready .any ops l := by simpa using h3
    refine wpEach_take (m := ops.size) (T := askS ops T i) e hs (fun c a w => hQ c _ _ a w) (fun w => ⟨fun _ => rfl, fun hf => (by rw [h5] at hf; cases hf)⟩) _ _ _ _ (Region.free_spec e h2) (fun j hj hji hun hwt w w' hS hT hb => ?_) hc hrd hy hTw (each_of_sched hs hQ π rest _ _ w h4 (hc.set hrd) (fun hb => hT (by rw [List.any_cons, hb, Bool.or_true])) hr)
    rw [hb, Bool.not_true, Bool.false_or, List.all_eq_true] at h6
    have h7 := h6 j (List.mem_range.2 hj)
    simp only [Bool.or_eq_true, beq_iff_eq] at h7
    cases hq : π.contains (j, true)
    · rcases h7 with (((h | h) | h) | h) | h
      · exact absurd h hji
      · rw [hun] at h; cases h
      · rw [hwt] at h; cases h
      · exact hS.2 hq h
      · rw [hq] at h; cases h
    · rw [hS.1 hq]; exact hT hb
  | (i, false) :: rest, l, a, w, hB, hc, hT, h => by
    simp only [schedC, Bool.and_eq_true, decide_eq_true_eq, beq_iff_eq, Bool.or_eq_true, Bool.not_eq_true'] at hB
    obtain ⟨⟨⟨⟨h1, h2⟩, h0⟩, h5⟩, h3⟩ := hB
    refine ⟨fun h0 => (by rw [h2] at h0; cases h0), fun j hj => ?_⟩
    have hj' := hj
    rw [h2] at hj'
    obtain rfl := List.mem_singleton.1 hj'
    refine wpOp_mono (fun a' w' h6 => ⟨⟨fun ht => (by rw [h0] at ht; cases ht), fun _ => h6.1⟩, each_of_sched hs hQ π rest _ a' w' h3 (hc.set hj) (fun hq => ?_) h6.2⟩) (wpOp_of_list (K := wpSched P ops Q T π rest) h1 h)
    rcases h5 with h5 | h5
    · exact h6.1 h5
    · rw [h5] at hq; cases hq
end
section
variable {P : Program} {Q : Exit → Act → World → Prop} {T : World → Prop} {π rest : List (Nat × Bool)} {i : Nat} {l : List Oper} {a : Act} {w : World} {o : Oper}
theorem getD_of {l : List Oper} {i : Nat} {o : Oper} (h : l[i]? = some o) : l.toArray.getD i default = o := by simp [h]
theorem wpSched_nil (h : Q .normal a w) : wpSched P l.toArray Q T π [] a w := h
theorem wpSched_end {Q : Exit → Act → World → Prop} (h : Q .normal a w) : wpSched P l.toArray (NoPanic Q) T π [] a w := h
theorem readsB_of {t : TypeId} {x : Operand} (ho : l[i]? = some o) (hop : o.op = .load t x) : readsB l.toArray i = true := by
  unfold readsB
  rw [getD_of ho, hop]
theorem readsB_look {t : TypeId} {x y : Operand} {c : Bool} (ho : l[i]? = some o) (hop : o.op = .lookup t x y c) : readsB l.toArray i = true := by
  unfold readsB
  rw [getD_of ho, hop]
theorem wpSched_look {v : Value} {t : TypeId} {x y : Operand} {c : Bool} (ho : l[i]? = some o) (hop : o.op = .lookup t x y c) (hw : Region.wanted o (yielded l.toArray a.tmps) = true) (hr : ∀ w', T w' → (execOp a.eval o).run P w' = .ok (.value v) w') (h : wpSched P l.toArray Q T π rest (a.put o.dst v) w) :
    wpSched P l.toArray Q T π ((i, true) :: rest) a w := by
  refine ⟨v, ?_, ?_⟩ <;> rw [getD_of ho]
  · exact .inl ⟨hw, fun w' h => hr w' (h (readsB_look ho hop))⟩
  · exact h
theorem wpSched_value {v : Value} {t : TypeId} {x : Operand} (ho : l[i]? = some o) (hop : o.op = .load t x) (hw : Region.wanted o (yielded l.toArray a.tmps) = true) (hr : ∀ w', T w' → (execOp a.eval o).run P w' = .ok (.value v) w') (h : wpSched P l.toArray Q T π rest (a.put o.dst v) w) :
    wpSched P l.toArray Q T π ((i, true) :: rest) a w := by
  refine ⟨v, ?_, ?_⟩ <;> rw [getD_of ho]
  · exact .inl ⟨hw, fun w' h => hr w' (h (readsB_of ho hop))⟩
  · exact h
theorem wpSched_pure {v : Value} (ho : l[i]? = some o) (hw : Region.wanted o (yielded l.toArray a.tmps) = true) (hr : ∀ w', (execOp a.eval o).run P w' = .ok (.value v) w') (h : wpSched P l.toArray Q T π rest (a.put o.dst v) w) :
    wpSched P l.toArray Q T π ((i, true) :: rest) a w := by
  refine ⟨v, ?_, ?_⟩ <;> rw [getD_of ho]
  · exact .inl ⟨hw, fun w' _ => hr w'⟩
  · exact h
theorem wpSched_skip (ho : l[i]? = some o) (hw : Region.wanted o (yielded l.toArray a.tmps) = false) (h : wpSched P l.toArray Q T π rest (a.put o.dst undef) w) :
    wpSched P l.toArray Q T π ((i, true) :: rest) a w := by
  refine ⟨undef, ?_, ?_⟩ <;> rw [getD_of ho]
  · exact .inr ⟨hw, rfl⟩
  · exact h
theorem wpSched_loud (ho : l[i]? = some o) (h : wpList P l.toArray (thenQ Q (keepS l.toArray π T i) (wpSched P l.toArray Q T π rest)) [o] a w) :
    wpSched P l.toArray Q T π ((i, false) :: rest) a w := by
  unfold wpSched
  rw [getD_of ho]
  exact h
theorem thenQ_free {S : World → Prop} {R : Act → World → Prop} (hb : keepB l.toArray π i = false) (h : R a w) : thenQ Q (keepS l.toArray π S i) R .normal a w := ⟨fun hk => (by rw [hb] at hk; cases hk), h⟩
theorem thenQ_keep {S : World → Prop} {R : Act → World → Prop} (hs : S w) (h : R a w) : thenQ Q (keepS l.toArray π S i) R .normal a w := ⟨fun _ => hs, h⟩
/-- The pieces that stay, of those that are the call's own. -/
theorem Own.held {W w : World} {L Ls : List Ent} (h : Own W w L) (hs : Ls.Sublist L) : Held Ls w := fun e he => h.has e (hs.mem he)
variable {Ls Ls' : List Ent}
theorem wpSched_loadAll {b n : Nat} {cs : List Value} {U t : TypeId} {x : Operand} (ho : l[i]? = some o) (hop : o.op = .load t x) (hx : a.eval x = .pointer (some ⟨b, 0, none⟩)) (hat : At (box b (.cells cs.toArray U)) (box b (.cells cs.toArray U)) Ls Ls')
    (ht : IsAgg P t n) (hn : cs.length = n) (hw : Region.wanted o (yielded l.toArray a.tmps) = true) (h : wpSched P l.toArray Q (Held Ls) π rest (a.put o.dst (.agg cs.toArray)) w) : wpSched P l.toArray Q (Held Ls) π ((i, true) :: rest) a w :=
  wpSched_value ho hop hw (fun w' hw' => run_load_at x hop hx (fun j v hv => by rw [addAt, cellAt (hw' _ hat.mem)]; simpa using hv) (by rw [hn]; exact ht.1)) h
theorem wpSched_loadOne {b off : Nat} {cs : List Value} {v : Value} {U t : TypeId} {x : Operand} (ho : l[i]? = some o) (hop : o.op = .load t x) (hx : a.eval x = .pointer (some ⟨b, off, none⟩)) (hat : At (box b (.cells cs.toArray U)) (box b (.cells cs.toArray U)) Ls Ls')
    (hv : cs[off]? = some v) (ht : IsOne P t) (hw : Region.wanted o (yielded l.toArray a.tmps) = true) (h : wpSched P l.toArray Q (Held Ls) π rest (a.put o.dst v) w) : wpSched P l.toArray Q (Held Ls) π ((i, true) :: rest) a w :=
  wpSched_value ho hop hw (fun w' hw' => run_load_at1 x hop hx (by rw [cellAt (hw' _ hat.mem)]; exact hv) ht.1) h
end
section
variable {P : Program}
/-- The beginning: L the call's own pieces, Ls those among them that stay till all that is quiet has come up. -/
theorem region_sched2 {Q : Exit → Act → World → Prop} {W w : World} {L : List Ent} {id : Nat} {a : Act} {l : List Oper} (Ls : List Ent) (π : List (Nat × Bool)) (hO : Own W w L) (hLs : Ls.Sublist L) (hm : P.follows .mixedOrders = true)
    (hB : (Region.noSelect l.toArray && decide (π.length = l.length) && schedC l.toArray π π (Array.replicate l.toArray.size false)) = true)
    (h : ∀ w', Own W w' L → wpSched P l.toArray (NoPanic Q) (Held Ls) π π a w') : (Code.region id l.toArray true).wp P Q a w := by
  simp only [Bool.and_eq_true, decide_eq_true_eq] at hB
  obtain ⟨⟨h1, h2⟩, h3⟩ := hB
  refine wp_region_noPanic (wp_region_any hm (wpAny_of_each (S := keepW l.toArray π (Held Ls)) _ _ _ _ ?_))
  have hO' := hO.drew
  have := each_of_sched (P := P) (Q := NoPanic Q) (T := Held Ls) h1 (fun _ _ _ _ _ hh => (hh : False).elim) π π _ a _ h3 (fun j o hj => by simp [Array.getElem?_replicate] at hj; split at hj <;> simp at hj) (fun _ e he => hO'.has e (hLs.mem he)) (h _ hO')
  rw [h2] at this
  simpa using this
end
end Go.Own
namespace Go.Own
open Go.RowKit

section
variable {P : Program} {w : World}
theorem run_loadVar_box {b n : Nat} {cs : List Value} {T t : TypeId} (hb : w.heap[b]? = some (.cells cs.toArray T)) (ht : IsAgg P t n) (hn : cs.length = n) : (loadVar t ⟨b, 0, none⟩).run P w = .ok (.agg cs.toArray) w := by
  have hc : (loadCells ⟨b, 0, none⟩ cs.length).run P w = .ok cs.toArray w := run_loadCells_list (P := P) w _ cs (fun j v hv => by rw [addAt, cellAt hb]; simpa using hv)
  obtain ⟨h1, h2⟩ := run_isAgg_yes ht.out w
  rw [hn] at hc
  simp [loadVar, h1, h2, hc]
/-- A result that lies in a box of the call's own, and one that does not. -/
theorem results_box {fn : Func} {tmps : Array Value} {i j t n b : Nat} {cs : List Value} {T : TypeId} {u : Value} {W : World} {L L' : List Ent} (hO : Own W w L) (hr : fn.results = #[.cell i t, .tmp j]) (hi : tmps.getD i undef = .pointer (some ⟨b, 0, none⟩))
    (hat : At (box b (.cells cs.toArray T)) (box b (.cells cs.toArray T)) L L') (ht : IsAgg P t n) (hn : cs.length = n) (hj : tmps.getD j undef = u) : (results fn tmps).run P w = .ok (.tuple #[.agg cs.toArray, u]) w := by
  have h1 := run_loadVar_box (P := P) (hO.has _ hat.mem) ht hn
  simp only [Array.getD_eq_getD_getElem?] at hi hj
  have ha : asAddr (tmps[i]?.getD undef) = (pure ⟨b, 0, none⟩ : Sem Addr) := by rw [hi]; rfl
  unfold results
  rw [hr]
  simp [ha, h1, hj]
end
section
variable {P : Program} {Q : Exit → Act → World → Prop} {π rest : List (Nat × Bool)} {i : Nat} {l : List Oper} {a : Act} {w : World} {o : Oper} {Ls Ls' : List Ent}
theorem Held.rowAt {t k n c i : Nat} {q : Addr} {A : List (List Value)} {l : List Value} (h : Held Ls w) (hat : At (row t k (.slice (some q) n c) A) (row t k (.slice (some q) n c) A) Ls Ls') (hA : ∀ l ∈ A, l.length = k) (hl : A[i]? = some l) :
    ∀ j u, l[j]? = some u → w.cell? ((q.add (i * k)).add j) = some u := by
  have hF := isL_of_owns hA (h _ hat.mem)
  intro j u hu
  obtain ⟨hi, rfl⟩ := List.getElem?_eq_some_iff.1 hl
  cases hF with
  | none sp sc hn => simp at hi
  | some a' cap L'' hlen hcap h0 hR => exact hR.c i hi j u hu
theorem Held.rowAt1 {t n c i : Nat} {q : Addr} {A : List (List Value)} {u : Value} (h : Held Ls w) (hat : At (row t 1 (.slice (some q) n c) A) (row t 1 (.slice (some q) n c) A) Ls Ls') (hA : ∀ l ∈ A, l.length = 1) (hl : A[i]? = some [u]) :
    w.cell? (q.add i) = some u := by
  have := h.rowAt hat hA hl 0 u rfl
  rwa [Nat.mul_one, add0] at this
theorem Held.rowAt0 {t n c : Nat} {q : Addr} {A : List (List Value)} {u : Value} (h : Held Ls w) (hat : At (row t 1 (.slice (some q) n c) A) (row t 1 (.slice (some q) n c) A) Ls Ls') (hA : ∀ l ∈ A, l.length = 1) (hl : A[0]? = some [u]) :
    w.cell? q = some u := by
  have := h.rowAt1 hat hA hl
  rwa [add0] at this
theorem Held.rowAtS {t n c i : Nat} {q : Addr} {A : List (List Value)} {u : Value} (h : Held Ls w) (hat : At (row t 1 (.slice (some q) n c) A) (row t 1 (.slice (some q) n c) A) Ls Ls') (hA : ∀ l ∈ A, l.length = 1) (hl : A[i + 1]? = some [u]) :
    w.cell? ⟨q.block, q.off + (i + 1), none⟩ = some u := by
  have := h.rowAt1 hat hA hl
  rwa [lAdd1] at this
theorem wpSched_loadAt {T : World → Prop} {p : Addr} {cs : List Value} {t m : Nat} {x : Operand} (ho : l[i]? = some o) (hop : o.op = .load t x) (hx : a.eval x = .pointer (some p)) (hc : ∀ w', T w' → ∀ j u, cs[j]? = some u → w'.cell? (p.add j) = some u) (ht : IsAgg P t m) (hm : cs.length = m)
    (hw : Region.wanted o (yielded l.toArray a.tmps) = true) (h : wpSched P l.toArray Q T π rest (a.put o.dst (.agg cs.toArray)) w) : wpSched P l.toArray Q T π ((i, true) :: rest) a w :=
  wpSched_value ho hop hw (fun w' hw' => run_load_at x hop hx (hc w' hw') (by rw [hm]; exact ht.1)) h
theorem wpSched_loadAt1 {T : World → Prop} {p : Addr} {v : Value} {t : Nat} {x : Operand} (ho : l[i]? = some o) (hop : o.op = .load t x) (hx : a.eval x = .pointer (some p)) (hc : ∀ w', T w' → w'.cell? p = some v) (ht : IsOne P t)
    (hw : Region.wanted o (yielded l.toArray a.tmps) = true) (h : wpSched P l.toArray Q T π rest (a.put o.dst v) w) : wpSched P l.toArray Q T π ((i, true) :: rest) a w :=
  wpSched_value ho hop hw (fun w' hw' => run_load_at1 x hop hx (hc w' hw') ht.1) h
end
section
theorem Own.perm {W w : World} {L L' : List Ent} (h : Own W w L) (hp : L.Perm L') : Own W w L' :=
  ⟨h.grown, fun e he => h.has e (hp.mem_iff.2 he), fun e he => h.ok e (hp.mem_iff.2 he), fun e he => h.lt e (hp.mem_iff.2 he), fun e he => h.new e (hp.mem_iff.2 he),
    (hp.pairwise_iff (fun {_e _f} hef b hb hb' => hef b hb' hb)).1 h.apart⟩
theorem At.front {x y : Ent} : ∀ {L L' : List Ent}, At x y L L' → ∃ M, L.Perm (x :: M) ∧ L'.Perm (y :: M)
  | _, _, .head l => ⟨l, .refl _, .refl _⟩
  | _, _, .tail z l l' h => by
    obtain ⟨M, h1, h2⟩ := h.front
    exact ⟨z :: M, (h1.cons z).trans (.swap _ _ _), (h2.cons z).trans (.swap _ _ _)⟩
end
end Go.Own
namespace Go.Proofs.YtibabfedpdoofaaDoor

structure Pst where
  id : ByteArray
  o : Int
  d : Int
  c : Int
  a : Int
deriving DecidableEq

def inI (n : Int) : Bool := decide (-9223372036854775808 ≤ n ∧ n ≤ 9223372036854775807)
theorem inI_iff {n : Int} : inI n = true ↔ -9223372036854775808 ≤ n ∧ n ≤ 9223372036854775807 := by simp [inI]
def addI (a b : Int) : Int × Bool := if inI (a + b) = true then (a + b, true) else (0, false)
def subI (a b : Int) : Int × Bool := if inI (a - b) = true then (a - b, true) else (0, false)
def acct (n : Int) : Bool := decide (0 ≤ n ∧ n ≤ 4)
def mayPst (p : Pst) : Bool := decide (p.id.size ≠ 0 ∧ 1 ≤ p.o ∧ 0 ≤ p.d ∧ p.d ≤ 4 ∧ 0 ≤ p.c ∧ p.c ≤ 4 ∧ p.d ≠ p.c ∧ 0 ≤ p.a)
theorem mayPst_iff {p : Pst} : mayPst p = true ↔ p.id.size ≠ 0 ∧ 1 ≤ p.o ∧ 0 ≤ p.d ∧ p.d ≤ 4 ∧ 0 ≤ p.c ∧ p.c ≤ 4 ∧ p.d ≠ p.c ∧ 0 ≤ p.a := by simp [mayPst]
/-- What a posting moves. -/
def delta (p : Pst) (n o : Int) : Int := if o ≠ 0 ∧ p.o ≠ o then 0 else if p.d = n then p.a else if p.c = n then -p.a else 0
def bal : List Pst → Int → Int → Int
  | [], _, _ => 0
  | p :: l, n, o => delta p n o + bal l n o
theorem bal_app (n o : Int) : ∀ l m : List Pst, bal (l ++ m) n o = bal l n o + bal m n o
  | [], m => by simp [bal]
  | p :: l, m => by simp [bal, bal_app n o l m]; omega
theorem bal_snoc (l : List Pst) (p : Pst) (n o : Int) : bal (l ++ [p]) n o = bal l n o + delta p n o := by rw [bal_app]; simp [bal]
def findP (l : List Pst) (id : ByteArray) : Option Pst := l.find? (fun q => decide (q.id = id))
def fitsPst (l : List Pst) (p : Pst) : Bool := inI (bal l p.d 0 + p.a) && inI (bal l p.c 0 - p.a) && (inI (bal l p.d p.o + p.a) && inI (bal l p.c p.o - p.a))
def postE (l : List Pst) (p : Pst) : Int := if mayPst p = true then (match findP l p.id with
  | some q => if q = p then 0 else 91
  | none => if fitsPst l p = true then 0 else 90) else 2
def postL (l : List Pst) (p : Pst) : List Pst := if (mayPst p && ((findP l p.id).isNone && fitsPst l p)) = true then l ++ [p] else l
/-- Lists of postings that books can come to. -/
inductive Bk : List Pst → Prop
  | nil : Bk []
  | snoc (l : List Pst) (p : Pst) (h : Bk l) (hm : mayPst p = true) (hn : findP l p.id = none) (hf : fitsPst l p = true) : Bk (l ++ [p])
theorem Bk.post {l : List Pst} (h : Bk l) (p : Pst) : Bk (postL l p) := by
  unfold postL
  split
  · rename_i hc
    simp only [Bool.and_eq_true] at hc
    exact .snoc l p h hc.1 (by simpa using hc.2.1) hc.2.2
  · exact h
theorem Bk.may {l : List Pst} (h : Bk l) : ∀ p ∈ l, mayPst p = true := by
  induction h with
  | nil => simp
  | snoc l p h hm hn hf ih =>
    intro q hq
    rcases List.mem_append.1 hq with hq | hq
    · exact ih q hq
    · rw [List.mem_singleton.1 hq]; exact hm
theorem delta_inI {p : Pst} (hm : mayPst p = true) (l : List Pst) (hf : fitsPst l p = true) (hl : ∀ n o, inI (bal l n o) = true) (n o : Int) : inI (bal l n o + delta p n o) = true := by
  have hm := mayPst_iff.1 hm
  have h0 := hl n o
  simp only [fitsPst, Bool.and_eq_true] at hf
  unfold delta
  split
  · rw [Int.add_zero]; exact h0
  · rename_i hc
    by_cases ho : o = 0
    · subst ho
      split
      · rename_i hd; subst hd; exact hf.1.1
      · split
        · rename_i hd; subst hd; rw [← Int.sub_eq_add_neg]; exact hf.1.2
        · rw [Int.add_zero]; exact h0
    · obtain rfl : p.o = o := by
        rcases Classical.not_and_iff_not_or_not.1 hc with hc | hc
        · exact absurd ho hc
        · exact Classical.not_not.1 hc
      split
      · rename_i hd; subst hd; exact hf.2.1
      · split
        · rename_i hd; subst hd; rw [← Int.sub_eq_add_neg]; exact hf.2.2
        · rw [Int.add_zero]; exact h0
theorem Bk.bal_in {l : List Pst} (h : Bk l) : ∀ n o, inI (bal l n o) = true := by
  induction h with
  | nil => intro n o; rfl
  | snoc l p h hm hn hf ih => intro n o; rw [bal_snoc]; exact delta_inI hm l hf ih n o
/-- A balance, posting by posting. -/
def stepR (n o : Int) (s : Int × Bool) (p : Pst) : Int × Bool := if s.2 = true then (if o ≠ 0 ∧ p.o ≠ o then s else if p.d = n then addI s.1 p.a else if p.c = n then subI s.1 p.a else s) else s
def sumR (l : List Pst) (n o : Int) : Int × Bool := l.foldl (stepR n o) (0, true)
theorem sumR_snoc (l : List Pst) (p : Pst) (n o : Int) : sumR (l ++ [p]) n o = stepR n o (sumR l n o) p := by simp [sumR, List.foldl_append]
theorem stepR_some {n o m : Int} {p : Pst} (h : inI (m + delta p n o) = true) : stepR n o (m, true) p = (m + delta p n o, true) := by
  unfold stepR
  unfold delta at *
  by_cases hc : o ≠ 0 ∧ p.o ≠ o
  · simp only [if_pos hc, if_true, Int.add_zero]
  · by_cases hd : p.d = n
    · simp only [if_neg hc, if_pos hd, if_true] at h ⊢
      simp only [addI, if_pos h]
    · by_cases he : p.c = n
      · simp only [if_neg hc, if_neg hd, if_pos he, if_true] at h ⊢
        rw [← Int.sub_eq_add_neg] at h ⊢
        simp only [subI, if_pos h]
      · simp only [if_neg hc, if_neg hd, if_neg he, if_true, Int.add_zero]
theorem Bk.sum {l : List Pst} (h : Bk l) (n o : Int) : sumR l n o = (bal l n o, true) := by
  have hi := h.bal_in
  induction h with
  | nil => rfl
  | snoc l p h hm hn hf ih =>
    have hi' := h.bal_in
    rw [sumR_snoc, ih hi', bal_snoc]
    have := hi n o
    rw [bal_snoc] at this
    exact stepR_some this
theorem Bk.sum_more {l : List Pst} (h : Bk l) (p : Pst) (hm : mayPst p = true) : (sumR (l ++ [p]) p.d p.o).2 = inI (bal l p.d p.o + p.a) ∧ (sumR (l ++ [p]) p.c p.o).2 = inI (bal l p.c p.o - p.a) ∧ (sumR (l ++ [p]) p.d 0).2 = inI (bal l p.d 0 + p.a) ∧ (sumR (l ++ [p]) p.c 0).2 = inI (bal l p.c 0 - p.a) := by
  have hm := mayPst_iff.1 hm
  have e : ∀ (x : Int × Bool), stepR p.c p.o x p = stepR p.c p.o x p := fun _ => rfl
  have hdc : ¬ p.d = p.c := hm.2.2.2.2.2.2.1
  refine ⟨?_, ?_, ?_, ?_⟩ <;> rw [sumR_snoc, h.sum] <;> simp only [stepR, addI, subI, if_true, ne_eq, not_true_eq_false, and_false, false_and, if_false, if_neg hdc] <;> split <;> simp_all
theorem bal_none {l : List Pst} (h : Bk l) {n o : Int} (hn : n < 0 ∨ 4 < n ∨ o < 0) : bal l n o = 0 := by
  induction h with
  | nil => rfl
  | snoc l p h hm hn' hf ih =>
    have hm := mayPst_iff.1 hm
    rw [bal_snoc, ih]
    unfold delta
    split
    · rfl
    · rename_i hc
      split
      · omega
      · split <;> omega
theorem addI_in (a b : Int) : inI (addI a b).1 = true := by
  unfold addI
  split
  · assumption
  · rfl
theorem subI_in (a b : Int) : inI (subI a b).1 = true := by
  unfold subI
  split
  · assumption
  · rfl
theorem stepR_in {n o : Int} {s : Int × Bool} {p : Pst} (h : inI s.1 = true) : inI (stepR n o s p).1 = true := by
  unfold stepR
  repeat' split
  all_goals first | exact h | exact addI_in _ _ | exact subI_in _ _
theorem sumR_fold_in (n o : Int) : ∀ (l : List Pst) (s : Int × Bool), inI s.1 = true → inI (l.foldl (stepR n o) s).1 = true
  | [], _, h => h
  | _p :: l, _s, h => sumR_fold_in n o l _ (stepR_in h)
theorem sumR_in (l : List Pst) (n o : Int) : inI (sumR l n o).1 = true := sumR_fold_in n o l _ rfl
theorem fold_stop (n o : Int) : ∀ (l : List Pst) (s : Int × Bool), s.2 = false → l.foldl (stepR n o) s = s
  | [], _, _ => rfl
  | p :: l, s, h => by
    rw [List.foldl_cons, show stepR n o s p = s by unfold stepR; rw [if_neg (by rw [h]; simp)]]
    exact fold_stop n o l s h
theorem sumR_stop {l : List Pst} {n o : Int} {j : Nat} (h : (sumR (l.take j) n o).2 = false) : sumR l n o = sumR (l.take j) n o := by
  conv => lhs; rw [← List.take_append_drop j l]
  unfold sumR at *
  rw [List.foldl_append]
  exact fold_stop n o _ _ h
theorem sumR_take {l : List Pst} {n o : Int} {j : Nat} (h : j < l.length) : sumR (l.take (j + 1)) n o = stepR n o (sumR (l.take j) n o) l[j] := by
  rw [List.take_succ_eq_append_getElem h, sumR_snoc]
/-- The ways through a posting. -/
theorem step_cases (p : Pst) (n o m : Int) : ((o != 0) = true ∧ (p.o != o) = true ∧ stepR n o (m, true) p = (m, true)) ∨ (((o != 0) = false ∨ (o != 0) = true ∧ (p.o != o) = false) ∧
    ((p.d == n) = true ∧ stepR n o (m, true) p = addI m p.a ∨ (p.d == n) = false ∧ (p.c == n) = true ∧ stepR n o (m, true) p = subI m p.a ∨ (p.d == n) = false ∧ (p.c == n) = false ∧ stepR n o (m, true) p = (m, true))) := by
  by_cases hc : o ≠ 0 ∧ p.o ≠ o
  · exact .inl ⟨by rw [bne_iff_ne]; exact hc.1, by rw [bne_iff_ne]; exact hc.2, by simp only [stepR, if_pos hc, if_true]⟩
  · refine .inr ⟨?_, ?_⟩
    · by_cases h0 : o = 0
      · exact .inl (by simp [h0])
      · exact .inr ⟨by simp [h0], by simpa [h0] using hc⟩
    · by_cases hd : p.d = n
      · exact .inl ⟨by simp [hd], by simp only [stepR, if_neg hc, if_pos hd, if_true]⟩
      · by_cases he : p.c = n
        · exact .inr (.inl ⟨by simp [hd], by simp [he], by simp only [stepR, if_neg hc, if_neg hd, if_pos he, if_true]⟩)
        · exact .inr (.inr ⟨by simp [hd], by simp [he], by simp only [stepR, if_neg hc, if_neg hd, if_neg he, if_true]⟩)
end Go.Proofs.YtibabfedpdoofaaDoor
namespace Go.Proofs.YtibabfedpdoofaaDoor
open Go.RowKit Go.Own

def pstC (p : Pst) : List Value := [.string p.id, .int .i64 p.o, .int .i64 p.d, .int .i64 p.c, .int .i64 p.a]
def pstV (p : Pst) : Value := .agg (pstC p).toArray
theorem wrap_in {n : Int} (h : inI n = true) : IntKind.i64.wrap n = n := by
  have := inI_iff.1 h
  rw [IntKind.wrap_i64]; omega

set_option maxHeartbeats 4000000 in
theorem mAdd_any {a b : Int} (ha : inI a = true) (hb : inI b = true) (w : World) : Calls Tryd.prog 43 #[.int .i64 a, .int .i64 b] w fun e w' => e = .returned (.tuple #[.int .i64 (addI a b).1, .bool (addI a b).2]) ∧ Below w.heap.size w w' := by
  have h1 := inI_iff.1 ha
  have h2 := inI_iff.1 hb
  have HO := Own.start w
  have HQ := Lib.hid (show addI a b = addI a b from rfl)
  have w1 : IntKind.i64.wrap (9223372036854775807 - b) = if b < 0 then 9223372036854775807 - b - 18446744073709551616 else 9223372036854775807 - b := by rw [IntKind.wrap_i64]; split <;> omega
  have w2 : IntKind.i64.wrap (-9223372036854775808 - b) = if 0 < b then -9223372036854775808 - b + 18446744073709551616 else -9223372036854775808 - b := by rw [IntKind.wrap_i64]; split <;> omega
  by_cases b1 : 0 < b
  · have b2 : ¬ b < 0 := by omega
    rw [if_neg b2] at w1
    by_cases c : 9223372036854775807 - b < a
    · have e : addI a b = (0, false) := by unfold addI; rw [if_neg (by rw [inI_iff]; omega)]
      rw [e]
      clear HQ e ha hb w2
      go_enter Tryd.func43, Tryd.ntmps43
      go_wp2_with fail
      refine bodyPost_ret ?_ rfl ⟨rfl, HO.grown⟩
      (simp only [results, Tryd.results43]; go_simp)
    · have e : addI a b = (a + b, true) := by unfold addI; rw [if_pos (by rw [inI_iff]; omega)]
      have w3 : IntKind.i64.wrap (a + b) = a + b := by rw [IntKind.wrap_i64]; omega
      rw [e]
      clear HQ e ha hb w2
      go_enter Tryd.func43, Tryd.ntmps43
      go_wp2_with fail
      refine bodyPost_ret ?_ rfl ⟨rfl, HO.grown⟩
      (simp only [results, Tryd.results43]; go_simp)
  · by_cases b2 : b < 0
    · rw [if_neg b1] at w2
      by_cases c : a < -9223372036854775808 - b
      · have e : addI a b = (0, false) := by unfold addI; rw [if_neg (by rw [inI_iff]; omega)]
        rw [e]
        clear HQ e ha hb w1
        go_enter Tryd.func43, Tryd.ntmps43
        go_wp2_with fail
        refine bodyPost_ret ?_ rfl ⟨rfl, HO.grown⟩
        (simp only [results, Tryd.results43]; go_simp)
      · have e : addI a b = (a + b, true) := by unfold addI; rw [if_pos (by rw [inI_iff]; omega)]
        have w3 : IntKind.i64.wrap (a + b) = a + b := by rw [IntKind.wrap_i64]; omega
        rw [e]
        clear HQ e ha hb w1
        go_enter Tryd.func43, Tryd.ntmps43
        go_wp2_with fail
        refine bodyPost_ret ?_ rfl ⟨rfl, HO.grown⟩
        (simp only [results, Tryd.results43]; go_simp)
    · have e : addI a b = (a + b, true) := by unfold addI; rw [if_pos (by rw [inI_iff]; omega)]
      have w3 : IntKind.i64.wrap (a + b) = a + b := by rw [IntKind.wrap_i64]; omega
      rw [e]
      clear HQ e ha hb w1 w2
      go_enter Tryd.func43, Tryd.ntmps43
      go_wp2_with fail
      refine bodyPost_ret ?_ rfl ⟨rfl, HO.grown⟩
      (simp only [results, Tryd.results43]; go_simp)

set_option maxHeartbeats 4000000 in
theorem mSub_any {a b : Int} (ha : inI a = true) (hb : inI b = true) (w : World) : Calls Tryd.prog 79 #[.int .i64 a, .int .i64 b] w fun e w' => e = .returned (.tuple #[.int .i64 (subI a b).1, .bool (subI a b).2]) ∧ Below w.heap.size w w' := by
  have h1 := inI_iff.1 ha
  have h2 := inI_iff.1 hb
  have HO := Own.start w
  have w1 : b < 0 → IntKind.i64.wrap (9223372036854775807 + b) = 9223372036854775807 + b := fun _ => by rw [IntKind.wrap_i64]; omega
  have w2 : 0 < b → IntKind.i64.wrap (-9223372036854775808 + b) = -9223372036854775808 + b := fun _ => by rw [IntKind.wrap_i64]; omega
  by_cases b1 : b < 0
  · replace w1 := w1 b1
    have b2 : ¬ 0 < b := by omega
    by_cases c : 9223372036854775807 + b < a
    · have e : subI a b = (0, false) := by unfold subI; rw [if_neg (by rw [inI_iff]; omega)]
      rw [e]
      clear e ha hb w2
      go_enter Tryd.func79, Tryd.ntmps79
      go_wp2_with fail
      refine bodyPost_ret ?_ rfl ⟨rfl, HO.grown⟩
      (simp only [results, Tryd.results79]; go_simp)
    · have e : subI a b = (a - b, true) := by unfold subI; rw [if_pos (by rw [inI_iff]; omega)]
      have w3 : IntKind.i64.wrap (a - b) = a - b := by rw [IntKind.wrap_i64]; omega
      rw [e]
      clear e ha hb w2
      go_enter Tryd.func79, Tryd.ntmps79
      go_wp2_with fail
      refine bodyPost_ret ?_ rfl ⟨rfl, HO.grown⟩
      (simp only [results, Tryd.results79]; go_simp)
  · by_cases b2 : 0 < b
    · replace w2 := w2 b2
      by_cases c : a < -9223372036854775808 + b
      · have e : subI a b = (0, false) := by unfold subI; rw [if_neg (by rw [inI_iff]; omega)]
        rw [e]
        clear e ha hb w1
        go_enter Tryd.func79, Tryd.ntmps79
        go_wp2_with fail
        refine bodyPost_ret ?_ rfl ⟨rfl, HO.grown⟩
        (simp only [results, Tryd.results79]; go_simp)
      · have e : subI a b = (a - b, true) := by unfold subI; rw [if_pos (by rw [inI_iff]; omega)]
        have w3 : IntKind.i64.wrap (a - b) = a - b := by rw [IntKind.wrap_i64]; omega
        rw [e]
        clear e ha hb w1
        go_enter Tryd.func79, Tryd.ntmps79
        go_wp2_with fail
        refine bodyPost_ret ?_ rfl ⟨rfl, HO.grown⟩
        (simp only [results, Tryd.results79]; go_simp)
    · have e : subI a b = (a - b, true) := by unfold subI; rw [if_pos (by rw [inI_iff]; omega)]
      have w3 : IntKind.i64.wrap (a - b) = a - b := by rw [IntKind.wrap_i64]; omega
      rw [e]
      clear e ha hb w1 w2
      go_enter Tryd.func79, Tryd.ntmps79
      go_wp2_with fail
      refine bodyPost_ret ?_ rfl ⟨rfl, HO.grown⟩
      (simp only [results, Tryd.results79]; go_simp)

theorem wrap_cases {n : Int} (h : -18446744073709551616 ≤ n ∧ n ≤ 18446744073709551615) : (inI n = true ∧ IntKind.i64.wrap n = n) ∨ (9223372036854775807 < n ∧ IntKind.i64.wrap n = n - 18446744073709551616) ∨ (n < -9223372036854775808 ∧ IntKind.i64.wrap n = n + 18446744073709551616) := by
  rw [inI_iff, IntKind.wrap_i64]; omega

set_option maxHeartbeats 4000000 in
theorem acct_any (n : Int) (w : World) : Calls Tryd.prog 78 #[.int .i64 n] w fun e w' => e = .returned (.bool (acct n)) ∧ Below w.heap.size w w' := by
  have HO := Own.start w
  by_cases h1 : 0 ≤ n <;> by_cases h2 : n ≤ 4
  all_goals
    go_enter Tryd.func78, Tryd.ntmps78
    go_wp2_with fail
    go_ret
    exact ⟨by simp [acct, h1, h2], HO.grown⟩
end Go.Proofs.YtibabfedpdoofaaDoor
namespace Go.Proofs.YtibabfedpdoofaaDoor
open Go.RowKit Go.Own

/-- A posting as Go can hold it. -/
structure WfP (p : Pst) : Prop where
  o : inI p.o = true
  d : inI p.d = true
  c : inI p.c = true
  a : inI p.a = true
  s : p.id.size ≤ maxLen

theorem size0 {b : ByteArray} (h : b.size = 0) : b = ⟨#[]⟩ := by
  obtain ⟨⟨l⟩⟩ := b
  have : l.length = 0 := h
  rw [List.length_eq_zero_iff.1 this]
theorem ne0 {b : ByteArray} (h : ¬ b.size = 0) : b.toList.isEmpty = false := by
  rw [ByteArray.toList_eq]
  obtain ⟨⟨l⟩⟩ := b
  cases l with
  | nil => exact absurd rfl h
  | cons x l => rfl
set_option maxHeartbeats 4000000 in
set_option maxRecDepth 100000 in
theorem mayB_any (p : Pst) (w : World) : Calls Tryd.prog 59 #[pstV p] w fun e w' => e = .returned (.bool (mayPst p)) ∧ Below w.heap.size w w' := by
  have HQ := Lib.hid (fun p => @mayPst_iff p)
  obtain ⟨id, o, d, c, a⟩ := p
  have HO := Own.start w
  have HF := HO
  simp only [pstV, pstC]
  by_cases h1 : id.size = 0
  · have e1 : id = ⟨#[]⟩ := size0 h1
    subst e1
    clear HF
    go_enter Tryd.func59, Tryd.ntmps59
    go_wp2_with (first | (first | go_big_skip | ((with_reducible apply wpList_loadAll HO); exact rfl; exact rfl; (repeat (with_reducible (first | exact At.head _ | apply At.tail))); infer_instance; exact rfl; exact rfl; (simp only [Act.put, List.setIfInBounds_toArray, List.set_cons_succ, List.set_cons_zero])) | ((with_reducible apply wpList_loadOne HO); exact rfl; exact rfl; (repeat (with_reducible (first | exact At.head _ | apply At.tail))); exact rfl; infer_instance; exact rfl; (simp only [Act.put, List.setIfInBounds_toArray, List.set_cons_succ, List.set_cons_zero])) | ((with_reducible apply wpList_storeAll HO); exact rfl; exact rfl; exact rfl; (repeat (with_reducible (first | exact At.head _ | apply At.tail))); infer_instance; exact rfl; exact rfl; exact rfl; exact rfl; clear HO; intro w HO; (simp only [Act.put])) | (first | ((with_reducible apply wpList_boxAgg _ HO rfl); exact rfl; exact rfl; exact rfl; clear HO; intro b0 w HO; (simp only [Act.put, List.setIfInBounds_toArray, List.set_cons_succ, List.set_cons_zero])) | ((with_reducible apply wpList_allocAgg _ HO rfl); exact rfl; infer_instance; exact rfl; clear HO; intro b0 w HO; (simp only [Act.put, List.setIfInBounds_toArray, List.set_cons_succ, List.set_cons_zero])))) | ((with_reducible apply wpList_loadPart HO); exact rfl; exact rfl; (repeat (with_reducible (first | exact At.head _ | apply At.tail))); infer_instance; exact (Nat.le_of_ble_eq_true rfl); (simp only [List.drop_succ_cons, List.drop_zero, List.take_succ_cons, List.take_zero]; rfl); exact rfl; (simp only [Act.put, List.setIfInBounds_toArray, List.set_cons_succ, List.set_cons_zero])) | (go_at_call 78; go_must ((with_reducible refine (acct_any _ _).mono ?_); rintro e w ⟨rfl, hb⟩; replace HO := HO.call hb; clear hb)))
    go_ret
    refine ⟨ret_bool ?_, HO.grown⟩
    rw [Bool.eq_iff_iff, HQ.out]
    simp only [false_iff, Bool.false_eq_true] <;> (try simp only [acct, decide_eq_true_eq, decide_eq_false_iff_not] at *) <;> omega
  have e1 : id.toList.isEmpty = false := ne0 h1
  by_cases h2 : 1 ≤ o
  rotate_left
  · clear HF
    go_enter Tryd.func59, Tryd.ntmps59
    go_wp2_with (first | (first | go_big_skip | ((with_reducible apply wpList_loadAll HO); exact rfl; exact rfl; (repeat (with_reducible (first | exact At.head _ | apply At.tail))); infer_instance; exact rfl; exact rfl; (simp only [Act.put, List.setIfInBounds_toArray, List.set_cons_succ, List.set_cons_zero])) | ((with_reducible apply wpList_loadOne HO); exact rfl; exact rfl; (repeat (with_reducible (first | exact At.head _ | apply At.tail))); exact rfl; infer_instance; exact rfl; (simp only [Act.put, List.setIfInBounds_toArray, List.set_cons_succ, List.set_cons_zero])) | ((with_reducible apply wpList_storeAll HO); exact rfl; exact rfl; exact rfl; (repeat (with_reducible (first | exact At.head _ | apply At.tail))); infer_instance; exact rfl; exact rfl; exact rfl; exact rfl; clear HO; intro w HO; (simp only [Act.put])) | (first | ((with_reducible apply wpList_boxAgg _ HO rfl); exact rfl; exact rfl; exact rfl; clear HO; intro b0 w HO; (simp only [Act.put, List.setIfInBounds_toArray, List.set_cons_succ, List.set_cons_zero])) | ((with_reducible apply wpList_allocAgg _ HO rfl); exact rfl; infer_instance; exact rfl; clear HO; intro b0 w HO; (simp only [Act.put, List.setIfInBounds_toArray, List.set_cons_succ, List.set_cons_zero])))) | ((with_reducible apply wpList_loadPart HO); exact rfl; exact rfl; (repeat (with_reducible (first | exact At.head _ | apply At.tail))); infer_instance; exact (Nat.le_of_ble_eq_true rfl); (simp only [List.drop_succ_cons, List.drop_zero, List.take_succ_cons, List.take_zero]; rfl); exact rfl; (simp only [Act.put, List.setIfInBounds_toArray, List.set_cons_succ, List.set_cons_zero])) | (go_at_call 78; go_must ((with_reducible refine (acct_any _ _).mono ?_); rintro e w ⟨rfl, hb⟩; replace HO := HO.call hb; clear hb)))
    go_ret
    refine ⟨ret_bool ?_, HO.grown⟩
    rw [Bool.eq_iff_iff, HQ.out]
    simp only [false_iff, Bool.false_eq_true] <;> (try simp only [acct, decide_eq_true_eq, decide_eq_false_iff_not] at *) <;> omega
  cases h3 : acct d
  · clear HF
    go_enter Tryd.func59, Tryd.ntmps59
    go_wp2_with (first | (first | go_big_skip | ((with_reducible apply wpList_loadAll HO); exact rfl; exact rfl; (repeat (with_reducible (first | exact At.head _ | apply At.tail))); infer_instance; exact rfl; exact rfl; (simp only [Act.put, List.setIfInBounds_toArray, List.set_cons_succ, List.set_cons_zero])) | ((with_reducible apply wpList_loadOne HO); exact rfl; exact rfl; (repeat (with_reducible (first | exact At.head _ | apply At.tail))); exact rfl; infer_instance; exact rfl; (simp only [Act.put, List.setIfInBounds_toArray, List.set_cons_succ, List.set_cons_zero])) | ((with_reducible apply wpList_storeAll HO); exact rfl; exact rfl; exact rfl; (repeat (with_reducible (first | exact At.head _ | apply At.tail))); infer_instance; exact rfl; exact rfl; exact rfl; exact rfl; clear HO; intro w HO; (simp only [Act.put])) | (first | ((with_reducible apply wpList_boxAgg _ HO rfl); exact rfl; exact rfl; exact rfl; clear HO; intro b0 w HO; (simp only [Act.put, List.setIfInBounds_toArray, List.set_cons_succ, List.set_cons_zero])) | ((with_reducible apply wpList_allocAgg _ HO rfl); exact rfl; infer_instance; exact rfl; clear HO; intro b0 w HO; (simp only [Act.put, List.setIfInBounds_toArray, List.set_cons_succ, List.set_cons_zero])))) | ((with_reducible apply wpList_loadPart HO); exact rfl; exact rfl; (repeat (with_reducible (first | exact At.head _ | apply At.tail))); infer_instance; exact (Nat.le_of_ble_eq_true rfl); (simp only [List.drop_succ_cons, List.drop_zero, List.take_succ_cons, List.take_zero]; rfl); exact rfl; (simp only [Act.put, List.setIfInBounds_toArray, List.set_cons_succ, List.set_cons_zero])) | (go_at_call 78; go_must ((with_reducible refine (acct_any _ _).mono ?_); rintro e w ⟨rfl, hb⟩; replace HO := HO.call hb; clear hb)))
    go_ret
    refine ⟨ret_bool ?_, HO.grown⟩
    rw [Bool.eq_iff_iff, HQ.out]
    simp only [false_iff, Bool.false_eq_true] <;> (try simp only [acct, decide_eq_false_iff_not] at *) <;> omega
  cases h4 : acct c
  · clear HF
    go_enter Tryd.func59, Tryd.ntmps59
    go_wp2_with (first | (first | go_big_skip | ((with_reducible apply wpList_loadAll HO); exact rfl; exact rfl; (repeat (with_reducible (first | exact At.head _ | apply At.tail))); infer_instance; exact rfl; exact rfl; (simp only [Act.put, List.setIfInBounds_toArray, List.set_cons_succ, List.set_cons_zero])) | ((with_reducible apply wpList_loadOne HO); exact rfl; exact rfl; (repeat (with_reducible (first | exact At.head _ | apply At.tail))); exact rfl; infer_instance; exact rfl; (simp only [Act.put, List.setIfInBounds_toArray, List.set_cons_succ, List.set_cons_zero])) | ((with_reducible apply wpList_storeAll HO); exact rfl; exact rfl; exact rfl; (repeat (with_reducible (first | exact At.head _ | apply At.tail))); infer_instance; exact rfl; exact rfl; exact rfl; exact rfl; clear HO; intro w HO; (simp only [Act.put])) | (first | ((with_reducible apply wpList_boxAgg _ HO rfl); exact rfl; exact rfl; exact rfl; clear HO; intro b0 w HO; (simp only [Act.put, List.setIfInBounds_toArray, List.set_cons_succ, List.set_cons_zero])) | ((with_reducible apply wpList_allocAgg _ HO rfl); exact rfl; infer_instance; exact rfl; clear HO; intro b0 w HO; (simp only [Act.put, List.setIfInBounds_toArray, List.set_cons_succ, List.set_cons_zero])))) | ((with_reducible apply wpList_loadPart HO); exact rfl; exact rfl; (repeat (with_reducible (first | exact At.head _ | apply At.tail))); infer_instance; exact (Nat.le_of_ble_eq_true rfl); (simp only [List.drop_succ_cons, List.drop_zero, List.take_succ_cons, List.take_zero]; rfl); exact rfl; (simp only [Act.put, List.setIfInBounds_toArray, List.set_cons_succ, List.set_cons_zero])) | (go_at_call 78; go_must ((with_reducible refine (acct_any _ _).mono ?_); rintro e w ⟨rfl, hb⟩; replace HO := HO.call hb; clear hb)))
    go_ret
    refine ⟨ret_bool ?_, HO.grown⟩
    rw [Bool.eq_iff_iff, HQ.out]
    simp only [false_iff, Bool.false_eq_true] <;> (try simp only [acct, decide_eq_true_eq, decide_eq_false_iff_not] at *) <;> omega
  by_cases h5 : d = c
  · clear HF
    go_enter Tryd.func59, Tryd.ntmps59
    go_wp2_with (first | (first | go_big_skip | ((with_reducible apply wpList_loadAll HO); exact rfl; exact rfl; (repeat (with_reducible (first | exact At.head _ | apply At.tail))); infer_instance; exact rfl; exact rfl; (simp only [Act.put, List.setIfInBounds_toArray, List.set_cons_succ, List.set_cons_zero])) | ((with_reducible apply wpList_loadOne HO); exact rfl; exact rfl; (repeat (with_reducible (first | exact At.head _ | apply At.tail))); exact rfl; infer_instance; exact rfl; (simp only [Act.put, List.setIfInBounds_toArray, List.set_cons_succ, List.set_cons_zero])) | ((with_reducible apply wpList_storeAll HO); exact rfl; exact rfl; exact rfl; (repeat (with_reducible (first | exact At.head _ | apply At.tail))); infer_instance; exact rfl; exact rfl; exact rfl; exact rfl; clear HO; intro w HO; (simp only [Act.put])) | (first | ((with_reducible apply wpList_boxAgg _ HO rfl); exact rfl; exact rfl; exact rfl; clear HO; intro b0 w HO; (simp only [Act.put, List.setIfInBounds_toArray, List.set_cons_succ, List.set_cons_zero])) | ((with_reducible apply wpList_allocAgg _ HO rfl); exact rfl; infer_instance; exact rfl; clear HO; intro b0 w HO; (simp only [Act.put, List.setIfInBounds_toArray, List.set_cons_succ, List.set_cons_zero])))) | ((with_reducible apply wpList_loadPart HO); exact rfl; exact rfl; (repeat (with_reducible (first | exact At.head _ | apply At.tail))); infer_instance; exact (Nat.le_of_ble_eq_true rfl); (simp only [List.drop_succ_cons, List.drop_zero, List.take_succ_cons, List.take_zero]; rfl); exact rfl; (simp only [Act.put, List.setIfInBounds_toArray, List.set_cons_succ, List.set_cons_zero])) | (go_at_call 78; go_must ((with_reducible refine (acct_any _ _).mono ?_); rintro e w ⟨rfl, hb⟩; replace HO := HO.call hb; clear hb)))
    go_ret
    refine ⟨ret_bool ?_, HO.grown⟩
    rw [Bool.eq_iff_iff, HQ.out]
    simp only [false_iff, Bool.false_eq_true] <;> (try simp only [acct, decide_eq_true_eq] at *) <;> omega
  have e9 : (d != c) = true := by rw [bne_iff_ne]; exact h5
  have e8 : (d == c) = false := by rw [beq_eq_false_iff_ne]; exact h5
  by_cases h6 : 0 ≤ a
  rotate_left
  · clear HF
    go_enter Tryd.func59, Tryd.ntmps59
    go_wp2_with (first | (first | go_big_skip | ((with_reducible apply wpList_loadAll HO); exact rfl; exact rfl; (repeat (with_reducible (first | exact At.head _ | apply At.tail))); infer_instance; exact rfl; exact rfl; (simp only [Act.put, List.setIfInBounds_toArray, List.set_cons_succ, List.set_cons_zero])) | ((with_reducible apply wpList_loadOne HO); exact rfl; exact rfl; (repeat (with_reducible (first | exact At.head _ | apply At.tail))); exact rfl; infer_instance; exact rfl; (simp only [Act.put, List.setIfInBounds_toArray, List.set_cons_succ, List.set_cons_zero])) | ((with_reducible apply wpList_storeAll HO); exact rfl; exact rfl; exact rfl; (repeat (with_reducible (first | exact At.head _ | apply At.tail))); infer_instance; exact rfl; exact rfl; exact rfl; exact rfl; clear HO; intro w HO; (simp only [Act.put])) | (first | ((with_reducible apply wpList_boxAgg _ HO rfl); exact rfl; exact rfl; exact rfl; clear HO; intro b0 w HO; (simp only [Act.put, List.setIfInBounds_toArray, List.set_cons_succ, List.set_cons_zero])) | ((with_reducible apply wpList_allocAgg _ HO rfl); exact rfl; infer_instance; exact rfl; clear HO; intro b0 w HO; (simp only [Act.put, List.setIfInBounds_toArray, List.set_cons_succ, List.set_cons_zero])))) | ((with_reducible apply wpList_loadPart HO); exact rfl; exact rfl; (repeat (with_reducible (first | exact At.head _ | apply At.tail))); infer_instance; exact (Nat.le_of_ble_eq_true rfl); (simp only [List.drop_succ_cons, List.drop_zero, List.take_succ_cons, List.take_zero]; rfl); exact rfl; (simp only [Act.put, List.setIfInBounds_toArray, List.set_cons_succ, List.set_cons_zero])) | (go_at_call 78; go_must ((with_reducible refine (acct_any _ _).mono ?_); rintro e w ⟨rfl, hb⟩; replace HO := HO.call hb; clear hb)))
    go_ret
    refine ⟨ret_bool ?_, HO.grown⟩
    rw [Bool.eq_iff_iff, HQ.out]
    simp only <;> (try simp only [acct, decide_eq_true_eq] at *) <;> omega
  clear HF
  go_enter Tryd.func59, Tryd.ntmps59
  go_wp2_with (first | (first | go_big_skip | ((with_reducible apply wpList_loadAll HO); exact rfl; exact rfl; (repeat (with_reducible (first | exact At.head _ | apply At.tail))); infer_instance; exact rfl; exact rfl; (simp only [Act.put, List.setIfInBounds_toArray, List.set_cons_succ, List.set_cons_zero])) | ((with_reducible apply wpList_loadOne HO); exact rfl; exact rfl; (repeat (with_reducible (first | exact At.head _ | apply At.tail))); exact rfl; infer_instance; exact rfl; (simp only [Act.put, List.setIfInBounds_toArray, List.set_cons_succ, List.set_cons_zero])) | ((with_reducible apply wpList_storeAll HO); exact rfl; exact rfl; exact rfl; (repeat (with_reducible (first | exact At.head _ | apply At.tail))); infer_instance; exact rfl; exact rfl; exact rfl; exact rfl; clear HO; intro w HO; (simp only [Act.put])) | (first | ((with_reducible apply wpList_boxAgg _ HO rfl); exact rfl; exact rfl; exact rfl; clear HO; intro b0 w HO; (simp only [Act.put, List.setIfInBounds_toArray, List.set_cons_succ, List.set_cons_zero])) | ((with_reducible apply wpList_allocAgg _ HO rfl); exact rfl; infer_instance; exact rfl; clear HO; intro b0 w HO; (simp only [Act.put, List.setIfInBounds_toArray, List.set_cons_succ, List.set_cons_zero])))) | ((with_reducible apply wpList_loadPart HO); exact rfl; exact rfl; (repeat (with_reducible (first | exact At.head _ | apply At.tail))); infer_instance; exact (Nat.le_of_ble_eq_true rfl); (simp only [List.drop_succ_cons, List.drop_zero, List.take_succ_cons, List.take_zero]; rfl); exact rfl; (simp only [Act.put, List.setIfInBounds_toArray, List.set_cons_succ, List.set_cons_zero])) | (go_at_call 78; go_must ((with_reducible refine (acct_any _ _).mono ?_); rintro e w ⟨rfl, hb⟩; replace HO := HO.call hb; clear hb)))
  go_ret
  refine ⟨ret_bool ?_, HO.grown⟩
  rw [Bool.eq_iff_iff, HQ.out]
  simp only [true_iff] <;> (try simp only [acct, decide_eq_true_eq] at *) <;> omega
end Go.Proofs.YtibabfedpdoofaaDoor
namespace Go.Own
open Go.RowKit Go.Maps

/-- What an element reads as: itself. -/
def tokR (v : Value) : Option (DataW Value × List MemPlace) := some (.held v, [])
/-- What a map bears at a key. -/
def Bears (D : DataW Value) (f : Lit → Option Value) : Prop := IsMap D ∧ ∀ l, WideAt.IsKeyLit l → ∀ z, D.atKey l z = match f l with
  | some v => .held v
  | none => z
def mapE (P : Program) (kt : TypeId) (b n : Nat) (f : Lit → Option Value) : Ent := ⟨[b], fun w => ∃ D, w.ownsMap P kt tokR b n D ∧ Bears D f⟩
theorem mapE_ok (P : Program) (kt : TypeId) (b n : Nat) (f : Lit → Option Value) : (mapE P kt b n f).Ok := fun w w' h hF => by
  obtain ⟨D, ⟨es, clock, hb, h2⟩, hB⟩ := hF
  exact ⟨D, ⟨es, clock, (h b (by simp [mapE])).trans hb, h2⟩, hB⟩
def updF (f : Lit → Option Value) (l : Lit) (v : Value) : Lit → Option Value := fun l' => if l'.sameKey l then some v else f l'
theorem Bears.put {D : DataW Value} {f : Lit → Option Value} (h : Bears D f) {l : Lit} (hl : WideAt.IsKeyLit l) (v : Value) : Bears (D.put l (.held v)) (updF f l v) := by
  obtain ⟨es, rfl⟩ := h.1
  refine ⟨⟨_, rfl⟩, fun l' hl' z => ?_⟩
  unfold updF
  cases e : l'.sameKey l
  · have hne : l' ≠ l := fun h => by rw [h, WideAt.sameKey_self hl] at e; cases e
    rw [atKey_put_other hne]
    simpa using h.2 l' hl' z
  · obtain rfl := WideAt.sameKey_eq e
    rw [atKey_put_same ⟨es, rfl⟩ hl]
    rfl
theorem run_zero {P : Program} {t : TypeId} {z : Value} (hz : HasZero P t z) (w : World) : (zeroValue t).run P w = .ok z w := by
  have h := hz.out
  cases hi : P.info? t with
  | none => rw [hi] at h; cases h
  | some i =>
    rw [hi] at h
    have h' : i.zero = some z := h
    simp [zeroValue, typeInfo, hi, h']
section
variable {P : Program} {ops : Array Oper} {rest : List Oper} {o : Oper} {a : Act} {W w : World} {Q : Exit → Act → World → Prop} {L L' : List Ent} {kt et mt : TypeId}
theorem wpList_makeMap (hO : Own W w L) (ho : o.op = .makeMap mt none) (hw : Region.wanted o (yielded ops a.tmps) = true)
    (h : ∀ b w', Own W w' (mapE P kt b 0 (fun _ => none) :: L) → wpList P ops Q rest (a.put o.dst (.map (some b))) w') : wpList P ops Q (o :: rest) a w := by
  have hr : (execOp a.eval o).run P w = .ok (.value (.map (some w.heap.size))) (w.alloc (.map #[] 0)) := by
    simp [execOp, ho, run_makeMap, Result.andThen]
  refine wpList_value hw hr (h _ _ (hO.more ((Below.refl _ _).alloc (Nat.le_refl _) _) (mapE_ok _ _ _ _ _) ⟨_, World.ownsMap_made w P kt tokR, ⟨[], rfl⟩, fun l _ z => rfl⟩ (fun b hb => ?_) (fun b hb => ?_)))
  · obtain rfl := List.mem_singleton.1 hb; exact Nat.le_refl _
  · obtain rfl := List.mem_singleton.1 hb; simp
theorem wpList_mapPut {m x v : Operand} {b n : Nat} {f : Lit → Option Value} {key val : Value} {l : Lit} (hO : Own W w L) (ho : o.op = .mapUpdate mt m x v) (hm : a.eval m = .map (some b)) (hx : a.eval x = key) (hv : a.eval v = val)
    (hat : At (mapE P kt b n f) (mapE P kt b (n + 1) (updF f l val)) L L') (K : Keyed P kt) (ht : P.underlying mt = some (.map kt et)) (hn : n < maxLen) (hkey : keyOf P kt key = some l)
    (hw : Region.wanted o (yielded ops a.tmps) = true) (h : ∀ w', Own W w' L' → wpList P ops Q rest (a.put o.dst undef) w') : wpList P ops Q (o :: rest) a w := by
  obtain ⟨D, hD, hB⟩ := hO.has _ hat.mem
  obtain ⟨w', hrun, h1, h2⟩ := hD.update K ht hn hkey (show tokR val = some (.held val, []) from rfl)
  have hr : (execOp a.eval o).run P w = .ok .skip w' := by
    simp [execOp, ho, hm, hx, hv, hrun, Result.andThen]
  refine wpList_skipped hw hr (h w' (hO.turn hat h2.os h2.tape h2.output h2.size (fun k hk hne => h2.block k hk (fun e => hne (by simp only [Option.some.injEq] at e; simp [mapE, e]))) (mapE_ok _ _ _ _ _) ⟨_, h1, hB.put (K.key hkey) val⟩ (fun b' hb' => .inl hb') (fun b' hb' => ?_)))
  obtain rfl := List.mem_singleton.1 hb'
  exact h1.lt
theorem run_mapLook {m x : Operand} {b n : Nat} {f : Lit → Option Value} {key z : Value} {l : Lit} (ho : o.op = .lookup mt m x true) (hm : a.eval m = .map (some b)) (hx : a.eval x = key)
    (hF : (mapE P kt b n f).F w) (K : Keyed P kt) (ht : P.underlying mt = some (.map kt et)) (hz : HasZero P et z) (hkey : keyOf P kt key = some l) :
    (execOp a.eval o).run P w = .ok (.value (match f l with | some v => .tuple #[v, .bool true] | none => .tuple #[z, .bool false])) w := by
  obtain ⟨D, ⟨es, clock, hb, F, _, rfl⟩, hB⟩ := hF
  have hz' : (zeroValue et).run P w = .ok z w := run_zero hz w
  have hl := K.key hkey
  have hr : (Instr.lookup mt (.map (some b)) key true).run P w = .ok (match f l with | some v => .tuple #[v, .bool true] | none => .tuple #[z, .bool false]) w := by
    rcases Maps.fit_look true K ht hz' hb F hkey with ⟨hrun, _, hat⟩ | ⟨e0, y, _, _, hrun, hRv, hat, _⟩
    · have h1 := hB.2 l hl .nil
      rw [hat] at h1
      cases hf : f l with
      | none => simpa using hrun
      | some v => rw [hf] at h1; cases h1
    · have h1 := hB.2 l hl .nil
      have h2 : y = (.held e0.val, []) := by simp [tokR] at hRv; exact hRv.symm
      rw [hat, h2] at h1
      cases hf : f l with
      | none => rw [hf] at h1; cases h1
      | some v =>
        rw [hf] at h1
        simp only [DataW.held.injEq] at h1
        rw [h1] at hrun
        simpa using hrun
  simp [execOp, ho, hm, hx, hr, Result.andThen]
theorem wpList_mapLook {m x : Operand} {b n : Nat} {f : Lit → Option Value} {key z : Value} {l : Lit} (hO : Own W w L) (ho : o.op = .lookup mt m x true) (hm : a.eval m = .map (some b)) (hx : a.eval x = key)
    (hat : At (mapE P kt b n f) (mapE P kt b n f) L L') (K : Keyed P kt) (ht : P.underlying mt = some (.map kt et)) (hz : HasZero P et z) (hkey : keyOf P kt key = some l)
    (hw : Region.wanted o (yielded ops a.tmps) = true) (h : wpList P ops Q rest (a.put o.dst (match f l with | some v => .tuple #[v, .bool true] | none => .tuple #[z, .bool false])) w) : wpList P ops Q (o :: rest) a w :=
  wpList_value hw (run_mapLook ho hm hx (hO.has _ hat.mem) K ht hz hkey) h
/-- A look-up in a map that was there when the call began. -/
theorem wpList_mapLookOld {m x : Operand} {b n : Nat} {f : Lit → Option Value} {key z : Value} {l : Lit} (hO : Own W w L) (ho : o.op = .lookup mt m x true) (hm : a.eval m = .map (some b)) (hx : a.eval x = key)
    (hF : (mapE P kt b n f).F W) (K : Keyed P kt) (ht : P.underlying mt = some (.map kt et)) (hz : HasZero P et z) (hkey : keyOf P kt key = some l) {res : Value} (hres : (match f l with | some v => .tuple #[v, .bool true] | none => .tuple #[z, .bool false]) = res)
    (hw : Region.wanted o (yielded ops a.tmps) = true) (h : wpList P ops Q rest (a.put o.dst res) w) : wpList P ops Q (o :: rest) a w := by
  subst hres
  have hlt : b < W.heap.size := by
    obtain ⟨D, hD, _⟩ := hF
    exact hD.lt
  have hFw : (mapE P kt b n f).F w := mapE_ok P kt b n f W w (fun b' hb' => by
    obtain rfl := List.mem_singleton.1 hb'
    exact hO.grown.block _ hlt) hF
  exact wpList_value hw (run_mapLook ho hm hx hFw K ht hz hkey) h
theorem wpList_mapLookNil {m x : Operand} {key z : Value} {l : Lit} (ho : o.op = .lookup mt m x true) (hm : a.eval m = .map none) (hx : a.eval x = key)
    (K : Keyed P kt) (ht : P.underlying mt = some (.map kt et)) (hz : HasZero P et z) (hkey : keyOf P kt key = some l)
    (hw : Region.wanted o (yielded ops a.tmps) = true) (h : wpList P ops Q rest (a.put o.dst (.tuple #[z, .bool false])) w) : wpList P ops Q (o :: rest) a w := by
  have hr := Maps.look_nil true K ht (run_zero hz w) hkey
  have hr2 : (execOp a.eval o).run P w = .ok (.value (.tuple #[z, .bool false])) w := by
    simp [execOp, ho, hm, hx, hr, Result.andThen]
  exact wpList_value hw hr2 h
end
end Go.Own
namespace Go.Own
open Go.RowKit

theorem flat_part {k lo m : Nat} {M : List (List Value)} (hM : ∀ l ∈ M, l.length = k) (h : lo + m ≤ M.length) : ∀ j u, ((M.drop lo).take m).flatten[j]? = some u → M.flatten[lo * k + j]? = some u := by
  intro j u hu
  have e : M = M.take lo ++ ((M.drop lo).take m ++ (M.drop lo).drop m) := by rw [List.take_append_drop, List.take_append_drop]
  have hl : (M.take lo).flatten.length = lo * k := by
    rw [flatL_len (k := k) (fun l hl => hM l (List.mem_of_mem_take hl)), List.length_take, Nat.min_eq_left (by omega)]
  rw [e, List.flatten_append, List.flatten_append, List.getElem?_append_right (by omega), hl, Nat.add_sub_cancel_left, List.getElem?_append_left]
  · exact hu
  · exact (List.getElem?_eq_some_iff.1 hu).1
section
variable {P : Program} {ops : Array Oper} {rest : List Oper} {o : Oper} {a : Act} {W w : World} {Q : Exit → Act → World → Prop} {L : List Ent}
theorem wpList_appendOld {s x : Operand} {t e k bytes lo m c : Nat} {v : Value} {A M : List (List Value)} {p a0 : Addr} {L' : Value → List Ent} (hO : Own W w L) (ho : o.op = .call { callee := .builtin .append, args := #[s, x], argTypes := #[t, t] })
    (ht : IsSlice P t e) (he : IsElem P e k bytes) (hs : a.eval s = v) (hx : a.eval x = .slice (some p) m c) (hp : p = a0.add (lo * k)) (hA : LAt W a0 k M) (hM : ∀ l ∈ M, l.length = k) (hlm : lo + m ≤ M.length) (h1 : ∀ u ∈ M.flatten, u.oneCell' = true)
    (hat : ∀ v', At (row e k v A) (row e k v' (A ++ (M.drop lo).take m)) L (L' v')) (h63 : A.length + m ≤ 1000000) (hb : bytes ≤ 1000000)
    (hw : Region.wanted o (yielded ops a.tmps) = true) (h : ∀ v' w', Own W w' (L' v') → (∃ p n c, v' = .slice p n c) → wpList P ops Q rest (a.put o.dst v') w') : wpList P ops Q (o :: rest) a w := by
  have hk := he.pos
  refine wpList_append (N := (M.drop lo).take m) hO ho ht he hs hx hat (by rw [List.length_take, List.length_drop]; omega) (fun l hl => hM l (List.mem_of_mem_drop (List.mem_of_mem_take hl))) (fun j u hu => ?_) (fun u hu => ?_) (by unfold maxLen; omega) ?_ hw (fun v' w' h2 _ => h v' w' h2 ?_)
  · have h3 := hA.flat hM hk (lo * k + j) u (flat_part hM hlm j u hu)
    rw [lAdd, ← hp] at h3
    have hblk : (p.add j).block < W.heap.size := by rw [lBlock, hp, lBlock]; exact hA.lt
    rw [← h3]
    exact hO.grown.cell hblk
  · obtain ⟨l, hl, hu⟩ := List.mem_flatten.1 hu
    exact h1 u (List.mem_flatten.2 ⟨l, List.mem_of_mem_drop (List.mem_of_mem_take hl), hu⟩)
  · have := Nat.mul_le_mul h63 hb
    omega
  · have hF : w'.ownsRow 0 e k v' (A ++ (M.drop lo).take m).length (A ++ (M.drop lo).take m).flatten := h2.has _ (hat v').memY
    rcases hF.2 with ⟨rfl, _⟩ | ⟨g, cap, cur, rfl, _⟩
    · exact ⟨_, _, _, rfl⟩
    · exact ⟨_, _, _, rfl⟩
end
theorem flat_set {k : Nat} : ∀ {A : List (List Value)} {i : Nat} {l : List Value}, (∀ x ∈ A, x.length = k) → i < A.length → l.length = k → (A.set i l).flatten = A.flatten.take (i * k) ++ l ++ A.flatten.drop (i * k + k)
  | x :: A, 0, l, h, _, hl => by
    have hx := h x (by simp)
    simp only [List.set_cons_zero, List.flatten_cons, Nat.zero_mul, List.take_zero, List.nil_append, Nat.zero_add]
    rw [← hx, List.drop_left]
  | x :: A, i + 1, l, h, hi, hl => by
    have hx := h x (by simp)
    have ih := flat_set (k := k) (A := A) (i := i) (l := l) (fun y hy => h y (by simp [hy])) (by simpa using hi) hl
    simp only [List.set_cons_succ, List.flatten_cons]
    rw [ih, show (i + 1) * k = x.length + i * k by rw [Nat.add_mul, hx]; omega, List.take_length_add_append, Nat.add_assoc, List.drop_length_add_append]
    simp
section
variable {P : Program} {ops : Array Oper} {rest : List Oper} {o : Oper} {a : Act} {W w : World} {Q : Exit → Act → World → Prop} {L L' : List Ent}
/-- A store of a whole struct into a row of the call's own. -/
theorem wpList_storeRow {t e k n c i : Nat} {q : Addr} {v : Value} {A : List (List Value)} {l : List Value} {x y : Operand} (hO : Own W w L) (ho : o.op = .store t x y) (hx : a.eval x = .pointer (some (q.add (i * k)))) (hy : a.eval y = v) (hv : v.cells = l.toArray)
    (hat : At (row e k (.slice (some q) n c) A) (row e k (.slice (some q) n c) (A.set i l)) L L') (hA : ∀ l ∈ A, l.length = k) (hi : i < A.length) (hl : l.length = k) (ht : HasSize P t k) (h1 : (l.all fun u => u.oneCell') = true)
    (hw : Region.wanted o (yielded ops a.tmps) = true) (h : ∀ w', Own W w' L' → wpList P ops Q rest (a.put o.dst undef) w') : wpList P ops Q (o :: rest) a w := by
  obtain ⟨M, p1, p2⟩ := hat.front
  have hO1 := hO.perm p1
  have hF : w.ownsRow 0 e k (.slice (some q) n c) A.length A.flatten := hO1.has _ List.mem_cons_self
  obtain ⟨_, hF⟩ := hF
  rcases hF with ⟨hF, _⟩ | ⟨g, cap, cur, hv2, _, hg, hnc, hcm, hcs, htake⟩
  · cases hF
  · cases hv2
    have hsz : i * k + k ≤ A.length * k := by rw [← Nat.succ_mul]; exact Nat.mul_le_mul_right _ hi
    have hcl : A.length * k ≤ c * k := Nat.mul_le_mul_right _ hnc
    have hlen : cur.toList.length = c * k := by simpa using hcs
    have hO2 : Own W w (box g (.cells cur.toList.toArray e) :: M) := hO1.as (.head _) (box_ok _ _) (fun _ => by show w.heap[g]? = _; rw [Array.toArray_toList]; exact hg) (fun b hb => hb)
    obtain ⟨w', hr, hO3⟩ := run_store_own (P := P) (L' := box g (.cells (putL cur.toList (i * k) l).toArray e) :: M) (vs := l) hO2 x y ho (by rw [hx, addAt, Nat.zero_add]) hy hv (.head _) (by rw [ht.out, hl]) (by omega) (List.all_eq_true.1 h1)
    refine wpList_skipped hw hr (h w' (Own.perm ?_ p2.symm))
    refine hO3.as (.head _) (row_ok _ _ _ _) (fun hB => ?_) (fun b hb => hb)
    have hB' : w'.heap[g]? = some (.cells (putL cur.toList (i * k) l).toArray e) := hB
    have hfl : (A.set i l).flatten.length = A.length * k := by
      rw [flatL_len (k := k) (fun z hz => by rcases List.mem_or_eq_of_mem_set hz with hz | rfl; exact hA z hz; exact hl), List.length_set]
    show w'.ownsRow 0 e k _ (A.set i l).length (A.set i l).flatten
    rw [List.length_set]
    refine ⟨hfl, .inr ⟨g, c, _, rfl, Nat.zero_le _, hB', hnc, hcm, ?_, ?_⟩⟩
    · simp only [List.size_toArray, putL, List.length_append, List.length_take, List.length_drop]
      omega
    · simp only [putL]
      rw [flat_set hA hi hl, ← htake]
      have e1 : (cur.toList.take (A.length * k)).take (i * k) = cur.toList.take (i * k) := by rw [List.take_take, Nat.min_eq_left (by omega)]
      have e2 : (cur.toList.take (A.length * k)).drop (i * k + k) = (cur.toList.drop (i * k + k)).take (A.length * k - (i * k + k)) := by rw [List.drop_take]
      have e3 : (cur.toList.take (i * k) ++ l).length = i * k + k := by rw [List.length_append, List.length_take]; omega
      rw [e1, e2, List.take_append, e3, hl, List.take_of_length_le (by omega)]
end
section
variable {P : Program} {Q : Exit → Act → World → Prop} {π rest : List (Nat × Bool)} {i : Nat} {l : List Oper} {a : Act} {w : World} {o : Oper} {Ls Ls' : List Ent}
theorem wpSched_loadPart {b off n : Nat} {cs cl : List Value} {U t : TypeId} {x : Operand} (ho : l[i]? = some o) (hop : o.op = .load t x) (hx : a.eval x = .pointer (some ⟨b, off, none⟩)) (hat : At (box b (.cells cs.toArray U)) (box b (.cells cs.toArray U)) Ls Ls')
    (ht : IsAgg P t n) (hn : off + n ≤ cs.length) (hl : (cs.drop off).take n = cl) (hw : Region.wanted o (yielded l.toArray a.tmps) = true) (h : wpSched P l.toArray Q (Held Ls) π rest (a.put o.dst (.agg cl.toArray)) w) : wpSched P l.toArray Q (Held Ls) π ((i, true) :: rest) a w :=
  wpSched_value ho hop hw (fun w' hw' => run_load_at x hop hx (fun j v hv => by
    rw [addAt, cellAt (hw' _ hat.mem)]
    subst hl
    obtain ⟨hj, hv⟩ := List.getElem?_eq_some_iff.1 hv
    simp only [List.getElem_take, List.getElem_drop] at hv
    simp only [List.length_take, List.length_drop] at hj
    rw [← hv]
    exact List.getElem?_eq_getElem _) (by subst hl; rw [List.length_take, List.length_drop, Nat.min_eq_left (by omega)]; exact ht.1)) h
end
section
variable {P : Program} {w : World}
/-- A result that lies in a box of the call's own. -/
theorem results_one {fn : Func} {tmps : Array Value} {i t n b : Nat} {cs : List Value} {T : TypeId} {W : World} {L L' : List Ent} (hO : Own W w L) (hr : fn.results = #[.cell i t]) (hi : tmps.getD i undef = .pointer (some ⟨b, 0, none⟩))
    (hat : At (box b (.cells cs.toArray T)) (box b (.cells cs.toArray T)) L L') (ht : IsAgg P t n) (hn : cs.length = n) : (results fn tmps).run P w = .ok (.agg cs.toArray) w := by
  have h1 := run_loadVar_box (P := P) (hO.has _ hat.mem) ht hn
  simp only [Array.getD_eq_getD_getElem?] at hi
  have ha : asAddr (tmps[i]?.getD undef) = (pure ⟨b, 0, none⟩ : Sem Addr) := by rw [hi]; rfl
  unfold results
  rw [hr]
  simp [ha, h1]
end
end Go.Own
namespace Go.Own
open Go.RowKit

/-- What a callee made, beside what the caller has. -/
theorem Own.lift {W w w1 : World} {L M : List Ent} (h : Own W w L) (h1 : Own w w1 M) : Own W w1 (M ++ L) := by
  have h2 := h.call h1.grown
  refine ⟨h2.grown, fun e he => ?_, fun e he => ?_, fun e he => ?_, fun e he => ?_, List.pairwise_append.2 ⟨h1.apart, h.apart, fun e he f hf b hb hb' => ?_⟩⟩
  · rcases List.mem_append.1 he with he | he
    · exact h1.has e he
    · exact h2.has e he
  · rcases List.mem_append.1 he with he | he
    · exact h1.ok e he
    · exact h2.ok e he
  · rcases List.mem_append.1 he with he | he
    · exact h1.lt e he
    · exact h2.lt e he
  · rcases List.mem_append.1 he with he | he
    · exact fun b hb => Nat.le_trans h.grown.size (h1.new e he b hb)
    · exact h.new e he
  · have := h1.new e he b hb
    have := h.lt f hf b hb'
    omega
section
variable {P : Program} {ops : Array Oper} {rest : List Oper} {o : Oper} {a : Act} {W w : World} {Q : Exit → Act → World → Prop} {L : List Ent}
theorem wpList_appendAll {s x : Operand} {t e k bytes : Nat} {v u : Value} {A M : List (List Value)} {L' : Value → List Ent} (hO : Own W w L) (ho : o.op = .call { callee := .builtin .append, args := #[s, x], argTypes := #[t, t] })
    (ht : IsSlice P t e) (he : IsElem P e k bytes) (hs : a.eval s = v) (hx : a.eval x = u) (hU : IsL w k u M) (hM : ∀ l ∈ M, l.length = k) (h1 : ∀ u ∈ M.flatten, u.oneCell' = true)
    (hat : ∀ v', At (row e k v A) (row e k v' (A ++ M)) L (L' v')) (h63 : A.length + M.length ≤ 1000000) (hb : bytes ≤ 1000000)
    (hw : Region.wanted o (yielded ops a.tmps) = true) (h : ∀ v' w', Own W w' (L' v') → (∃ p n c, v' = .slice p n c) → wpList P ops Q rest (a.put o.dst v') w') : wpList P ops Q (o :: rest) a w := by
  have hk := he.pos
  have form : ∀ v' w', Own W w' (L' v') → ∃ p n c, v' = .slice p n c := fun v' w' h2 => by
    have hF : w'.ownsRow 0 e k v' (A ++ M).length (A ++ M).flatten := h2.has _ (hat v').memY
    rcases hF.2 with ⟨rfl, _⟩ | ⟨g, cap, cur, rfl, _⟩
    · exact ⟨_, _, _, rfl⟩
    · exact ⟨_, _, _, rfl⟩
  have hby : ∀ n, n ≤ 1000000 → n * bytes ≤ 140737488355328 := fun n hn => by
    have := Nat.mul_le_mul hn hb
    omega
  cases hU with
  | none sp sc hn =>
    cases sp with
    | none =>
      obtain rfl := hn rfl
      have ho' := he.out
      cases hi : P.info? e with
      | none => simp [hi] at ho'
      | some i =>
        have hown : w.ownsRow 0 e k v A.length A.flatten := hO.has _ (hat v).mem
        have hr := run_append_owned_none (P := P) (w := w) 0 t o.type e i k ht.out hi v A.length A.flatten hown
        have hrun : (execOp a.eval o).run P w = .ok (.value v) w := by
          unfold execOp
          simp only [ho, resolve, invoke, builtin, Sem.run_bind, Sem.run_pure, Result.andThen_ok, List.map_toArray, List.map_cons, List.map_nil, hs, hx, hr]
        have hO' : Own W w (L' v) := hO.as (hat v) (row_ok _ _ _ _) (fun hF => by simpa using hF) (fun b hb => hb)
        exact wpList_value hw hrun (h v w hO' (form v w hO'))
    | some p =>
      exact wpList_append (N := []) hO ho ht he hs hx hat rfl (by simp) (by simp) (by simp) (by unfold maxLen; omega) (hby _ (by omega)) hw (fun v' w' h2 _ => h v' w' h2 (form v' w' h2))
  | some p cap M hlen hcap h0 hR =>
    exact wpList_append (N := M) hO ho ht he hs hx hat rfl hM (fun j u hu => hR.flat hM hk j u hu) h1 (by unfold maxLen; omega) (hby _ h63) hw (fun v' w' h2 _ => h v' w' h2 (form v' w' h2))
/-- A struct taken out of an array's value. -/
theorem run_indexArr {t e n k : Nat} {i : Nat} {x y : Operand} {cs : List Value} {kd : IntKind} (ho : o.op = .index t x y) (hx : a.eval x = .agg cs.toArray) (hy : a.eval y = .int kd (i : Int)) (ht : P.underlying t = some (.array n e)) (hi : i < n) (he : IsAgg P e k) :
    (execOp a.eval o).run P w = .ok (.value (.agg ((cs.drop (i * k)).take k).toArray)) w := by
  obtain ⟨h1, h2⟩ := run_isAgg_yes he.out w
  have hlt : (0 : Int) ≤ (i : Int) ∧ (i : Int) < (n : Int) := ⟨by omega, by omega⟩
  have hr : (Instr.index t (.agg cs.toArray) (.int kd (i : Int))).run P w = .ok (.agg ((cs.drop (i * k)).take k).toArray) w := by
    simp [Instr.index, asIntOf, underlying, ht, hlt, h1, h2, part, Result.andThen]
    intro h
    omega
  simp [execOp, ho, hx, hy, hr, Result.andThen]
theorem wpList_indexArr {t e n k : Nat} {i : Nat} {x y : Operand} {cs l : List Value} {kd : IntKind} (ho : o.op = .index t x y) (hx : a.eval x = .agg cs.toArray) (hy : a.eval y = .int kd (i : Int)) (ht : P.underlying t = some (.array n e)) (hi : i < n) (he : IsAgg P e k)
    (hl : (cs.drop (i * k)).take k = l) (hw : Region.wanted o (yielded ops a.tmps) = true) (h : wpList P ops Q rest (a.put o.dst (.agg l.toArray)) w) : wpList P ops Q (o :: rest) a w :=
  wpList_value hw (run_indexArr ho hx hy ht hi he) (by rw [hl]; exact h)
/-- A field of one cell out of a struct's value. -/
theorem wpList_fieldOne {t j : Nat} {x : Operand} {cs : List Value} {v : Value} {fs : Array Field} {f : Field} (ho : o.op = .field t x j) (hx : a.eval x = .agg cs.toArray) (ht : P.underlying t = some (.struct fs)) (hf : fs[j]? = some f) (he : IsOne P f.type) (hv : cs[f.offset]? = some v)
    (hw : Region.wanted o (yielded ops a.tmps) = true) (h : wpList P ops Q rest (a.put o.dst v) w) : wpList P ops Q (o :: rest) a w := by
  have h1 := (run_isAgg_no (P := P) he.out w).1
  have hr : (Instr.field t (.agg cs.toArray) j).run P w = .ok v w := by
    simp [Instr.field, asAgg, underlying, ht, hf, h1, part, hv, Result.andThen]
  have hr2 : (execOp a.eval o).run P w = .ok (.value v) w := by
    simp [execOp, ho, hx, hr, Result.andThen]
  exact wpList_value hw hr2 h
end
theorem flat_set1 {k : Nat} : ∀ {A : List (List Value)} {i f : Nat} {u : Value} {l : List Value}, (∀ x ∈ A, x.length = k) → A[i]? = some l → f < k → (A.set i (l.set f u)).flatten = A.flatten.set (i * k + f) u
  | [], _, _, _, _, _, h, _ => by simp at h
  | x :: A, 0, f, u, l, h, hl, hf => by
    obtain rfl : x = l := by simpa using hl
    have hx := h x (by simp)
    rw [List.set_cons_zero, List.flatten_cons, List.flatten_cons, Nat.zero_mul, Nat.zero_add, List.set_append, if_pos (by omega)]
  | x :: A, i + 1, f, u, l, h, hl, hf => by
    have hx := h x (by simp)
    rw [List.set_cons_succ, List.flatten_cons, List.flatten_cons, flat_set1 (fun y hy => h y (by simp [hy])) (by simpa using hl) hf, List.set_append, if_neg (by rw [hx, Nat.add_mul]; omega)]
    congr 2
    rw [hx, Nat.add_mul]
    omega
section
variable {P : Program} {ops : Array Oper} {rest : List Oper} {o : Oper} {a : Act} {W w : World} {Q : Exit → Act → World → Prop} {L L' : List Ent}
/-- A store of one cell of a struct in a row of the call's own. -/
theorem wpList_storeRow1 {t e k n c i f : Nat} {q : Addr} {u : Value} {A : List (List Value)} {l : List Value} {x y : Operand} (hO : Own W w L) (ho : o.op = .store t x y) (hx : a.eval x = .pointer (some ((q.add (i * k)).add f))) (hy : a.eval y = u) (hu : u.oneCell' = true)
    (hl : A[i]? = some l) (hf : f < k) (hat : At (row e k (.slice (some q) n c) A) (row e k (.slice (some q) n c) (A.set i (l.set f u))) L L') (hA : ∀ l ∈ A, l.length = k) (ht : HasSize P t 1)
    (hw : Region.wanted o (yielded ops a.tmps) = true) (h : ∀ w', Own W w' L' → wpList P ops Q rest (a.put o.dst undef) w') : wpList P ops Q (o :: rest) a w := by
  obtain ⟨M, p1, p2⟩ := hat.front
  have hO1 := hO.perm p1
  obtain ⟨hi, _⟩ := List.getElem?_eq_some_iff.1 hl
  have hF : w.ownsRow 0 e k (.slice (some q) n c) A.length A.flatten := hO1.has _ List.mem_cons_self
  obtain ⟨_, hF⟩ := hF
  rcases hF with ⟨hF, _⟩ | ⟨g, cap, cur, hv2, _, hg, hnc, hcm, hcs, htake⟩
  · cases hF
  · cases hv2
    have hsz : i * k + k ≤ A.length * k := by rw [← Nat.succ_mul]; exact Nat.mul_le_mul_right _ hi
    have hcl : A.length * k ≤ c * k := Nat.mul_le_mul_right _ hnc
    have hlen : cur.toList.length = c * k := by simpa using hcs
    have hO2 : Own W w (box g (.cells cur.toList.toArray e) :: M) := hO1.as (.head _) (box_ok _ _) (fun _ => by show w.heap[g]? = _; rw [Array.toArray_toList]; exact hg) (fun b hb => hb)
    have hp' : putL cur.toList (i * k + f) [u] = cur.toList.set (i * k + f) u := by
      unfold putL
      rw [List.set_eq_take_append_cons_drop, if_pos (by omega)]; simp
    obtain ⟨w', hr, hO3⟩ := run_store_own (P := P) (L' := box g (.cells (putL cur.toList (i * k + f) [u]).toArray e) :: M) (vs := [u]) hO2 x y ho (by rw [hx, addAt, addAt, Nat.zero_add]) hy (by cases u <;> first | rfl | cases hu) (.head _) (by rw [ht.out]; rfl) (by simp only [List.length_cons, List.length_nil]; omega) (by simpa using hu)
    refine wpList_skipped hw hr (h w' (Own.perm ?_ p2.symm))
    refine hO3.as (.head _) (row_ok _ _ _ _) (fun hB => ?_) (fun b hb => hb)
    rw [hp'] at hB
    have hB' : w'.heap[g]? = some (.cells (cur.toList.set (i * k + f) u).toArray e) := hB
    have hll : l.length = k := hA l (List.mem_of_getElem? hl)
    have hfl : (A.set i (l.set f u)).flatten.length = A.length * k := by
      rw [flatL_len (k := k) (fun z hz => by rcases List.mem_or_eq_of_mem_set hz with hz | rfl; exact hA z hz; rw [List.length_set]; exact hll), List.length_set]
    show w'.ownsRow 0 e k _ (A.set i (l.set f u)).length (A.set i (l.set f u)).flatten
    rw [List.length_set]
    refine ⟨hfl, .inr ⟨g, c, _, rfl, Nat.zero_le _, hB', hnc, hcm, ?_, ?_⟩⟩
    · simp only [List.size_toArray, List.length_set]
      omega
    · rw [flat_set1 hA hl hf, ← htake]
      simp only [List.take_set]
end
section
variable {P : Program} {w : World}
/-- Two results, each in a box of the call's own. -/
theorem results_two {fn : Func} {tmps : Array Value} {i j t u n k b c : Nat} {cs ds : List Value} {T U : TypeId} {W : World} {L L' L'' : List Ent} (hO : Own W w L) (hr : fn.results = #[.cell i t, .cell j u]) (hi : tmps.getD i undef = .pointer (some ⟨b, 0, none⟩)) (hj : tmps.getD j undef = .pointer (some ⟨c, 0, none⟩))
    (hat : At (box b (.cells cs.toArray T)) (box b (.cells cs.toArray T)) L L') (hat2 : At (box c (.cells ds.toArray U)) (box c (.cells ds.toArray U)) L L'') (ht : IsAgg P t n) (hu : IsAgg P u k) (hn : cs.length = n) (hk : ds.length = k) : (results fn tmps).run P w = .ok (.tuple #[.agg cs.toArray, .agg ds.toArray]) w := by
  have h1 := run_loadVar_box (P := P) (hO.has _ hat.mem) ht hn
  have h2 := run_loadVar_box (P := P) (hO.has _ hat2.mem) hu hk
  simp only [Array.getD_eq_getD_getElem?] at hi hj
  have ha : asAddr (tmps[i]?.getD undef) = (pure ⟨b, 0, none⟩ : Sem Addr) := by rw [hi]; rfl
  have hb : asAddr (tmps[j]?.getD undef) = (pure ⟨c, 0, none⟩ : Sem Addr) := by rw [hj]; rfl
  unfold results
  rw [hr]
  simp [ha, hb, h1, h2]
end
end Go.Own

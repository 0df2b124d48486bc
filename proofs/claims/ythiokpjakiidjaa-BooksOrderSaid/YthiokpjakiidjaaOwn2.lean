/-
  Rows and slices among the pieces of memory that a call has made: read and grown; conditions: none.
-/
import Derived.Test.YthiokpjakiidjaaOwn
namespace Go.Own
open Go.RowKit
section
variable {P : Program} {ops : Array Oper} {rest : List Oper} {o : Oper} {a : Act} {W w : World} {Q : Exit → Act → World → Prop} {L L' : List Ent}
/-- What a row reads as. -/
theorem Own.rowAt {t k n c i : Nat} {q : Addr} {A : List (List Value)} {l : List Value} (h : Own W w L) (hat : At (row t k (.slice (some q) n c) A) (row t k (.slice (some q) n c) A) L L') (hA : ∀ l ∈ A, l.length = k) (hl : A[i]? = some l) :
    ∀ j u, l[j]? = some u → w.cell? ((q.add (i * k)).add j) = some u := by
  have hF := isL_of_owns hA (h.has _ hat.mem)
  intro j u hu
  obtain ⟨hi, rfl⟩ := List.getElem?_eq_some_iff.1 hl
  cases hF with
  | none sp sc hn => simp at hi
  | some a' cap L'' hlen hcap h0 hR => exact hR.c i hi j u hu
theorem Own.islAt {k n c i : Nat} {q : Addr} {A : List (List Value)} {l : List Value} (h : Own W w L) (hat : At (isl k (.slice (some q) n c) A) (isl k (.slice (some q) n c) A) L L') (hl : A[i]? = some l) :
    ∀ j u, l[j]? = some u → w.cell? ((q.add (i * k)).add j) = some u := by
  have hF : IsL w k (.slice (some q) n c) A := h.has _ hat.mem
  intro j u hu
  obtain ⟨hi, rfl⟩ := List.getElem?_eq_some_iff.1 hl
  cases hF with
  | none sp sc hn => simp at hi
  | some a' cap L'' hlen hcap h0 hR => exact hR.c i hi j u hu
theorem Own.islAt0 {k n c : Nat} {q : Addr} {A : List (List Value)} {l : List Value} (h : Own W w (isl k (.slice (some q) n c) (l :: A) :: L)) : ∀ j u, l[j]? = some u → w.cell? (q.add j) = some u := by
  intro j u hu
  have := h.islAt (.head _) (i := 0) rfl j u hu
  rwa [Nat.zero_mul, show q.add 0 = q by unfold Addr.add; rw [if_pos rfl]] at this
/-- The form of a row's slice. -/
theorem Own.rowForm {t k : Nat} {v : Value} {A : List (List Value)} (h : Own W w L) (hat : At (row t k v A) (row t k v A) L L') : (∃ p c, v = .slice p A.length c) ∧ (0 < A.length → ∃ q c, v = .slice (some q) A.length c) := by
  rcases (h.has _ hat.mem).2 with ⟨rfl, h0⟩ | ⟨g, cap, cur, rfl, _⟩
  · exact ⟨⟨_, _, by rw [h0]⟩, fun hh => by omega⟩
  · exact ⟨⟨_, _, rfl⟩, fun _ => ⟨_, _, rfl⟩⟩
theorem Own.islForm {k : Nat} {v : Value} {A : List (List Value)} (h : Own W w L) (hat : At (isl k v A) (isl k v A) L L') : (∃ p c, v = .slice p A.length c) ∧ (0 < A.length → ∃ q c, v = .slice (some q) A.length c) := by
  have hF : IsL w k v A := h.has _ hat.mem
  cases hF with
  | none sp sc hn => exact ⟨⟨_, _, rfl⟩, fun hh => by simp at hh⟩
  | some a' cap L'' hlen hcap h0 hR => exact ⟨⟨_, _, rfl⟩, fun _ => ⟨_, _, rfl⟩⟩
/-- A block that a slice literal has laid is a row. -/
theorem Own.litRow {t k n b : Nat} {cs : Array Value} {A : List (List Value)} (h : Own W w (box b (.cells cs t) :: L)) (hA : ∀ l ∈ A, l.length = k) (hn : A.length = n) (hc : A.flatten.toArray = cs) (hm : n ≤ maxLen) : Own W w (row t k (.slice (some ⟨b, 0, none⟩) n n) A :: L) :=
  h.as (.head _) (row_ok _ _ _ _) (fun hF => by
    refine ⟨flatL_len hA, .inr ⟨b, n, cs, by rw [hn], Nat.zero_le _, hF, by omega, hm, ?_, ?_⟩⟩
    · rw [← hc]; simp [flatL_len hA, hn]
    · rw [← hc]; rw [List.take_of_length_le]; simp [flatL_len hA]) (fun _ hb => hb)
theorem run_load_at {p : Addr} {l : List Value} {t : TypeId} (x : Operand) (ho : o.op = .load t x) (hx : a.eval x = .pointer (some p)) (hl : ∀ j v, l[j]? = some v → w.cell? (p.add j) = some v) (ht : aggSize P t = some l.length) :
    (execOp a.eval o).run P w = .ok (.value (.agg l.toArray)) w := by
  have hc : (loadCells p l.length).run P w = .ok l.toArray w := run_loadCells_list (P := P) w p l hl
  obtain ⟨h1, h2⟩ := run_isAgg_yes ht w
  simp [execOp, ho, hx, Instr.loadAt, Instr.sureAddr, loadVar, h1, h2, hc]
theorem run_load_at1 {p : Addr} {v : Value} {t : TypeId} (x : Operand) (ho : o.op = .load t x) (hx : a.eval x = .pointer (some p)) (hl : w.cell? p = some v) (ht : oneCellT P t = true) :
    (execOp a.eval o).run P w = .ok (.value v) w := by
  obtain ⟨h1, h2⟩ := run_isAgg_no ht w
  simp [execOp, ho, hx, Instr.loadAt, Instr.sureAddr, loadVar, h1, hl]
theorem wpList_loadRow {e t k n c i m : Nat} {q : Addr} {A : List (List Value)} {l : List Value} {x : Operand} (hO : Own W w L) (ho : o.op = .load t x) (hx : a.eval x = .pointer (some (q.add (i * k)))) (hat : At (row e k (.slice (some q) n c) A) (row e k (.slice (some q) n c) A) L L')
    (hA : ∀ l ∈ A, l.length = k) (hl : A[i]? = some l) (ht : IsAgg P t m) (hm : l.length = m) (hw : Region.wanted o (yielded ops a.tmps) = true) (h : wpList P ops Q rest (a.put o.dst (.agg l.toArray)) w) : wpList P ops Q (o :: rest) a w :=
  wpList_value hw (run_load_at x ho hx (hO.rowAt hat hA hl) (by rw [ht.out, hm])) h
theorem wpList_loadIsl {t k n c i m : Nat} {q : Addr} {A : List (List Value)} {l : List Value} {x : Operand} (hO : Own W w L) (ho : o.op = .load t x) (hx : a.eval x = .pointer (some (q.add (i * k)))) (hat : At (isl k (.slice (some q) n c) A) (isl k (.slice (some q) n c) A) L L')
    (hl : A[i]? = some l) (ht : IsAgg P t m) (hm : l.length = m) (hw : Region.wanted o (yielded ops a.tmps) = true) (h : wpList P ops Q rest (a.put o.dst (.agg l.toArray)) w) : wpList P ops Q (o :: rest) a w :=
  wpList_value hw (run_load_at x ho hx (hO.islAt hat hl) (by rw [ht.out, hm])) h
end
section
variable {P : Program} {ops : Array Oper} {rest : List Oper} {o : Oper} {a : Act} {W : World} {F : World → World} {Q : Act → Prop} {L L' : List Ent}
theorem wpQuiet_loadRow {e t k n c i m : Nat} {q : Addr} {A : List (List Value)} {l : List Value} {x : Operand} (hF : Fam W L F) (ho : o.op = .load t x) (hx : a.eval x = .pointer (some (q.add (i * k)))) (hat : At (row e k (.slice (some q) n c) A) (row e k (.slice (some q) n c) A) L L')
    (hA : ∀ l ∈ A, l.length = k) (hl : A[i]? = some l) (ht : IsAgg P t m) (hm : l.length = m) (hw : Region.wanted o (yielded ops a.tmps) = true) (h : wpQuiet P ops (fun w' => ∃ x, w' = F x) Q rest (a.put o.dst (.agg l.toArray))) :
    wpQuiet P ops (fun w' => ∃ x, w' = F x) Q (o :: rest) a :=
  wpQuiet_value (v := .agg l.toArray) hw (fun w' ⟨y, hy⟩ => run_load_at x ho hx ((hy ▸ hF.own y : Own W w' L).rowAt hat hA hl) (by rw [ht.out, hm])) h
theorem wpQuiet_loadIsl {t k n c i m : Nat} {q : Addr} {A : List (List Value)} {l : List Value} {x : Operand} (hF : Fam W L F) (ho : o.op = .load t x) (hx : a.eval x = .pointer (some (q.add (i * k)))) (hat : At (isl k (.slice (some q) n c) A) (isl k (.slice (some q) n c) A) L L')
    (hl : A[i]? = some l) (ht : IsAgg P t m) (hm : l.length = m) (hw : Region.wanted o (yielded ops a.tmps) = true) (h : wpQuiet P ops (fun w' => ∃ x, w' = F x) Q rest (a.put o.dst (.agg l.toArray))) :
    wpQuiet P ops (fun w' => ∃ x, w' = F x) Q (o :: rest) a :=
  wpQuiet_value (v := .agg l.toArray) hw (fun w' ⟨y, hy⟩ => run_load_at x ho hx ((hy ▸ hF.own y : Own W w' L).islAt hat hl) (by rw [ht.out, hm])) h
/-- An operation that neither reads memory nor changes it. -/
theorem wpQuiet_pure {v : Value} (hr : ∀ w', (execOp a.eval o).run P w' = .ok (.value v) w') (hw : Region.wanted o (yielded ops a.tmps) = true) (h : wpQuiet P ops (fun w' => ∃ x, w' = F x) Q rest (a.put o.dst v)) : wpQuiet P ops (fun w' => ∃ x, w' = F x) Q (o :: rest) a :=
  wpQuiet_value (v := v) hw (fun w' _ => hr w') h
theorem wpList_pure {w : World} {Q : Exit → Act → World → Prop} {v : Value} (hr : ∀ w', (execOp a.eval o).run P w' = .ok (.value v) w') (hw : Region.wanted o (yielded ops a.tmps) = true) (h : wpList P ops Q rest (a.put o.dst v) w) : wpList P ops Q (o :: rest) a w :=
  wpList_value hw (hr w) h
end
end Go.Own
namespace Go.Own
open Go.RowKit
theorem fold_set : ∀ (l : List Value) (i : Nat) (z : List Value), i + l.length = z.length →
    (l.zipIdx i).foldl (fun (cs : Array Value) (p : Value × Nat) => cs.setIfInBounds p.2 p.1) z.toArray = (z.take i ++ l).toArray
  | [], i, z, h => by simp at h; simp [h]
  | x :: l, i, z, h => by
    simp only [List.length_cons] at h
    rw [List.zipIdx_cons, List.foldl_cons]
    have e : (z.toArray.setIfInBounds i x) = (z.set i x).toArray := by simp
    rw [e, fold_set l (i + 1) (z.set i x) (by simp; omega)]
    congr 1
    rw [List.take_succ_eq_append_getElem (by simp; omega), List.take_set_of_le (Nat.le_refl _)]
    simp
theorem fill_one (place : Nat → Option (Nat × Nat)) (z l : List Value) (v : Value) (hp : place 0 = some (0, l.length)) (hv : v.cells = l.toArray) (hz : z.length = l.length) : Instr.fill place z.toArray [(0, v)] = some l.toArray := by
  unfold Instr.fill
  simp only [hp, hv]
  have h1 : ¬ (l.toArray.size ≠ l.length || decide (0 + l.toArray.size > z.toArray.size)) = true := by simp; omega
  rw [if_neg (by simpa using h1)]
  have := fold_set l 0 z (by omega)
  simp only [List.take_zero, List.nil_append] at this
  simp only [Instr.fill, Nat.zero_add]
  rw [← Array.foldl_toList, Array.toList_zipIdx]
  exact congrArg some this
section
variable {P : Program} {ops : Array Oper} {rest : List Oper} {o : Oper} {a : Act} {W w : World} {Q : Exit → Act → World → Prop} {L : List Ent}
/-- A slice literal of one element. -/
theorem run_lit1 {t e k by' : Nat} {x : Operand} {l : List Value} {v : Value} (ho : o.op = .buildSlice t 1 #[(0, x)]) (ht : IsSlice P t e) (hsz : IsElem P e k by') (hx : a.eval x = v) (hv : v.cells = l.toArray) (hl : l.length = k) (hk : k ≤ 1000) (w : World) :
    (execOp a.eval o).run P w = .ok (.value (.slice (some ⟨w.heap.size, 0, none⟩) 1 1)) (w.alloc (.cells l.toArray e)) := by
  have h1 := hsz.out
  have hpos := hsz.pos
  cases hi : P.info? e with
  | none => simp [hi] at h1
  | some i =>
    cases hzz : i.zero with
    | none => simp [hi, hzz] at h1
    | some zv =>
      simp only [hi, hzz, Option.bind_some, Option.map_some, Option.some.injEq, Prod.mk.injEq] at h1
      obtain ⟨h2, h3, _⟩ := h1
      have hlt : ¬ (16777216 < 1 * k) := by omega
      have h0 : ¬ (1 * k = 0) := by omega
      have hf : Instr.fill (fun i => some (i * k, k)) (Array.map (fun x => zv.cells[x % zv.cells.size]!) (Array.range (1 * k))) [(0, v)] = some l.toArray := by
        have := fill_one (fun i => some (i * k, k)) (Array.map (fun x => zv.cells[x % zv.cells.size]!) (Array.range (1 * k))).toList l v (by simp [hl]) hv (by simp [hl])
        rwa [Array.toArray_toList] at this
      unfold execOp
      simp only [ho, Instr.buildSlice]
      simp only [Nat.one_mul] at hf hlt h0
      simp [underlying, ht.out, sizeOf, typeInfo, hi, h3, h0, zeroValue, hzz, hlt, newRow, hx, hf]
theorem wpList_lit1 {t e k by' : Nat} {x : Operand} {l : List Value} (hO : Own W w L) (ho : o.op = .buildSlice t 1 #[(0, x)]) (ht : IsSlice P t e) (hsz : IsElem P e k by') (hx : a.eval x = .agg l.toArray) (hl : l.length = k) (hk : k ≤ 1000)
    (hw : Region.wanted o (yielded ops a.tmps) = true) (h : ∀ b w', Own W w' (box b (.cells l.toArray e) :: L) → wpList P ops Q rest (a.put o.dst (.slice (some ⟨b, 0, none⟩) 1 1)) w') : wpList P ops Q (o :: rest) a w :=
  wpList_value hw (run_lit1 ho ht hsz hx rfl hl hk w) (h _ _ (hO.alloc _))
/-- The same, of one cell. -/
theorem wpList_lit1c {t e by' : Nat} {x : Operand} {v : Value} (hO : Own W w L) (ho : o.op = .buildSlice t 1 #[(0, x)]) (ht : IsSlice P t e) (hsz : IsElem P e 1 by') (hx : a.eval x = v) (hv : v.oneCell' = true)
    (hw : Region.wanted o (yielded ops a.tmps) = true) (h : ∀ b w', Own W w' (box b (.cells [v].toArray e) :: L) → wpList P ops Q rest (a.put o.dst (.slice (some ⟨b, 0, none⟩) 1 1)) w') : wpList P ops Q (o :: rest) a w :=
  wpList_value hw (run_lit1 (l := [v]) ho ht hsz hx (by cases v <;> first | rfl | cases hv) rfl (by omega) w) (h _ _ (hO.alloc _))
end
end Go.Own
namespace Go.Own
open Go.RowKit
section
variable {P : Program} {ops : Array Oper} {rest : List Oper} {o : Oper} {a : Act} {W w : World} {F : World → World} {Q : Act → Prop} {L : List Ent}
/-- A load from wherever what is known of the pieces tells the cells. -/
theorem wpQuiet_loadAt {p : Addr} {l : List Value} {t m : Nat} {x : Operand} (hF : Fam W L F) (ho : o.op = .load t x) (hx : a.eval x = .pointer (some p)) (hc : ∀ w', Own W w' L → ∀ j u, l[j]? = some u → w'.cell? (p.add j) = some u) (ht : IsAgg P t m) (hm : l.length = m)
    (hw : Region.wanted o (yielded ops a.tmps) = true) (h : wpQuiet P ops (fun w' => ∃ x, w' = F x) Q rest (a.put o.dst (.agg l.toArray))) : wpQuiet P ops (fun w' => ∃ x, w' = F x) Q (o :: rest) a :=
  wpQuiet_value (v := .agg l.toArray) hw (fun w' ⟨y, hy⟩ => run_load_at x ho hx (hc w' (hy ▸ hF.own y)) (by rw [ht.out, hm])) h
theorem wpQuiet_loadAt1 {p : Addr} {v : Value} {t : Nat} {x : Operand} (hF : Fam W L F) (ho : o.op = .load t x) (hx : a.eval x = .pointer (some p)) (hc : ∀ w', Own W w' L → w'.cell? p = some v) (ht : IsOne P t)
    (hw : Region.wanted o (yielded ops a.tmps) = true) (h : wpQuiet P ops (fun w' => ∃ x, w' = F x) Q rest (a.put o.dst v)) : wpQuiet P ops (fun w' => ∃ x, w' = F x) Q (o :: rest) a :=
  wpQuiet_value (v := v) hw (fun w' ⟨y, hy⟩ => run_load_at1 x ho hx (hc w' (hy ▸ hF.own y)) ht.out) h
theorem wpList_loadAt {Q : Exit → Act → World → Prop} {p : Addr} {l : List Value} {t m : Nat} {x : Operand} (hO : Own W w L) (ho : o.op = .load t x) (hx : a.eval x = .pointer (some p)) (hc : ∀ w', Own W w' L → ∀ j u, l[j]? = some u → w'.cell? (p.add j) = some u) (ht : IsAgg P t m) (hm : l.length = m)
    (hw : Region.wanted o (yielded ops a.tmps) = true) (h : wpList P ops Q rest (a.put o.dst (.agg l.toArray)) w) : wpList P ops Q (o :: rest) a w :=
  wpList_value hw (run_load_at x ho hx (hc w hO) (by rw [ht.out, hm])) h
theorem wpList_loadAt1 {Q : Exit → Act → World → Prop} {p : Addr} {v : Value} {t : Nat} {x : Operand} (hO : Own W w L) (ho : o.op = .load t x) (hx : a.eval x = .pointer (some p)) (hc : ∀ w', Own W w' L → w'.cell? p = some v) (ht : IsOne P t)
    (hw : Region.wanted o (yielded ops a.tmps) = true) (h : wpList P ops Q rest (a.put o.dst v) w) : wpList P ops Q (o :: rest) a w :=
  wpList_value hw (run_load_at1 x ho hx (hc w hO) ht.out) h
end
theorem add0 (a : Addr) : a.add 0 = a := by unfold Addr.add; rw [if_pos rfl]
theorem add0' (a : Addr) (k : Nat) : a.add (0 * k) = a := by rw [Nat.zero_mul, add0]
end Go.Own

/-
  Long regions whose order the model draws, walked in one order, where what the quiet ones read stays all the time; over any program; conditions: none.
-/
import Derived.Test.YthiokpjakiidjaaJoin
namespace Go.Own
open Go.RowKit Go.Maps

section
variable {P : Program} {Q : Exit → Act → World → Prop} {T : World → Prop} {rest : List (Nat × Bool)} {i : Nat} {l : List Oper} {a : Act} {w : World} {o : Oper}
theorem wpHeld_end {Q : Exit → Act → World → Prop} (h : Q .normal a w) : wpHeld P l.toArray (NoPanic Q) T [] a w := h
theorem wpHeld_value {v : Value} (ho : l[i]? = some o) (hw : Region.wanted o (yielded l.toArray a.tmps) = true) (hr : ∀ w', T w' → (execOp a.eval o).run P w' = .ok (.value v) w') (h : wpHeld P l.toArray Q T rest (a.put o.dst v) w) : wpHeld P l.toArray Q T ((i, true) :: rest) a w := by
  refine ⟨v, ?_, ?_⟩ <;> rw [getD_of ho]
  · exact .inl ⟨hw, hr⟩
  · exact h
theorem wpHeld_pure {v : Value} (ho : l[i]? = some o) (hw : Region.wanted o (yielded l.toArray a.tmps) = true) (hr : ∀ w', (execOp a.eval o).run P w' = .ok (.value v) w') (h : wpHeld P l.toArray Q T rest (a.put o.dst v) w) : wpHeld P l.toArray Q T ((i, true) :: rest) a w :=
  wpHeld_value ho hw (fun w' _ => hr w') h
theorem wpHeld_skip (ho : l[i]? = some o) (hw : Region.wanted o (yielded l.toArray a.tmps) = false) (h : wpHeld P l.toArray Q T rest (a.put o.dst undef) w) : wpHeld P l.toArray Q T ((i, true) :: rest) a w := by
  refine ⟨undef, ?_, ?_⟩ <;> rw [getD_of ho]
  · exact .inr ⟨hw, rfl⟩
  · exact h
theorem wpHeld_loud (ho : l[i]? = some o) (h : wpList P l.toArray (thenQ Q T (wpHeld P l.toArray Q T rest)) [o] a w) : wpHeld P l.toArray Q T ((i, false) :: rest) a w := by
  unfold wpHeld
  rw [getD_of ho]
  exact h
theorem wpHeld_loadAt {p : Addr} {cs : List Value} {t m : Nat} {x : Operand} (ho : l[i]? = some o) (hop : o.op = .load t x) (hx : a.eval x = .pointer (some p)) (hc : ∀ w', T w' → ∀ j u, cs[j]? = some u → w'.cell? (p.add j) = some u) (ht : IsAgg P t m) (hm : cs.length = m)
    (hw : Region.wanted o (yielded l.toArray a.tmps) = true) (h : wpHeld P l.toArray Q T rest (a.put o.dst (.agg cs.toArray)) w) : wpHeld P l.toArray Q T ((i, true) :: rest) a w :=
  wpHeld_value ho hw (fun w' hw' => run_load_at x hop hx (hc w' hw') (by rw [hm]; exact ht.1)) h
theorem wpHeld_loadAt1 {p : Addr} {v : Value} {t : Nat} {x : Operand} (ho : l[i]? = some o) (hop : o.op = .load t x) (hx : a.eval x = .pointer (some p)) (hc : ∀ w', T w' → w'.cell? p = some v) (ht : IsOne P t)
    (hw : Region.wanted o (yielded l.toArray a.tmps) = true) (h : wpHeld P l.toArray Q T rest (a.put o.dst v) w) : wpHeld P l.toArray Q T ((i, true) :: rest) a w :=
  wpHeld_value ho hw (fun w' hw' => run_load_at1 x hop hx (hc w' hw') ht.1) h
variable {Ls Ls' : List Ent}
theorem wpHeld_loadAll {b n : Nat} {cs : List Value} {U t : TypeId} {x : Operand} (ho : l[i]? = some o) (hop : o.op = .load t x) (hx : a.eval x = .pointer (some ⟨b, 0, none⟩)) (hat : At (box b (.cells cs.toArray U)) (box b (.cells cs.toArray U)) Ls Ls')
    (ht : IsAgg P t n) (hn : cs.length = n) (hw : Region.wanted o (yielded l.toArray a.tmps) = true) (h : wpHeld P l.toArray Q (Held Ls) rest (a.put o.dst (.agg cs.toArray)) w) : wpHeld P l.toArray Q (Held Ls) ((i, true) :: rest) a w :=
  wpHeld_value ho hw (fun w' hw' => run_load_at x hop hx (fun j v hv => by rw [addAt, cellAt (hw' _ hat.mem)]; simpa using hv) (by rw [hn]; exact ht.1)) h
theorem wpHeld_loadOne {b off : Nat} {cs : List Value} {v : Value} {U t : TypeId} {x : Operand} (ho : l[i]? = some o) (hop : o.op = .load t x) (hx : a.eval x = .pointer (some ⟨b, off, none⟩)) (hat : At (box b (.cells cs.toArray U)) (box b (.cells cs.toArray U)) Ls Ls')
    (hv : cs[off]? = some v) (ht : IsOne P t) (hw : Region.wanted o (yielded l.toArray a.tmps) = true) (h : wpHeld P l.toArray Q (Held Ls) rest (a.put o.dst v) w) : wpHeld P l.toArray Q (Held Ls) ((i, true) :: rest) a w :=
  wpHeld_value ho hw (fun w' hw' => run_load_at1 x hop hx (by rw [cellAt (hw' _ hat.mem)]; exact hv) ht.1) h
end
/-- The beginning, where old memory is read too. -/
theorem region_schedO {P : Program} {Q : Exit → Act → World → Prop} {W w : World} {L : List Ent} {id : Nat} {a : Act} {l : List Oper} (Ls : List Ent) (π : List (Nat × Bool)) (hO : Own W w L) (hLs : Ls.Sublist L) (hm : P.follows .mixedOrders = true)
    (hB : (Region.noSelect l.toArray && decide (π.length = l.length) && schedB l.toArray π (Array.replicate l.toArray.size false)) = true)
    (h : ∀ w', Own W w' L → wpHeld P l.toArray (NoPanic Q) (Held (oldE W :: Ls)) π a w') : (Code.region id l.toArray true).wp P Q a w := by
  simp only [Bool.and_eq_true, decide_eq_true_eq] at hB
  obtain ⟨⟨h1, h2⟩, h3⟩ := hB
  refine wp_region_noPanic (wp_region_held (S := Held (oldE W :: Ls)) hm ?_)
  have hO' := hO.drew
  have := anyH_of_sched (P := P) (Q := NoPanic Q) (S := Held (oldE W :: Ls)) h1 (fun _ _ _ _ _ hh => (hh : False).elim) π _ a _ h3 (hO'.heldO hLs) (h _ hO')
  rw [h2] at this
  simpa using this
end Go.Own

/-
  Results that lie in a box; reads of rows in a region walked in an order of one's own; over any program; conditions: none.
-/
import Derived.Test.YthiokpjakiidjaaHeld2
namespace Go.Own
open Go.RowKit

section
variable {P : Program} {w : World}
theorem run_loadVar_box {b n : Nat} {cs : List Value} {T t : TypeId} (hb : w.heap[b]? = some (.cells cs.toArray T)) (ht : IsAgg P t n) (hn : cs.length = n) : (loadVar t ⟨b, 0, none⟩).run P w = .ok (.agg cs.toArray) w := by
  have hc : (loadCells ⟨b, 0, none⟩ cs.length).run P w = .ok cs.toArray w := run_loadCells_list (P := P) w _ cs (fun j v hv => by rw [addAt, cellAt hb]; simpa using hv)
  obtain ⟨h1, h2⟩ := run_isAgg_yes ht.out w
  rw [hn] at hc
  simp [loadVar, h1, h2, hc]
/-- A result that lies in a box of the call's own, and one that does not. -/
theorem results_box {fn : Func} {tmps : Array Value} {i j t n b : Nat} {cs : List Value} {T : TypeId} {u : Value} {W : World} {L L' : List Ent} (hO : Own W w L) (hr : fn.results = #[.cell i t, .tmp j]) (hi : tmps.getD i undef = .pointer (some ⟨b, 0, none⟩))
    (hat : At (box b (.cells cs.toArray T)) (box b (.cells cs.toArray T)) L L') (ht : IsAgg P t n) (hn : cs.length = n) (hj : tmps.getD j undef = u) : (results fn tmps).run P w = .ok (.tuple #[.agg cs.toArray, u]) w := by
  have h1 := run_loadVar_box (P := P) (hO.has _ hat.mem) ht hn
  simp only [Array.getD_eq_getD_getElem?] at hi hj
  have ha : asAddr (tmps[i]?.getD undef) = (pure ⟨b, 0, none⟩ : Sem Addr) := by rw [hi]; rfl
  unfold results
  rw [hr]
  simp [ha, h1, hj]
end
section
variable {P : Program} {Q : Exit → Act → World → Prop} {π rest : List (Nat × Bool)} {i : Nat} {l : List Oper} {a : Act} {w : World} {o : Oper} {Ls Ls' : List Ent}
theorem Held.rowAt {t k n c i : Nat} {q : Addr} {A : List (List Value)} {l : List Value} (h : Held Ls w) (hat : At (row t k (.slice (some q) n c) A) (row t k (.slice (some q) n c) A) Ls Ls') (hA : ∀ l ∈ A, l.length = k) (hl : A[i]? = some l) :
    ∀ j u, l[j]? = some u → w.cell? ((q.add (i * k)).add j) = some u := by
  have hF := isL_of_owns hA (h _ hat.mem)
  intro j u hu
  obtain ⟨hi, rfl⟩ := List.getElem?_eq_some_iff.1 hl
  cases hF with
  | none sp sc hn => simp at hi
  | some a' cap L'' hlen hcap h0 hR => exact hR.c i hi j u hu
theorem Held.rowAt1 {t n c i : Nat} {q : Addr} {A : List (List Value)} {u : Value} (h : Held Ls w) (hat : At (row t 1 (.slice (some q) n c) A) (row t 1 (.slice (some q) n c) A) Ls Ls') (hA : ∀ l ∈ A, l.length = 1) (hl : A[i]? = some [u]) :
    w.cell? (q.add i) = some u := by
  have := h.rowAt hat hA hl 0 u rfl
  rwa [Nat.mul_one, add0] at this
theorem Held.rowAt0 {t n c : Nat} {q : Addr} {A : List (List Value)} {u : Value} (h : Held Ls w) (hat : At (row t 1 (.slice (some q) n c) A) (row t 1 (.slice (some q) n c) A) Ls Ls') (hA : ∀ l ∈ A, l.length = 1) (hl : A[0]? = some [u]) :
    w.cell? q = some u := by
  have := h.rowAt1 hat hA hl
  rwa [add0] at this
theorem Held.rowAtS {t n c i : Nat} {q : Addr} {A : List (List Value)} {u : Value} (h : Held Ls w) (hat : At (row t 1 (.slice (some q) n c) A) (row t 1 (.slice (some q) n c) A) Ls Ls') (hA : ∀ l ∈ A, l.length = 1) (hl : A[i + 1]? = some [u]) :
    w.cell? ⟨q.block, q.off + (i + 1), none⟩ = some u := by
  have := h.rowAt1 hat hA hl
  rwa [lAdd1] at this
theorem wpSched_loadAt {T : World → Prop} {p : Addr} {cs : List Value} {t m : Nat} {x : Operand} (ho : l[i]? = some o) (hop : o.op = .load t x) (hx : a.eval x = .pointer (some p)) (hc : ∀ w', T w' → ∀ j u, cs[j]? = some u → w'.cell? (p.add j) = some u) (ht : IsAgg P t m) (hm : cs.length = m)
    (hw : Region.wanted o (yielded l.toArray a.tmps) = true) (h : wpSched P l.toArray Q T π rest (a.put o.dst (.agg cs.toArray)) w) : wpSched P l.toArray Q T π ((i, true) :: rest) a w :=
  wpSched_value ho hop hw (fun w' hw' => run_load_at x hop hx (hc w' hw') (by rw [hm]; exact ht.1)) h
theorem wpSched_loadAt1 {T : World → Prop} {p : Addr} {v : Value} {t : Nat} {x : Operand} (ho : l[i]? = some o) (hop : o.op = .load t x) (hx : a.eval x = .pointer (some p)) (hc : ∀ w', T w' → w'.cell? p = some v) (ht : IsOne P t)
    (hw : Region.wanted o (yielded l.toArray a.tmps) = true) (h : wpSched P l.toArray Q T π rest (a.put o.dst v) w) : wpSched P l.toArray Q T π ((i, true) :: rest) a w :=
  wpSched_value ho hop hw (fun w' hw' => run_load_at1 x hop hx (hc w' hw') ht.1) h
end
section
theorem Own.perm {W w : World} {L L' : List Ent} (h : Own W w L) (hp : L.Perm L') : Own W w L' :=
  ⟨h.grown, fun e he => h.has e (hp.mem_iff.2 he), fun e he => h.ok e (hp.mem_iff.2 he), fun e he => h.lt e (hp.mem_iff.2 he), fun e he => h.new e (hp.mem_iff.2 he),
    (hp.pairwise_iff (fun {e f} hef b hb hb' => hef b hb' hb)).1 h.apart⟩
theorem At.front {x y : Ent} : ∀ {L L' : List Ent}, At x y L L' → ∃ M, L.Perm (x :: M) ∧ L'.Perm (y :: M)
  | _, _, .head l => ⟨l, .refl _, .refl _⟩
  | _, _, .tail z l l' h => by
    obtain ⟨M, h1, h2⟩ := h.front
    exact ⟨z :: M, (h1.cons z).trans (.swap _ _ _), (h2.cons z).trans (.swap _ _ _)⟩
end
end Go.Own

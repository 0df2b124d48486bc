/-
  Statements with rows of the call's own, and rows that are struck; conditions: none.
-/
import Derived.Test.YtlfphfklcifgpaaDoorIntOf
namespace Go.Own
open Go.RowKit

/-- One piece of many that are alike. -/
theorem at_map {α : Type} {f : α → Ent} {x y : α} : ∀ {l : List α} {j : Nat}, l[j]? = some x → At (f x) (f y) (l.map f) ((l.set j y).map f)
  | [], _, h => by simp at h
  | z :: l, 0, h => by
    obtain rfl : z = x := by simpa using h
    exact .head _
  | z :: l, j + 1, h => .tail _ _ _ (at_map (by simpa using h))
section
variable {P : Program} {ops : Array Oper} {rest : List Oper} {o : Oper} {a : Act} {W w : World} {Q : Exit → Act → World → Prop} {L : List Ent}
/-- The same, of whatever length memory bears. -/
theorem wpList_appendAllW {s x : Operand} {t e k bytes : Nat} {v u : Value} {A M : List (List Value)} {L' : Value → List Ent} (hO : Own W w L) (ho : o.op = .call { callee := .builtin .append, args := #[s, x], argTypes := #[t, t] })
    (ht : IsSlice P t e) (he : IsElem P e k bytes) (hs : a.eval s = v) (hx : a.eval x = u) (hU : IsL w k u M) (hM : ∀ l ∈ M, l.length = k) (h1 : ∀ u ∈ M.flatten, u.oneCell' = true)
    (hat : ∀ v', At (row e k v A) (row e k v' (A ++ M)) L (L' v')) (h63 : A.length + M.length ≤ maxLen) (hb : (A.length + M.length) * bytes ≤ 140737488355328)
    (hw : Region.wanted o (yielded ops a.tmps) = true) (h : ∀ v' w', Own W w' (L' v') → (∃ p n c, v' = .slice p n c) → wpList P ops Q rest (a.put o.dst v') w') : wpList P ops Q (o :: rest) a w := by
  have hk := he.pos
  have form : ∀ v' w', Own W w' (L' v') → ∃ p n c, v' = .slice p n c := fun v' w' h2 => by
    have hF : w'.ownsRow 0 e k v' (A ++ M).length (A ++ M).flatten := h2.has _ (hat v').memY
    rcases hF.2 with ⟨rfl, _⟩ | ⟨g, cap, cur, rfl, _⟩
    · exact ⟨_, _, _, rfl⟩
    · exact ⟨_, _, _, rfl⟩
  cases hU with
  | none sp sc hn =>
    cases sp with
    | none =>
      obtain rfl := hn rfl
      have ho' := he.out
      cases hi : P.info? e with
      | none => simp [hi] at ho'
      | some i =>
        have hown : w.ownsRow 0 e k v A.length A.flatten := hO.has _ (hat v).mem
        have hr := run_append_owned_none (P := P) (w := w) 0 t o.type e i k ht.out hi v A.length A.flatten hown
        have hrun : (execOp a.eval o).run P w = .ok (.value v) w := by
          unfold execOp
          simp only [ho, resolve, invoke, builtin, Sem.run_bind, Sem.run_pure, Result.andThen_ok, List.map_toArray, List.map_cons, List.map_nil, hs, hx, hr]
        have hO' : Own W w (L' v) := hO.as (hat v) (row_ok _ _ _ _) (fun hF => by simpa using hF) (fun b hb => hb)
        exact wpList_value hw hrun (h v w hO' (form v w hO'))
    | some p =>
      exact wpList_append (N := []) hO ho ht he hs hx hat rfl (by simp) (by simp) (by simp) (Nat.le_trans (Nat.add_le_add_left (Nat.zero_le _) _) h63) (Nat.le_trans (Nat.mul_le_mul_right _ (Nat.add_le_add_left (Nat.zero_le _) _)) hb) hw (fun v' w' h2 _ => h v' w' h2 (form v' w' h2))
  | some p cap M hlen hcap h0 hR =>
    exact wpList_append (N := M) hO ho ht he hs hx hat rfl hM (fun j u hu => hR.flat hM hk j u hu) h1 h63 hb hw (fun v' w' h2 _ => h v' w' h2 (form v' w' h2))
end
section
variable {P : Program} {l : List Oper} {Q : Exit → Act → World → Prop} {T : World → Prop} {π : List (Nat × Bool)} {i : Nat} {o : Oper} {rest : List (Nat × Bool)} {a : Act} {w : World}
/-- A field of one cell out of a struct's value, in a schedule. -/
theorem wpSched_fieldOne {t j : Nat} {x : Operand} {cs : List Value} {v : Value} {fs : Array Field} {f : Field} (ho : l[i]? = some o) (hop : o.op = .field t x j) (hx : a.eval x = .agg cs.toArray) (ht : P.underlying t = some (.struct fs)) (hf : fs[j]? = some f) (he : IsOne P f.type) (hv : cs[f.offset]? = some v)
    (hw : Region.wanted o (yielded l.toArray a.tmps) = true) (h : wpSched P l.toArray Q T π rest (a.put o.dst v) w) : wpSched P l.toArray Q T π ((i, true) :: rest) a w := by
  refine wpSched_pure ho hw (fun w' => ?_) h
  have h1 := (run_isAgg_no (P := P) he.out w').1
  have hr : (Instr.field t (.agg cs.toArray) j).run P w' = .ok v w' := by
    simp [Instr.field, asAgg, underlying, ht, hf, h1, part, hv, Result.andThen]
  simp [execOp, hop, hx, hr, Result.andThen]
end
end Go.Own
namespace Go.Proofs.YtlfphfklcifgpaaDoor
open Go.RowKit Go.Own Go.Maps

theorem own_one {ss : List StI} (h : ∀ s ∈ ss, ∃ p n c, s.v = .slice p n c) : ∀ u ∈ (ss.map stC).flatten, u.oneCell' = true := by
  intro u hu
  obtain ⟨l, hl, hu⟩ := List.mem_flatten.1 hu
  obtain ⟨s, hs, rfl⟩ := List.mem_map.1 hl
  obtain ⟨p, n, c, e⟩ := h s hs
  simp only [stC, e, List.mem_cons, List.not_mem_nil, or_false] at hu
  rcases hu with rfl | rfl | rfl <;> rfl
def rowE (s : StI) : Ent := row 45 5 s.v (s.rs.map rowC)
def keyS (s : StI) : Int × Int × List RowS := (s.p, s.q, s.rs)
def cpS (s : StI) (v : Value) : StI := ⟨s.p, s.q, v, s.rs⟩
theorem foldI_key {A : InS} {ts ss : List StI} (h : ts.map keyS = ss.map keyS) : foldI A ts = foldI A ss := by
  have key : ∀ l : List StI, foldI A l = (l.map keyS).foldl (fun A x => stepI A x.1 x.2.1 x.2.2) A := fun l => by
    rw [foldI, List.foldl_map]
    rfl
  rw [key, key, h]
theorem ownSts {W w : World} {M : List Ent} {v : Value} {ts : List StI} (hO : Own W w (row 28 3 v (ts.map stC) :: M)) (hm : ∀ t ∈ ts, rowE t ∈ M) : IsSts w v ts :=
  ⟨isL_of_owns (stC_len _) (hO.has _ List.mem_cons_self), fun s hs => isRows_of_isL (isL_of_owns (rowC_len _) (hO.has _ (List.mem_cons_of_mem _ (hm s hs))))⟩
theorem own_get {ts ss : List StI} {j : Nat} (h : ts.length = j) (hj : j < ss.length) : ((ts ++ ss.drop j).map stC)[j]? = some (stC ss[j]) := by
  subst h
  rw [List.map_append, List.getElem?_append_right (by simp), List.length_map, Nat.sub_self, List.drop_eq_getElem_cons hj]
  rfl
theorem own_set {ts ss : List StI} {j : Nat} (h : ts.length = j) (hj : j < ss.length) (v : Value) : ((ts ++ ss.drop j).map stC).set j ((stC ss[j]).set 2 v) = ((ts ++ [cpS ss[j] v]) ++ ss.drop (j + 1)).map stC := by
  subst h
  rw [List.drop_eq_getElem_cons hj, List.map_append, List.map_cons, List.set_append_right _ _ (by simp), List.length_map, Nat.sub_self, List.set_cons_zero]
  simp [stC, cpS]
theorem own_key {ts ss : List StI} {j : Nat} (h : ts.map keyS = (ss.take j).map keyS) (hj : j < ss.length) (v : Value) : (ts ++ [cpS ss[j] v]).map keyS = (ss.take (j + 1)).map keyS := by
  rw [List.map_append, h, List.take_succ_eq_append_getElem hj, List.map_append]
  rfl
theorem own_snoc {W w : World} {x y : Ent} {ts : List StI} {t : StI} (h : Own W w (rowE t :: x :: y :: ts.map rowE)) : Own W w (x :: y :: (ts ++ [t]).map rowE) := by
  rw [List.map_append]
  exact h.perm (((List.perm_middle (l₁ := [_, _]) (l₂ := ts.map rowE)).symm).trans (((List.perm_append_singleton _ (ts.map rowE)).symm.cons _).cons _))
/-- A row that is none. -/
def zr : RowS := ⟨0, 0, 0, 0, 0⟩
theorem at_zero {ts : List StI} {j k : Nat} {p q : Int} {v : Value} {rs : List RowS} (h : ts[j]? = some ⟨p, q, v, rs⟩) :
    At (row 45 5 v (rs.map rowC)) (row 45 5 v ((rs.map rowC).set k (rowC zr))) (ts.map rowE) ((ts.set j ⟨p, q, v, rs.set k zr⟩).map rowE) := by
  have := at_map (f := rowE) (y := ⟨p, q, v, rs.set k zr⟩) h
  rw [show (rs.map rowC).set k (rowC zr) = (rs.set k zr).map rowC by rw [List.map_set]]
  exact this
theorem stC_set {ts : List StI} {j k : Nat} {p q : Int} {v : Value} {rs : List RowS} (h : ts[j]? = some ⟨p, q, v, rs⟩) : (ts.set j ⟨p, q, v, rs.set k zr⟩).map stC = ts.map stC := by
  rw [List.map_set]
  refine List.ext_getElem (by simp) fun i h1 h2 => ?_
  rw [List.getElem_set]
  split
  · rename_i e
    subst e
    obtain ⟨hj, he⟩ := List.getElem?_eq_some_iff.1 h
    simp [he, stC]
  · rfl
theorem set_get {ts : List StI} {j : Nat} {x y : StI} (h : ts[j]? = some x) : (ts.set j y)[j]? = some y := by
  obtain ⟨hj, -⟩ := List.getElem?_eq_some_iff.1 h
  rw [List.getElem?_set_self hj]
/-- What the newest statement of a party is, told of an intake's cells. -/
def NewOf (W : World) (L : List Ent) (cs : Array Value) (p q : Int) : Prop :=
  ∀ w, Own W w L → Calls Tryd.prog 16 #[.agg cs, .int .i64 p] w fun e w' => ∃ x v, e = .returned (.agg #[x, .int .i64 q, v]) ∧ Below w.heap.size w w'
end Go.Proofs.YtlfphfklcifgpaaDoor

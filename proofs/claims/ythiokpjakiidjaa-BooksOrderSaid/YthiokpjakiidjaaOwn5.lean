/-
  Memory that a callee hands over, taken among the caller's own; appending all of a slice that lies anywhere; over any program; conditions: none.
-/
import Derived.Test.YthiokpjakiidjaaOwn4
import Derived.Laws.OwnMore
namespace Go.Own
open Go.RowKit

/-- What a callee made, beside what the caller has. -/
theorem Own.lift {W w w1 : World} {L M : List Ent} (h : Own W w L) (h1 : Own w w1 M) : Own W w1 (M ++ L) := by
  have h2 := h.call h1.grown
  refine ⟨h2.grown, fun e he => ?_, fun e he => ?_, fun e he => ?_, fun e he => ?_, List.pairwise_append.2 ⟨h1.apart, h.apart, fun e he f hf b hb hb' => ?_⟩⟩
  · rcases List.mem_append.1 he with he | he
    · exact h1.has e he
    · exact h2.has e he
  · rcases List.mem_append.1 he with he | he
    · exact h1.ok e he
    · exact h2.ok e he
  · rcases List.mem_append.1 he with he | he
    · exact h1.lt e he
    · exact h2.lt e he
  · rcases List.mem_append.1 he with he | he
    · exact fun b hb => Nat.le_trans h.grown.size (h1.new e he b hb)
    · exact h.new e he
  · have := h1.new e he b hb
    have := h.lt f hf b hb'
    omega
section
variable {P : Program} {ops : Array Oper} {rest : List Oper} {o : Oper} {a : Act} {W w : World} {Q : Exit → Act → World → Prop} {L : List Ent}
theorem wpList_appendAll {s x : Operand} {t e k bytes : Nat} {v u : Value} {A M : List (List Value)} {L' : Value → List Ent} (hO : Own W w L) (ho : o.op = .call { callee := .builtin .append, args := #[s, x], argTypes := #[t, t] })
    (ht : IsSlice P t e) (he : IsElem P e k bytes) (hs : a.eval s = v) (hx : a.eval x = u) (hU : IsL w k u M) (hM : ∀ l ∈ M, l.length = k) (h1 : ∀ u ∈ M.flatten, u.oneCell' = true)
    (hat : ∀ v', At (row e k v A) (row e k v' (A ++ M)) L (L' v')) (h63 : A.length + M.length ≤ 1000000) (hb : bytes ≤ 1000000)
    (hw : Region.wanted o (yielded ops a.tmps) = true) (h : ∀ v' w', Own W w' (L' v') → (∃ p n c, v' = .slice p n c) → wpList P ops Q rest (a.put o.dst v') w') : wpList P ops Q (o :: rest) a w := by
  have hk := he.pos
  have form : ∀ v' w', Own W w' (L' v') → ∃ p n c, v' = .slice p n c := fun v' w' h2 => by
    have hF : w'.ownsRow 0 e k v' (A ++ M).length (A ++ M).flatten := h2.has _ (hat v').memY
    rcases hF.2 with ⟨rfl, _⟩ | ⟨g, cap, cur, rfl, _⟩
    · exact ⟨_, _, _, rfl⟩
    · exact ⟨_, _, _, rfl⟩
  have hby : ∀ n, n ≤ 1000000 → n * bytes ≤ 140737488355328 := fun n hn => by
    have := Nat.mul_le_mul hn hb
    omega
  cases hU with
  | none sp sc hn =>
    cases sp with
    | none =>
      obtain rfl := hn rfl
      have ho' := he.out
      cases hi : P.info? e with
      | none => simp [hi] at ho'
      | some i =>
        have hown : w.ownsRow 0 e k v A.length A.flatten := hO.has _ (hat v).mem
        have hr := run_append_owned_none (P := P) (w := w) 0 t o.type e i k ht.out hi v A.length A.flatten hown
        have hrun : (execOp a.eval o).run P w = .ok (.value v) w := by
          unfold execOp
          simp only [ho, resolve, invoke, builtin, Sem.run_bind, Sem.run_pure, Result.andThen_ok, List.map_toArray, List.map_cons, List.map_nil, hs, hx, hr]
        have hO' : Own W w (L' v) := hO.as (hat v) (row_ok _ _ _ _) (fun hF => by simpa using hF) (fun b hb => hb)
        exact wpList_value hw hrun (h v w hO' (form v w hO'))
    | some p =>
      exact wpList_append (N := []) hO ho ht he hs hx hat rfl (by simp) (by simp) (by simp) (by unfold maxLen; omega) (hby _ (by omega)) hw (fun v' w' h2 _ => h v' w' h2 (form v' w' h2))
  | some p cap M hlen hcap h0 hR =>
    exact wpList_append (N := M) hO ho ht he hs hx hat rfl hM (fun j u hu => hR.flat hM hk j u hu) h1 (by unfold maxLen; omega) (hby _ h63) hw (fun v' w' h2 _ => h v' w' h2 (form v' w' h2))
/-- A struct taken out of an array's value. -/
theorem run_indexArr {t e n k : Nat} {i : Nat} {x y : Operand} {cs : List Value} {kd : IntKind} (ho : o.op = .index t x y) (hx : a.eval x = .agg cs.toArray) (hy : a.eval y = .int kd (i : Int)) (ht : P.underlying t = some (.array n e)) (hi : i < n) (he : IsAgg P e k) :
    (execOp a.eval o).run P w = .ok (.value (.agg ((cs.drop (i * k)).take k).toArray)) w := by
  obtain ⟨h1, h2⟩ := run_isAgg_yes he.out w
  have hlt : (0 : Int) ≤ (i : Int) ∧ (i : Int) < (n : Int) := ⟨by omega, by omega⟩
  have hr : (Instr.index t (.agg cs.toArray) (.int kd (i : Int))).run P w = .ok (.agg ((cs.drop (i * k)).take k).toArray) w := by
    simp [Instr.index, asIntOf, underlying, ht, hlt, h1, h2, part, Result.andThen]
    intro h
    omega
  simp [execOp, ho, hx, hy, hr, Result.andThen]
theorem wpList_indexArr {t e n k : Nat} {i : Nat} {x y : Operand} {cs l : List Value} {kd : IntKind} (ho : o.op = .index t x y) (hx : a.eval x = .agg cs.toArray) (hy : a.eval y = .int kd (i : Int)) (ht : P.underlying t = some (.array n e)) (hi : i < n) (he : IsAgg P e k)
    (hl : (cs.drop (i * k)).take k = l) (hw : Region.wanted o (yielded ops a.tmps) = true) (h : wpList P ops Q rest (a.put o.dst (.agg l.toArray)) w) : wpList P ops Q (o :: rest) a w :=
  wpList_value hw (run_indexArr ho hx hy ht hi he) (by rw [hl]; exact h)
/-- A field of one cell out of a struct's value. -/
theorem wpList_fieldOne {t j : Nat} {x : Operand} {cs : List Value} {v : Value} {fs : Array Field} {f : Field} (ho : o.op = .field t x j) (hx : a.eval x = .agg cs.toArray) (ht : P.underlying t = some (.struct fs)) (hf : fs[j]? = some f) (he : IsOne P f.type) (hv : cs[f.offset]? = some v)
    (hw : Region.wanted o (yielded ops a.tmps) = true) (h : wpList P ops Q rest (a.put o.dst v) w) : wpList P ops Q (o :: rest) a w := by
  have h1 := (run_isAgg_no (P := P) he.out w).1
  have hr : (Instr.field t (.agg cs.toArray) j).run P w = .ok v w := by
    simp [Instr.field, asAgg, underlying, ht, hf, h1, part, hv, Result.andThen]
  have hr2 : (execOp a.eval o).run P w = .ok (.value v) w := by
    simp [execOp, ho, hx, hr, Result.andThen]
  exact wpList_value hw hr2 h
end
theorem flat_set1 {k : Nat} : ∀ {A : List (List Value)} {i f : Nat} {u : Value} {l : List Value}, (∀ x ∈ A, x.length = k) → A[i]? = some l → f < k → (A.set i (l.set f u)).flatten = A.flatten.set (i * k + f) u
  | [], _, _, _, _, _, h, _ => by simp at h
  | x :: A, 0, f, u, l, h, hl, hf => by
    obtain rfl : x = l := by simpa using hl
    have hx := h x (by simp)
    rw [List.set_cons_zero, List.flatten_cons, List.flatten_cons, Nat.zero_mul, Nat.zero_add, List.set_append, if_pos (by omega)]
  | x :: A, i + 1, f, u, l, h, hl, hf => by
    have hx := h x (by simp)
    rw [List.set_cons_succ, List.flatten_cons, List.flatten_cons, flat_set1 (fun y hy => h y (by simp [hy])) (by simpa using hl) hf, List.set_append, if_neg (by rw [hx, Nat.add_mul]; omega)]
    congr 2
    rw [hx, Nat.add_mul]
    omega
section
variable {P : Program} {ops : Array Oper} {rest : List Oper} {o : Oper} {a : Act} {W w : World} {Q : Exit → Act → World → Prop} {L L' : List Ent}
/-- A store of one cell of a struct in a row of the call's own. -/
theorem wpList_storeRow1 {t e k n c i f : Nat} {q : Addr} {u : Value} {A : List (List Value)} {l : List Value} {x y : Operand} (hO : Own W w L) (ho : o.op = .store t x y) (hx : a.eval x = .pointer (some ((q.add (i * k)).add f))) (hy : a.eval y = u) (hu : u.oneCell' = true)
    (hl : A[i]? = some l) (hf : f < k) (hat : At (row e k (.slice (some q) n c) A) (row e k (.slice (some q) n c) (A.set i (l.set f u))) L L') (hA : ∀ l ∈ A, l.length = k) (ht : HasSize P t 1)
    (hw : Region.wanted o (yielded ops a.tmps) = true) (h : ∀ w', Own W w' L' → wpList P ops Q rest (a.put o.dst undef) w') : wpList P ops Q (o :: rest) a w := by
  obtain ⟨M, p1, p2⟩ := hat.front
  have hO1 := hO.perm p1
  obtain ⟨hi, _⟩ := List.getElem?_eq_some_iff.1 hl
  have hF : w.ownsRow 0 e k (.slice (some q) n c) A.length A.flatten := hO1.has _ List.mem_cons_self
  obtain ⟨_, hF⟩ := hF
  rcases hF with ⟨hF, _⟩ | ⟨g, cap, cur, hv2, _, hg, hnc, hcm, hcs, htake⟩
  · cases hF
  · cases hv2
    have hsz : i * k + k ≤ A.length * k := by rw [← Nat.succ_mul]; exact Nat.mul_le_mul_right _ hi
    have hcl : A.length * k ≤ c * k := Nat.mul_le_mul_right _ hnc
    have hlen : cur.toList.length = c * k := by simpa using hcs
    have hO2 : Own W w (box g (.cells cur.toList.toArray e) :: M) := hO1.as (.head _) (box_ok _ _) (fun _ => by show w.heap[g]? = _; rw [Array.toArray_toList]; exact hg) (fun b hb => hb)
    have hp' : putL cur.toList (i * k + f) [u] = cur.toList.set (i * k + f) u := by
      unfold putL
      rw [List.set_eq_take_append_cons_drop, if_pos (by omega)]; simp
    obtain ⟨w', hr, hO3⟩ := run_store_own (P := P) (L' := box g (.cells (putL cur.toList (i * k + f) [u]).toArray e) :: M) (vs := [u]) hO2 x y ho (by rw [hx, addAt, addAt, Nat.zero_add]) hy (by cases u <;> first | rfl | cases hu) (.head _) (by rw [ht.out]; rfl) (by simp only [List.length_cons, List.length_nil]; omega) (by simpa using hu)
    refine wpList_skipped hw hr (h w' (Own.perm ?_ p2.symm))
    refine hO3.as (.head _) (row_ok _ _ _ _) (fun hB => ?_) (fun b hb => hb)
    rw [hp'] at hB
    have hB' : w'.heap[g]? = some (.cells (cur.toList.set (i * k + f) u).toArray e) := hB
    have hll : l.length = k := hA l (List.mem_of_getElem? hl)
    have hfl : (A.set i (l.set f u)).flatten.length = A.length * k := by
      rw [flatL_len (k := k) (fun z hz => by rcases List.mem_or_eq_of_mem_set hz with hz | rfl; exact hA z hz; rw [List.length_set]; exact hll), List.length_set]
    show w'.ownsRow 0 e k _ (A.set i (l.set f u)).length (A.set i (l.set f u)).flatten
    rw [List.length_set]
    refine ⟨hfl, .inr ⟨g, c, _, rfl, Nat.zero_le _, hB', hnc, hcm, ?_, ?_⟩⟩
    · simp only [List.size_toArray, List.length_set]
      omega
    · rw [flat_set1 hA hl hf, ← htake]
      simp only [List.take_set]
end
section
variable {P : Program} {w : World}
/-- Two results, each in a box of the call's own. -/
theorem results_two {fn : Func} {tmps : Array Value} {i j t u n k b c : Nat} {cs ds : List Value} {T U : TypeId} {W : World} {L L' L'' : List Ent} (hO : Own W w L) (hr : fn.results = #[.cell i t, .cell j u]) (hi : tmps.getD i undef = .pointer (some ⟨b, 0, none⟩)) (hj : tmps.getD j undef = .pointer (some ⟨c, 0, none⟩))
    (hat : At (box b (.cells cs.toArray T)) (box b (.cells cs.toArray T)) L L') (hat2 : At (box c (.cells ds.toArray U)) (box c (.cells ds.toArray U)) L L'') (ht : IsAgg P t n) (hu : IsAgg P u k) (hn : cs.length = n) (hk : ds.length = k) : (results fn tmps).run P w = .ok (.tuple #[.agg cs.toArray, .agg ds.toArray]) w := by
  have h1 := run_loadVar_box (P := P) (hO.has _ hat.mem) ht hn
  have h2 := run_loadVar_box (P := P) (hO.has _ hat2.mem) hu hk
  simp only [Array.getD_eq_getD_getElem?] at hi hj
  have ha : asAddr (tmps[i]?.getD undef) = (pure ⟨b, 0, none⟩ : Sem Addr) := by rw [hi]; rfl
  have hb : asAddr (tmps[j]?.getD undef) = (pure ⟨c, 0, none⟩ : Sem Addr) := by rw [hj]; rfl
  unfold results
  rw [hr]
  simp [ha, hb, h1, h2]
end
end Go.Own

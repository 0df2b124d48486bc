/-
  Appending a part of a slice that was there when the call began; a row taken as a box and back; over any program; conditions: none.
-/
import Derived.Test.YthiokpjakiidjaaOwn3
namespace Go.Own
open Go.RowKit

theorem flat_part {k lo m : Nat} {M : List (List Value)} (hM : ∀ l ∈ M, l.length = k) (h : lo + m ≤ M.length) : ∀ j u, ((M.drop lo).take m).flatten[j]? = some u → M.flatten[lo * k + j]? = some u := by
  intro j u hu
  have e : M = M.take lo ++ ((M.drop lo).take m ++ (M.drop lo).drop m) := by rw [List.take_append_drop, List.take_append_drop]
  have hl : (M.take lo).flatten.length = lo * k := by
    rw [flatL_len (k := k) (fun l hl => hM l (List.mem_of_mem_take hl)), List.length_take, Nat.min_eq_left (by omega)]
  rw [e, List.flatten_append, List.flatten_append, List.getElem?_append_right (by omega), hl, Nat.add_sub_cancel_left, List.getElem?_append_left]
  · exact hu
  · exact (List.getElem?_eq_some_iff.1 hu).1
section
variable {P : Program} {ops : Array Oper} {rest : List Oper} {o : Oper} {a : Act} {W w : World} {Q : Exit → Act → World → Prop} {L : List Ent}
theorem wpList_appendOld {s x : Operand} {t e k bytes lo m c : Nat} {v : Value} {A M : List (List Value)} {p a0 : Addr} {L' : Value → List Ent} (hO : Own W w L) (ho : o.op = .call { callee := .builtin .append, args := #[s, x], argTypes := #[t, t] })
    (ht : IsSlice P t e) (he : IsElem P e k bytes) (hs : a.eval s = v) (hx : a.eval x = .slice (some p) m c) (hp : p = a0.add (lo * k)) (hA : LAt W a0 k M) (hM : ∀ l ∈ M, l.length = k) (hlm : lo + m ≤ M.length) (h1 : ∀ u ∈ M.flatten, u.oneCell' = true)
    (hat : ∀ v', At (row e k v A) (row e k v' (A ++ (M.drop lo).take m)) L (L' v')) (h63 : A.length + m ≤ 1000000) (hb : bytes ≤ 1000000)
    (hw : Region.wanted o (yielded ops a.tmps) = true) (h : ∀ v' w', Own W w' (L' v') → (∃ p n c, v' = .slice p n c) → wpList P ops Q rest (a.put o.dst v') w') : wpList P ops Q (o :: rest) a w := by
  have hk := he.pos
  refine wpList_append (N := (M.drop lo).take m) hO ho ht he hs hx hat (by rw [List.length_take, List.length_drop]; omega) (fun l hl => hM l (List.mem_of_mem_drop (List.mem_of_mem_take hl))) (fun j u hu => ?_) (fun u hu => ?_) (by unfold maxLen; omega) ?_ hw (fun v' w' h2 _ => h v' w' h2 ?_)
  · have h3 := hA.flat hM hk (lo * k + j) u (flat_part hM hlm j u hu)
    rw [lAdd, ← hp] at h3
    have hblk : (p.add j).block < W.heap.size := by rw [lBlock, hp, lBlock]; exact hA.lt
    rw [← h3]
    exact hO.grown.cell hblk
  · obtain ⟨l, hl, hu⟩ := List.mem_flatten.1 hu
    exact h1 u (List.mem_flatten.2 ⟨l, List.mem_of_mem_drop (List.mem_of_mem_take hl), hu⟩)
  · have := Nat.mul_le_mul h63 hb
    omega
  · have hF : w'.ownsRow 0 e k v' (A ++ (M.drop lo).take m).length (A ++ (M.drop lo).take m).flatten := h2.has _ (hat v').memY
    rcases hF.2 with ⟨rfl, _⟩ | ⟨g, cap, cur, rfl, _⟩
    · exact ⟨_, _, _, rfl⟩
    · exact ⟨_, _, _, rfl⟩
end
theorem flat_set {k : Nat} : ∀ {A : List (List Value)} {i : Nat} {l : List Value}, (∀ x ∈ A, x.length = k) → i < A.length → l.length = k → (A.set i l).flatten = A.flatten.take (i * k) ++ l ++ A.flatten.drop (i * k + k)
  | x :: A, 0, l, h, _, hl => by
    have hx := h x (by simp)
    simp only [List.set_cons_zero, List.flatten_cons, Nat.zero_mul, List.take_zero, List.nil_append, Nat.zero_add]
    rw [← hx, List.drop_left]
  | x :: A, i + 1, l, h, hi, hl => by
    have hx := h x (by simp)
    have ih := flat_set (k := k) (A := A) (i := i) (l := l) (fun y hy => h y (by simp [hy])) (by simpa using hi) hl
    simp only [List.set_cons_succ, List.flatten_cons]
    rw [ih, show (i + 1) * k = x.length + i * k by rw [Nat.add_mul, hx]; omega, List.take_length_add_append, Nat.add_assoc, List.drop_length_add_append]
    simp
section
variable {P : Program} {ops : Array Oper} {rest : List Oper} {o : Oper} {a : Act} {W w : World} {Q : Exit → Act → World → Prop} {L L' : List Ent}
/-- A store of a whole struct into a row of the call's own. -/
theorem wpList_storeRow {t e k n c i : Nat} {q : Addr} {v : Value} {A : List (List Value)} {l : List Value} {x y : Operand} (hO : Own W w L) (ho : o.op = .store t x y) (hx : a.eval x = .pointer (some (q.add (i * k)))) (hy : a.eval y = v) (hv : v.cells = l.toArray)
    (hat : At (row e k (.slice (some q) n c) A) (row e k (.slice (some q) n c) (A.set i l)) L L') (hA : ∀ l ∈ A, l.length = k) (hi : i < A.length) (hl : l.length = k) (ht : HasSize P t k) (h1 : (l.all fun u => u.oneCell') = true)
    (hw : Region.wanted o (yielded ops a.tmps) = true) (h : ∀ w', Own W w' L' → wpList P ops Q rest (a.put o.dst undef) w') : wpList P ops Q (o :: rest) a w := by
  obtain ⟨M, p1, p2⟩ := hat.front
  have hO1 := hO.perm p1
  have hF : w.ownsRow 0 e k (.slice (some q) n c) A.length A.flatten := hO1.has _ List.mem_cons_self
  obtain ⟨_, hF⟩ := hF
  rcases hF with ⟨hF, _⟩ | ⟨g, cap, cur, hv2, _, hg, hnc, hcm, hcs, htake⟩
  · cases hF
  · cases hv2
    have hsz : i * k + k ≤ A.length * k := by rw [← Nat.succ_mul]; exact Nat.mul_le_mul_right _ hi
    have hcl : A.length * k ≤ c * k := Nat.mul_le_mul_right _ hnc
    have hlen : cur.toList.length = c * k := by simpa using hcs
    have hO2 : Own W w (box g (.cells cur.toList.toArray e) :: M) := hO1.as (.head _) (box_ok _ _) (fun _ => by show w.heap[g]? = _; rw [Array.toArray_toList]; exact hg) (fun b hb => hb)
    obtain ⟨w', hr, hO3⟩ := run_store_own (P := P) (L' := box g (.cells (putL cur.toList (i * k) l).toArray e) :: M) (vs := l) hO2 x y ho (by rw [hx, addAt, Nat.zero_add]) hy hv (.head _) (by rw [ht.out, hl]) (by omega) (List.all_eq_true.1 h1)
    refine wpList_skipped hw hr (h w' (Own.perm ?_ p2.symm))
    refine hO3.as (.head _) (row_ok _ _ _ _) (fun hB => ?_) (fun b hb => hb)
    have hB' : w'.heap[g]? = some (.cells (putL cur.toList (i * k) l).toArray e) := hB
    have hfl : (A.set i l).flatten.length = A.length * k := by
      rw [flatL_len (k := k) (fun z hz => by rcases List.mem_or_eq_of_mem_set hz with hz | rfl; exact hA z hz; exact hl), List.length_set]
    show w'.ownsRow 0 e k _ (A.set i l).length (A.set i l).flatten
    rw [List.length_set]
    refine ⟨hfl, .inr ⟨g, c, _, rfl, Nat.zero_le _, hB', hnc, hcm, ?_, ?_⟩⟩
    · simp only [List.size_toArray, putL, List.length_append, List.length_take, List.length_drop]
      omega
    · simp only [putL]
      rw [flat_set hA hi hl, ← htake]
      have e1 : (cur.toList.take (A.length * k)).take (i * k) = cur.toList.take (i * k) := by rw [List.take_take, Nat.min_eq_left (by omega)]
      have e2 : (cur.toList.take (A.length * k)).drop (i * k + k) = (cur.toList.drop (i * k + k)).take (A.length * k - (i * k + k)) := by rw [List.drop_take]
      have e3 : (cur.toList.take (i * k) ++ l).length = i * k + k := by rw [List.length_append, List.length_take]; omega
      rw [e1, e2, List.take_append, e3, hl, List.take_of_length_le (by omega)]
end
section
variable {P : Program} {Q : Exit → Act → World → Prop} {π rest : List (Nat × Bool)} {i : Nat} {l : List Oper} {a : Act} {w : World} {o : Oper} {Ls Ls' : List Ent}
theorem wpSched_loadPart {b off n : Nat} {cs cl : List Value} {U t : TypeId} {x : Operand} (ho : l[i]? = some o) (hop : o.op = .load t x) (hx : a.eval x = .pointer (some ⟨b, off, none⟩)) (hat : At (box b (.cells cs.toArray U)) (box b (.cells cs.toArray U)) Ls Ls')
    (ht : IsAgg P t n) (hn : off + n ≤ cs.length) (hl : (cs.drop off).take n = cl) (hw : Region.wanted o (yielded l.toArray a.tmps) = true) (h : wpSched P l.toArray Q (Held Ls) π rest (a.put o.dst (.agg cl.toArray)) w) : wpSched P l.toArray Q (Held Ls) π ((i, true) :: rest) a w :=
  wpSched_value ho hop hw (fun w' hw' => run_load_at x hop hx (fun j v hv => by
    rw [addAt, cellAt (hw' _ hat.mem)]
    subst hl
    obtain ⟨hj, hv⟩ := List.getElem?_eq_some_iff.1 hv
    simp only [List.getElem_take, List.getElem_drop] at hv
    simp only [List.length_take, List.length_drop] at hj
    rw [← hv]
    exact List.getElem?_eq_getElem _) (by subst hl; rw [List.length_take, List.length_drop, Nat.min_eq_left (by omega)]; exact ht.1)) h
end
section
variable {P : Program} {w : World}
/-- A result that lies in a box of the call's own. -/
theorem results_one {fn : Func} {tmps : Array Value} {i t n b : Nat} {cs : List Value} {T : TypeId} {W : World} {L L' : List Ent} (hO : Own W w L) (hr : fn.results = #[.cell i t]) (hi : tmps.getD i undef = .pointer (some ⟨b, 0, none⟩))
    (hat : At (box b (.cells cs.toArray T)) (box b (.cells cs.toArray T)) L L') (ht : IsAgg P t n) (hn : cs.length = n) : (results fn tmps).run P w = .ok (.agg cs.toArray) w := by
  have h1 := run_loadVar_box (P := P) (hO.has _ hat.mem) ht hn
  simp only [Array.getD_eq_getD_getElem?] at hi
  have ha : asAddr (tmps[i]?.getD undef) = (pure ⟨b, 0, none⟩ : Sem Addr) := by rw [hi]; rfl
  unfold results
  rw [hr]
  simp [ha, h1]
end
end Go.Own

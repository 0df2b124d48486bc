/-
  append([]Row(nil), l...): a copy of rows, by the append's law; conditions: the rows lie in memory.
-/
import Derived.Test.YtkgjcbkmdpndhaaDoorRowStated
import Derived.Laws.AppendOwnNone
namespace Go.Proofs.YtkgjcbkmdpndhaaDoor
open Go.RowKit Go.Own

theorem infoRow : (Tryd.prog.info? 46).map (fun i => (i.zero, i.size, i.bytes)) = some (some (.agg #[.int .i64 0, .int .i64 0, .int .i64 0, .int .i64 0, .int .i64 0]), 5, 40) := by kernel_rfl
def flat (rs : List RowS) : List Value := rs.flatMap fun r => r.cells.toList
theorem flat_len (rs : List RowS) : (flat rs).length = rs.length * 5 := by
  unfold flat
  induction rs with
  | nil => rfl
  | cons r rs ih => rw [List.flatMap_cons, List.length_append, ih]; simp [RowS.cells]; omega
theorem flat_get : ∀ (l : List RowS) (i k : Nat), i < l.length → k < 5 → (flat l)[i * 5 + k]? = (l[i]?).bind fun r => r.cells[k]? := by
  intro l
  induction l with
  | nil => intro i k hi; simp at hi
  | cons r l ih =>
    intro i k hi hk
    have hs : r.cells.toList.length = 5 := by simp [RowS.cells]
    unfold flat at ih ⊢
    rcases i with _ | i
    · rw [List.flatMap_cons, List.getElem?_append_left (by omega)]
      simp
    · rw [List.flatMap_cons, List.getElem?_append_right (by omega), hs]
      have := ih i k (by simpa using hi) hk
      rw [show (i + 1) * 5 + k - 5 = i * 5 + k by omega]
      simpa using this
theorem isRows_of_owns {w : World} {base : Nat} {v : Value} {rs : List RowS} (h : w.ownsRow base 46 5 v rs.length (flat rs)) : IsRows w v rs := by
  have hc := @World.ownsRow.cells w base 46 5 v rs.length (flat rs) h
  rcases h.2 with ⟨rfl, h0⟩ | ⟨g, cap, cur, rfl, _, hh, h1, h2, _⟩
  · have : rs = [] := by simpa using h0
    subst this
    exact .none _ _ (fun _ => rfl)
  · by_cases hz : rs = []
    · subst hz; exact .none _ _ (fun e => by cases e)
    have hadd : ∀ n, (⟨g, 0, none⟩ : Addr).add n = ⟨g, n, none⟩ := fun n => by unfold Addr.add; split <;> simp_all
    have cell : ∀ i (hi : i < rs.length) k, k < 5 → ∀ u, rs[i].cells[k]? = some u → w.cell? ⟨g, i * 5 + k, none⟩ = some u := by
      intro i hi k hk u hu
      have := hc rfl (i * 5 + k) u (by rw [flat_get rs i k hi hk, List.getElem?_eq_getElem hi]; exact hu)
      rwa [hadd] at this
    refine .some ⟨g, 0, none⟩ cap rs h1 h2 (by cases rs <;> simp_all) ⟨lt_of_block hh, fun i hi => ?_, fun i hi => ?_, fun i hi => ?_, fun i hi => ?_, fun i hi => ?_⟩
    all_goals simp only [hadd]
    · exact cell i hi 0 (by decide) _ rfl
    · exact cell i hi 1 (by decide) _ rfl
    · exact cell i hi 2 (by decide) _ rfl
    · exact cell i hi 3 (by decide) _ rfl
    · exact cell i hi 4 (by decide) _ rfl
theorem RowsAt.flat {w : World} {a : Addr} {rs : List RowS} (h : RowsAt w a rs) : ∀ j u, (flat rs)[j]? = some u → w.cell? (a.add j) = some u := by
  intro j u hu
  have hj : j < rs.length * 5 := by
    have := (List.getElem?_eq_some_iff.1 hu).1
    rwa [flat_len] at this
  have hi : j / 5 < rs.length := by omega
  have e : j = j / 5 * 5 + j % 5 := by omega
  rw [e, flat_get rs (j / 5) (j % 5) hi (by omega), List.getElem?_eq_getElem hi] at hu
  have hadd : ∀ m k, a.add (m + k) = (a.add m).add k := fun m k => by
    unfold Addr.add
    by_cases hm : m = 0
    · subst hm; simp
    · by_cases hk : k = 0
      · subst hk; simp [hm]
      · simp [hm, hk, Nat.add_assoc]
  have hadd1 : ∀ (c : Addr) k, c.add (k + 1) = ⟨c.block, c.off + (k + 1), none⟩ := fun c k => by simp [Addr.add]
  have hk : j % 5 = 0 ∨ j % 5 = 1 ∨ j % 5 = 2 ∨ j % 5 = 3 ∨ j % 5 = 4 := by omega
  rw [e]
  rcases hk with hk | hk | hk | hk | hk
  all_goals
    rw [hk] at hu ⊢
    simp only [RowS.cells, Option.bind_some] at hu
    simp at hu
    subst hu
  · exact h.c0 _ hi
  · rw [hadd, hadd1]; exact h.c1 _ hi
  · rw [hadd, hadd1]; exact h.c2 _ hi
  · rw [hadd, hadd1]; exact h.c3 _ hi
  · rw [hadd, hadd1]; exact h.c4 _ hi
theorem wpList_copyRows {ops : Array Oper} {rest : List Oper} {o : Oper} {a : Act} {w : World} {Q : Exit → Act → World → Prop} {v : Value} {rs : List RowS} (hgd : o.guard = none) (x : Operand)
    (ho : o.op = .call { callee := .builtin .append, args := #[.const (.slice none 0 0), x], argTypes := #[35, 35] }) (hx : a.eval x = v) (hv : IsRows w v rs) (hl : rs.length ≤ 1000000)
    (h : ∀ v' w', w'.ownsRow w.heap.size 46 5 v' rs.length (flat rs) → Below w.heap.size w w' → wpList Tryd.prog ops Q rest (a.put o.dst v') w') : wpList Tryd.prog ops Q (o :: rest) a w := by
  obtain ⟨i0, hi, hz0, hz1, hz2⟩ := info_parts infoRow
  cases hv with
  | none sp sc hn =>
    cases sp with
    | some ad =>
      refine wpList_append_own w hgd _ x 35 ho w.heap.size 46 i0 _ 5 40 Tryd.underlying35 hi hz0 hz1 hz2 rfl (by decide) (.slice none 0 0) 0 [] rfl (World.ownsRow_nil _ _ _ _) ad 0 sc [] hx rfl (fun j u hu => by simp at hu) (fun u hu => by simp at hu) (by unfold maxLen; omega) (by omega) (Nat.le_refl _) ?_
      intro v' w' h2 h3 _
      exact h v' w' (by simpa [flat] using h2) (Below.grown (Below.refl _ _) h3 (Nat.le_refl _) (fun k hk => by simp [Value.ownBlock] at hk))
    | none =>
    obtain rfl := hn rfl
    refine wpList_append_own_none hgd _ x 35 ho w.heap.size 46 i0 5 Tryd.underlying35 hi (.slice none 0 0) 0 [] rfl (World.ownsRow_nil _ _ _ _) hx ?_
    exact h _ _ (World.ownsRow_nil _ _ _ _) (Below.refl _ _)
  | some ad cap rs hlen hcap h0 hR =>
    refine wpList_append_own w hgd _ x 35 ho w.heap.size 46 i0 _ 5 40 Tryd.underlying35 hi hz0 hz1 hz2 rfl (by decide) (.slice none 0 0) 0 [] rfl (World.ownsRow_nil _ _ _ _) ad rs.length cap (flat rs) hx (flat_len rs) hR.flat ?_ (by unfold maxLen; omega) (by omega) (Nat.le_refl _) ?_
    · intro u hu
      simp only [flat, List.mem_flatMap] at hu
      obtain ⟨r, _, hu⟩ := hu
      simp [RowS.cells] at hu
      rcases hu with rfl | rfl | rfl | rfl | rfl <;> rfl
    · intro v' w' h2 h3 _
      refine h v' w' (by simpa using h2) ?_
      exact Below.grown (Below.refl _ _) h3 (Nat.le_refl _) (fun k hk => by simp [Value.ownBlock] at hk)
end Go.Proofs.YtkgjcbkmdpndhaaDoor

/-
  Regions whose order the model draws, walked in one order of one's own choice, where what the quiet ones read must stay only till the last of them has come up; over any program; conditions: none.
-/
import Derived.Test.YthiokpjakiidjaaHeld
namespace Go.Own
open Go.RowKit

section
variable {P : Program} {ops : Array Oper} {Q : Exit → Act → World → Prop} {md : Region.Mode} {S : Nat → World → World → Prop} {T : World → Prop}
/-- Does j wait for i, by others too? -/
def waitsT (md : Region.Mode) (ops : Array Oper) (i : Nat) : Nat → Nat → Bool
  | 0, _ => false
  | n + 1, j => match ops[j]? with
    | some o => o.after.any fun e => Region.binds md e && (e.on == i || waitsT md ops i n e.on)
    | none => false
/-- What has come up, has come up behind what it waits for. -/
def ClosedL (md : Region.Mode) (ops : Array Oper) (listed : Array Bool) : Prop := ∀ j o, listed.getD j false = true → ops[j]? = some o → ∀ e ∈ o.after, Region.binds md e = true → listed.getD e.on false = true
theorem ClosedL.waits {listed : Array Bool} (hc : ClosedL md ops listed) {i : Nat} (hi : listed.getD i false = false) : ∀ n j, (∀ o, ops[j]? = some o → ∀ e ∈ o.after, Region.binds md e = true → listed.getD e.on false = true) → waitsT md ops i n j = false
  | 0, _, _ => rfl
  | n + 1, j, h => by
    unfold waitsT
    split
    · rename_i o ho
      rw [Array.any_eq_false]
      intro k hk
      simp only [Bool.and_eq_true, Bool.or_eq_true, beq_iff_eq]
      rintro ⟨hb, h1⟩
      have h2 := h o ho _ (Array.getElem_mem hk) hb
      rcases h1 with h1 | h1
      · rw [h1, hi] at h2; cases h2
      · rw [hc.waits hi n _ (fun o' ho' => hc _ o' h2 ho')] at h1; cases h1
    · rfl
theorem ClosedL.set {listed : Array Bool} (hc : ClosedL md ops listed) {i : Nat} (hi : i ∈ Region.ready md ops listed) : ClosedL md ops (listed.setIfInBounds i true) := by
  intro j o hj ho e he hb
  refine getD_set_true ?_
  by_cases hji : i = j
  · subst hji
    obtain ⟨_, o', ho', h⟩ := mem_ready.1 hi
    rw [ho] at ho'
    cases ho'
    exact h e he hb
  · rw [getD_set_ne false hji] at hj
    exact hc j o hj ho e he hb
/-- Whatever comes up: behind number i stands S i, of the worlds before and behind it. -/
def wpEach (P : Program) (md : Region.Mode) (ops : Array Oper) (Q : Exit → Act → World → Prop) (S : Nat → World → World → Prop) : Nat → Array Bool → Act → World → Prop
  | 0, l, a, w => Region.ready md ops l = [] ∧ Q .normal a w
  | n + 1, l, a, w => (Region.ready md ops l = [] → Q .normal a w) ∧ ∀ i ∈ Region.ready md ops l, wpOp P ops Q i (fun a' w' => S i w w' ∧ wpEach P md ops Q S n (l.setIfInBounds i true) a' w') a w
theorem wpAny_of_each : ∀ (n : Nat) (l : Array Bool) (a : Act) (w : World), wpEach P md ops Q S n l a w → wpAny P md ops Q n l a w
  | 0, _, _, _, h => h
  | n + 1, _, _, _, h => ⟨h.1, fun i hi => wpOp_mono (fun a' w' h' => wpAny_of_each n _ a' w' h'.2) (h.2 i hi)⟩
theorem wpEach_take {i m : Nat} {oi : Oper} {v : Value} (hi : ops[i]? = some oi) (hs : Region.noSelect ops = true) (hQ : ∀ c a w, Q (.panic c) (a.put oi.dst v) w → Q (.panic c) a w) (hSi : ∀ w, S i w w) : ∀ (n : Nat) (l : Array Bool) (a : Act) (w : World),
    (∀ j oj, ops[j]? = some oj → j ≠ i → l.getD j true = false → (∀ e ∈ oj.after, Region.binds md e = true → e.on ≠ i) → oi.apart ops oj = true) →
    (∀ j, j < ops.size → j ≠ i → l.getD j true = false → waitsT md ops i m j = false → ∀ w w', S j w w' → T w → T w') → ClosedL md ops l → i ∈ Region.ready md ops l → YieldsIf P ops T oi v a → T w →
    wpEach P md ops Q S n (l.setIfInBounds i true) (a.put oi.dst v) w → wpEach P md ops Q S (n + 1) l a w := by
  intro n
  induction n with
  | zero =>
    intro l a w _ _ _ hr hy hT H
    refine ⟨fun h => (by rw [h] at hr; cases hr), fun j hj => ?_⟩
    by_cases hji : j = i
    · subst hji; exact hy.wpOp hi hT ⟨hSi _, H⟩
    · have h0 := ready_mono hj hji
      rw [H.1] at h0
      cases h0
  | succ n ih =>
    intro l a w hfree hB hc hr hy hT H
    refine ⟨fun h => (by rw [h] at hr; cases hr), fun j hj => ?_⟩
    by_cases hji : j = i
    · subst hji; exact hy.wpOp hi hT ⟨hSi _, H⟩
    · have h1 := H.2 j (ready_mono hj hji)
      obtain ⟨hjun, oj, hoj, hall⟩ := mem_ready.1 hj
      have hjs : j < ops.size := (Array.getElem?_eq_some_iff.1 hoj).1
      have his : i < ops.size := (Array.getElem?_eq_some_iff.1 hi).1
      have hif : l.getD i false = false := by
        have h0 := (mem_ready.1 hr).1
        rcases Nat.lt_or_ge i l.size with h' | h'
        · simp [h'] at h0 ⊢; exact h0
        · simp [Array.getElem?_eq_none h']
      have hnot : ∀ e ∈ oj.after, Region.binds md e = true → e.on ≠ i := fun e he hb heq => by
        have h2 := hall e he hb
        rw [heq, hif] at h2
        cases h2
      have hST := hB j hjs hji hjun (hc.waits hif m j fun o ho => by rw [hoj] at ho; cases ho; exact hall)
      have h2 := wpOp_putIf hoj (hfree j oj hoj hji hjun hnot) (fun cs b => Region.noSelect_spec hs i oi cs b hi) (fun cs b => Region.noSelect_spec hs j oj cs b hoj) hQ hy h1
      have hstill : ∀ k, (l.setIfInBounds j true).getD k true = false → l.getD k true = false := fun k hk => by
        by_cases hjk : j = k
        · subst hjk; exact hjun
        · rw [getD_set_ne true hjk] at hk; exact hk
      refine wpOp_mono (fun a' w' h3 => ⟨h3.2.1, ih (l.setIfInBounds j true) a' w' (fun k ok hk hki hun hno => hfree k ok hk hki (hstill k hun) hno) (fun k hk hki hun => hB k hk hki (hstill k hun)) (hc.set hj) (ready_mono hr (Ne.symm hji)) h3.1 (hST _ _ h3.2.1 hT) ?_⟩) h2
      rw [Array.setIfInBounds_comm _ _ hji]
      exact h3.2.2

/-- Does it read memory? -/
def readsB (ops : Array Oper) (i : Nat) : Bool := match (ops.getD i default).op with
  | .load _ _ => true
  | .lookup _ _ _ _ => true
  | _ => false
/-- What a quiet one asks of the world: nothing, if it reads no memory. -/
def askS (ops : Array Oper) (T : World → Prop) (i : Nat) (w : World) : Prop := readsB ops i = true → T w
/-- Must the world still bear T behind number j? -/
def keepB (ops : Array Oper) (π : List (Nat × Bool)) (j : Nat) : Bool := π.any fun p => p.2 && readsB ops p.1 && (p.1 == j || !waitsT .any ops p.1 ops.size j)
def keepS (ops : Array Oper) (π : List (Nat × Bool)) (T : World → Prop) (j : Nat) (w : World) : Prop := keepB ops π j = true → T w
/-- Behind a quiet one the world is as it was; behind a loud one T stands, where it is still wanted. -/
def keepW (ops : Array Oper) (π : List (Nat × Bool)) (T : World → Prop) (j : Nat) (w w' : World) : Prop := (π.contains (j, true) = true → w' = w) ∧ (π.contains (j, true) = false → keepS ops π T j w')
/-- The walk: (number, is it quiet?); behind a loud one T is shown where it is still wanted. -/
def wpSched (P : Program) (ops : Array Oper) (Q : Exit → Act → World → Prop) (T : World → Prop) (π : List (Nat × Bool)) : List (Nat × Bool) → Act → World → Prop
  | [], a, w => Q .normal a w
  | (i, true) :: rest, a, w => ∃ v, YieldsIf P ops (askS ops T i) (ops.getD i default) v a ∧ wpSched P ops Q T π rest (a.put (ops.getD i default).dst v) w
  | (i, false) :: rest, a, w => wpList P ops (thenQ Q (keepS ops π T i) (wpSched P ops Q T π rest)) [ops.getD i default] a w
def schedC (ops : Array Oper) (π : List (Nat × Bool)) : List (Nat × Bool) → Array Bool → Bool
  | [], l => (Region.ready .any ops l).isEmpty
  | (i, true) :: rest, l => decide (i < ops.size) && Region.free .any ops l i && (Region.ready .any ops l).contains i && π.contains (i, true) && (!readsB ops i || ((List.range ops.size).all fun j => j == i || l.getD j true || waitsT .any ops i ops.size j || keepB ops π j || π.contains (j, true))) && schedC ops π rest (l.setIfInBounds i true)
  | (i, false) :: rest, l => decide (i < ops.size) && (Region.ready .any ops l == [i]) && !(π.contains (i, true)) && (keepB ops π i || !(rest.any fun p => p.2 && readsB ops p.1)) && schedC ops π rest (l.setIfInBounds i true)
theorem each_of_sched (hs : Region.noSelect ops = true) (hQ : ∀ c (d : Option Tmp) v a w, Q (.panic c) (Act.put a d v) w → Q (.panic c) a w) (π : List (Nat × Bool)) : ∀ (ρ : List (Nat × Bool)) (l : Array Bool) (a : Act) (w : World), schedC ops π ρ l = true → ClosedL .any ops l → ((ρ.any fun p => p.2 && readsB ops p.1) = true → T w) → wpSched P ops Q T π ρ a w →
    wpEach P .any ops Q (keepW ops π T) ρ.length l a w
  | [], l, a, w, hB, _, _, h => ⟨by simpa [schedC] using hB, h⟩
  | (i, true) :: rest, l, a, w, hB, hc, hT, h => by
    simp only [schedC, Bool.and_eq_true, decide_eq_true_eq] at hB
    obtain ⟨⟨⟨⟨⟨h1, h2⟩, h3⟩, h5⟩, h6⟩, h4⟩ := hB
    obtain ⟨v, hy, hr⟩ := h
    have hTw : askS ops T i w := fun hb => hT (by simp [hb])
    have e : ops[i]? = some (ops.getD i default) := by simp [h1]
    have hrd : i ∈ Region.ready .any ops l := by simpa using h3
    refine wpEach_take (m := ops.size) (T := askS ops T i) e hs (fun c a w => hQ c _ _ a w) (fun w => ⟨fun _ => rfl, fun hf => (by rw [h5] at hf; cases hf)⟩) _ _ _ _ (Region.free_spec e h2) (fun j hj hji hun hwt w w' hS hT hb => ?_) hc hrd hy hTw (each_of_sched hs hQ π rest _ _ w h4 (hc.set hrd) (fun hb => hT (by rw [List.any_cons, hb, Bool.or_true])) hr)
    rw [hb, Bool.not_true, Bool.false_or, List.all_eq_true] at h6
    have h7 := h6 j (List.mem_range.2 hj)
    simp only [Bool.or_eq_true, beq_iff_eq] at h7
    cases hq : π.contains (j, true)
    · rcases h7 with (((h | h) | h) | h) | h
      · exact absurd h hji
      · rw [hun] at h; cases h
      · rw [hwt] at h; cases h
      · exact hS.2 hq h
      · rw [hq] at h; cases h
    · rw [hS.1 hq]; exact hT hb
  | (i, false) :: rest, l, a, w, hB, hc, hT, h => by
    simp only [schedC, Bool.and_eq_true, decide_eq_true_eq, beq_iff_eq, Bool.or_eq_true, Bool.not_eq_true'] at hB
    obtain ⟨⟨⟨⟨h1, h2⟩, h0⟩, h5⟩, h3⟩ := hB
    refine ⟨fun h0 => (by rw [h2] at h0; cases h0), fun j hj => ?_⟩
    have hj' := hj
    rw [h2] at hj'
    obtain rfl := List.mem_singleton.1 hj'
    refine wpOp_mono (fun a' w' h6 => ⟨⟨fun ht => (by rw [h0] at ht; cases ht), fun _ => h6.1⟩, each_of_sched hs hQ π rest _ a' w' h3 (hc.set hj) (fun hq => ?_) h6.2⟩) (wpOp_of_list (K := wpSched P ops Q T π rest) h1 h)
    rcases h5 with h5 | h5
    · exact h6.1 h5
    · rw [h5] at hq; cases hq
end
section
variable {P : Program} {Q : Exit → Act → World → Prop} {T : World → Prop} {π rest : List (Nat × Bool)} {i : Nat} {l : List Oper} {a : Act} {w : World} {o : Oper}
theorem getD_of {l : List Oper} {i : Nat} {o : Oper} (h : l[i]? = some o) : l.toArray.getD i default = o := by simp [h]
theorem wpSched_nil (h : Q .normal a w) : wpSched P l.toArray Q T π [] a w := h
theorem wpSched_end {Q : Exit → Act → World → Prop} (h : Q .normal a w) : wpSched P l.toArray (NoPanic Q) T π [] a w := h
theorem readsB_of {t : TypeId} {x : Operand} (ho : l[i]? = some o) (hop : o.op = .load t x) : readsB l.toArray i = true := by
  unfold readsB
  rw [getD_of ho, hop]
theorem readsB_look {t : TypeId} {x y : Operand} {c : Bool} (ho : l[i]? = some o) (hop : o.op = .lookup t x y c) : readsB l.toArray i = true := by
  unfold readsB
  rw [getD_of ho, hop]
theorem wpSched_look {v : Value} {t : TypeId} {x y : Operand} {c : Bool} (ho : l[i]? = some o) (hop : o.op = .lookup t x y c) (hw : Region.wanted o (yielded l.toArray a.tmps) = true) (hr : ∀ w', T w' → (execOp a.eval o).run P w' = .ok (.value v) w') (h : wpSched P l.toArray Q T π rest (a.put o.dst v) w) :
    wpSched P l.toArray Q T π ((i, true) :: rest) a w := by
  refine ⟨v, ?_, ?_⟩ <;> rw [getD_of ho]
  · exact .inl ⟨hw, fun w' h => hr w' (h (readsB_look ho hop))⟩
  · exact h
theorem wpSched_value {v : Value} {t : TypeId} {x : Operand} (ho : l[i]? = some o) (hop : o.op = .load t x) (hw : Region.wanted o (yielded l.toArray a.tmps) = true) (hr : ∀ w', T w' → (execOp a.eval o).run P w' = .ok (.value v) w') (h : wpSched P l.toArray Q T π rest (a.put o.dst v) w) :
    wpSched P l.toArray Q T π ((i, true) :: rest) a w := by
  refine ⟨v, ?_, ?_⟩ <;> rw [getD_of ho]
  · exact .inl ⟨hw, fun w' h => hr w' (h (readsB_of ho hop))⟩
  · exact h
theorem wpSched_pure {v : Value} (ho : l[i]? = some o) (hw : Region.wanted o (yielded l.toArray a.tmps) = true) (hr : ∀ w', (execOp a.eval o).run P w' = .ok (.value v) w') (h : wpSched P l.toArray Q T π rest (a.put o.dst v) w) :
    wpSched P l.toArray Q T π ((i, true) :: rest) a w := by
  refine ⟨v, ?_, ?_⟩ <;> rw [getD_of ho]
  · exact .inl ⟨hw, fun w' _ => hr w'⟩
  · exact h
theorem wpSched_skip (ho : l[i]? = some o) (hw : Region.wanted o (yielded l.toArray a.tmps) = false) (h : wpSched P l.toArray Q T π rest (a.put o.dst undef) w) :
    wpSched P l.toArray Q T π ((i, true) :: rest) a w := by
  refine ⟨undef, ?_, ?_⟩ <;> rw [getD_of ho]
  · exact .inr ⟨hw, rfl⟩
  · exact h
theorem wpSched_loud (ho : l[i]? = some o) (h : wpList P l.toArray (thenQ Q (keepS l.toArray π T i) (wpSched P l.toArray Q T π rest)) [o] a w) :
    wpSched P l.toArray Q T π ((i, false) :: rest) a w := by
  unfold wpSched
  rw [getD_of ho]
  exact h
theorem thenQ_free {S : World → Prop} {R : Act → World → Prop} (hb : keepB l.toArray π i = false) (h : R a w) : thenQ Q (keepS l.toArray π S i) R .normal a w := ⟨fun hk => (by rw [hb] at hk; cases hk), h⟩
theorem thenQ_keep {S : World → Prop} {R : Act → World → Prop} (hs : S w) (h : R a w) : thenQ Q (keepS l.toArray π S i) R .normal a w := ⟨fun _ => hs, h⟩
/-- The pieces that stay, of those that are the call's own. -/
theorem Own.held {W w : World} {L Ls : List Ent} (h : Own W w L) (hs : Ls.Sublist L) : Held Ls w := fun e he => h.has e (hs.mem he)
variable {Ls Ls' : List Ent}
theorem wpSched_loadAll {b n : Nat} {cs : List Value} {U t : TypeId} {x : Operand} (ho : l[i]? = some o) (hop : o.op = .load t x) (hx : a.eval x = .pointer (some ⟨b, 0, none⟩)) (hat : At (box b (.cells cs.toArray U)) (box b (.cells cs.toArray U)) Ls Ls')
    (ht : IsAgg P t n) (hn : cs.length = n) (hw : Region.wanted o (yielded l.toArray a.tmps) = true) (h : wpSched P l.toArray Q (Held Ls) π rest (a.put o.dst (.agg cs.toArray)) w) : wpSched P l.toArray Q (Held Ls) π ((i, true) :: rest) a w :=
  wpSched_value ho hop hw (fun w' hw' => run_load_at x hop hx (fun j v hv => by rw [addAt, cellAt (hw' _ hat.mem)]; simpa using hv) (by rw [hn]; exact ht.1)) h
theorem wpSched_loadOne {b off : Nat} {cs : List Value} {v : Value} {U t : TypeId} {x : Operand} (ho : l[i]? = some o) (hop : o.op = .load t x) (hx : a.eval x = .pointer (some ⟨b, off, none⟩)) (hat : At (box b (.cells cs.toArray U)) (box b (.cells cs.toArray U)) Ls Ls')
    (hv : cs[off]? = some v) (ht : IsOne P t) (hw : Region.wanted o (yielded l.toArray a.tmps) = true) (h : wpSched P l.toArray Q (Held Ls) π rest (a.put o.dst v) w) : wpSched P l.toArray Q (Held Ls) π ((i, true) :: rest) a w :=
  wpSched_value ho hop hw (fun w' hw' => run_load_at1 x hop hx (by rw [cellAt (hw' _ hat.mem)]; exact hv) ht.1) h
end
section
variable {P : Program}
/-- The beginning: L the call's own pieces, Ls those among them that stay till all that is quiet has come up. -/
theorem region_sched2 {Q : Exit → Act → World → Prop} {W w : World} {L : List Ent} {id : Nat} {a : Act} {l : List Oper} (Ls : List Ent) (π : List (Nat × Bool)) (hO : Own W w L) (hLs : Ls.Sublist L) (hm : P.follows .mixedOrders = true)
    (hB : (Region.noSelect l.toArray && decide (π.length = l.length) && schedC l.toArray π π (Array.replicate l.toArray.size false)) = true)
    (h : ∀ w', Own W w' L → wpSched P l.toArray (NoPanic Q) (Held Ls) π π a w') : (Code.region id l.toArray true).wp P Q a w := by
  simp only [Bool.and_eq_true, decide_eq_true_eq] at hB
  obtain ⟨⟨h1, h2⟩, h3⟩ := hB
  refine wp_region_noPanic (wp_region_any hm (wpAny_of_each (S := keepW l.toArray π (Held Ls)) _ _ _ _ ?_))
  have hO' := hO.drew
  have := each_of_sched (P := P) (Q := NoPanic Q) (T := Held Ls) h1 (fun _ _ _ _ _ hh => (hh : False).elim) π π _ a _ h3 (fun j o hj => by simp [Array.getElem?_replicate] at hj; split at hj <;> simp at hj) (fun _ e he => hO'.has e (hLs.mem he)) (h _ hO')
  rw [h2] at this
  simpa using this
end
end Go.Own

/-
  Regions whose order the model draws, where two operations that make memory may come in either order, and again behind each: all ways are walked; over any program; conditions: none.
-/
import Derived.Test.YthiokpjakiidjaaOwn5
namespace Go.Own
open Go.RowKit

/-- A walk that forks: a stretch, then i or j, and what comes behind each. -/
inductive Sch where
  | fin (pre : List (Nat × Bool))
  | fork (pre : List (Nat × Bool)) (i j : Nat) (s t : Sch)
def Sch.len : Sch → Nat
  | .fin pre => pre.length
  | .fork pre _ _ s _ => pre.length + (s.len + 1)
section
variable {P : Program} {ops : Array Oper} {Q : Exit → Act → World → Prop} {T : World → Prop}
def forkQ (Q : Exit → Act → World → Prop) (K : Act → World → Prop) : Exit → Act → World → Prop
  | .normal, a, w => K a w
  | e, a, w => Q e a w
def wpS (P : Program) (ops : Array Oper) (Q : Exit → Act → World → Prop) (T : World → Prop) (π : List (Nat × Bool)) : Sch → Act → World → Prop
  | .fin pre => wpSched P ops Q T π pre
  | .fork pre i j s t => wpSched P ops (forkQ Q fun a w => wpList P ops (thenQ Q (keepS ops π T i) (wpS P ops Q T π s)) [ops.getD i default] a w ∧ wpList P ops (thenQ Q (keepS ops π T j) (wpS P ops Q T π t)) [ops.getD j default] a w) T π pre
def anyR (ops : Array Oper) (ρ : List (Nat × Bool)) : Bool := ρ.any fun p => p.2 && readsB ops p.1
def Sch.reads (ops : Array Oper) : Sch → Bool
  | .fin pre => anyR ops pre
  | .fork pre _ _ s t => anyR ops pre || (s.reads ops || t.reads ops)
def schedG (ops : Array Oper) (π : List (Nat × Bool)) (fin : Array Bool → Bool) (late : Bool) : List (Nat × Bool) → Array Bool → Bool
  | [], l => fin l
  | (i, true) :: rest, l => decide (i < ops.size) && Region.free .any ops l i && (Region.ready .any ops l).contains i && π.contains (i, true) && (!readsB ops i || ((List.range ops.size).all fun j => j == i || l.getD j true || waitsT .any ops i ops.size j || keepB ops π j || π.contains (j, true))) && schedG ops π fin late rest (l.setIfInBounds i true)
  | (i, false) :: rest, l => decide (i < ops.size) && (Region.ready .any ops l == [i]) && !(π.contains (i, true)) && (keepB ops π i || !(anyR ops rest || late)) && schedG ops π fin late rest (l.setIfInBounds i true)
def okS (ops : Array Oper) (π : List (Nat × Bool)) : Sch → Array Bool → Bool
  | .fin pre, l => schedG ops π (fun l => (Region.ready .any ops l).isEmpty) false pre l
  | .fork pre i j s t, l => schedG ops π (fun l => (Region.ready .any ops l == [i, j]) && decide (i < ops.size) && decide (j < ops.size) && !(π.contains (i, true)) && !(π.contains (j, true)) && (keepB ops π i || !s.reads ops) && (keepB ops π j || !t.reads ops) && decide (s.len = t.len) &&
      okS ops π s (l.setIfInBounds i true) && okS ops π t (l.setIfInBounds j true)) (s.reads ops || t.reads ops) pre l
theorem wpList_forkQ {K : Act → World → Prop} {S : World → Prop} {R : Act → World → Prop} {o : Oper} {a : Act} {w : World} : wpList P ops (thenQ (forkQ Q K) S R) [o] a w = wpList P ops (thenQ Q S R) [o] a w := by
  have e : thenQ (forkQ Q K) S R = thenQ Q S R := by
    funext x a w
    cases x <;> rfl
  rw [e]
theorem each_of_seg (hs : Region.noSelect ops = true) (hQ : ∀ c (d : Option Tmp) v a w, Q (.panic c) (Act.put a d v) w → Q (.panic c) a w) (π : List (Nat × Bool)) (fin : Array Bool → Bool) (late : Bool) (K : Act → World → Prop) (n : Nat)
    (hK : ∀ l a w, fin l = true → ClosedL .any ops l → (late = true → T w) → K a w → wpEach P .any ops Q (keepW ops π T) n l a w) : ∀ (ρ : List (Nat × Bool)) (l : Array Bool) (a : Act) (w : World), schedG ops π fin late ρ l = true → ClosedL .any ops l → ((anyR ops ρ || late) = true → T w) →
    wpSched P ops (forkQ Q K) T π ρ a w → wpEach P .any ops Q (keepW ops π T) (ρ.length + n) l a w
  | [], l, a, w, hB, hc, hT, h => by
    rw [show ([] : List (Nat × Bool)).length + n = n by simp]
    exact hK l a w hB hc (fun hl => hT (by rw [hl, Bool.or_true])) h
  | (i, true) :: rest, l, a, w, hB, hc, hT, h => by
    simp only [schedG, Bool.and_eq_true, decide_eq_true_eq] at hB
    obtain ⟨⟨⟨⟨⟨h1, h2⟩, h3⟩, h5⟩, h6⟩, h4⟩ := hB
    obtain ⟨v, hy, hr⟩ := h
    have hTw : askS ops T i w := fun hb => hT (by simp [anyR, hb])
    have e : ops[i]? = some (ops.getD i default) := by simp [h1]
    have hrd : i ∈ Region.ready .any ops l := by simpa using h3
    rw [show ((i, true) :: rest).length + n = (rest.length + n) + 1 by simp only [List.length_cons]; omega]
    refine wpEach_take (m := ops.size) (T := askS ops T i) e hs (fun c a w => hQ c _ _ a w) (fun w => ⟨fun _ => rfl, fun hf => (by rw [h5] at hf; cases hf)⟩) _ _ _ _ (Region.free_spec e h2) (fun j hj hji hun hwt w w' hS hT hb => ?_) hc hrd hy hTw
      (each_of_seg hs hQ π fin late K n hK rest _ _ w h4 (hc.set hrd) (fun hb => hT (by rw [anyR, List.any_cons, Bool.or_assoc]; exact Bool.or_eq_true_iff.2 (.inr hb))) hr)
    rw [hb, Bool.not_true, Bool.false_or, List.all_eq_true] at h6
    have h7 := h6 j (List.mem_range.2 hj)
    simp only [Bool.or_eq_true, beq_iff_eq] at h7
    cases hq : π.contains (j, true)
    · rcases h7 with (((h | h) | h) | h) | h
      · exact absurd h hji
      · rw [hun] at h; cases h
      · rw [hwt] at h; cases h
      · exact hS.2 hq h
      · rw [hq] at h; cases h
    · rw [hS.1 hq]; exact hT hb
  | (i, false) :: rest, l, a, w, hB, hc, hT, h => by
    simp only [schedG, Bool.and_eq_true, decide_eq_true_eq, beq_iff_eq, Bool.or_eq_true, Bool.not_eq_true'] at hB
    obtain ⟨⟨⟨⟨h1, h2⟩, h0⟩, h5⟩, h3⟩ := hB
    rw [show ((i, false) :: rest).length + n = (rest.length + n) + 1 by simp only [List.length_cons]; omega]
    refine ⟨fun h0 => (by rw [h2] at h0; cases h0), fun j hj => ?_⟩
    have hj' := hj
    rw [h2] at hj'
    obtain rfl := List.mem_singleton.1 hj'
    have h' : wpList P ops (thenQ Q (keepS ops π T j) (wpSched P ops (forkQ Q K) T π rest)) [ops.getD j default] a w := by
      rw [← wpList_forkQ (K := K)]; exact h
    refine wpOp_mono (fun a' w' h6 => ⟨⟨fun ht => (by rw [h0] at ht; cases ht), fun _ => h6.1⟩, each_of_seg hs hQ π fin late K n hK rest _ a' w' h3 (hc.set hj) (fun hq => ?_) h6.2⟩) (wpOp_of_list (K := wpSched P ops (forkQ Q K) T π rest) h1 h')
    rcases h5 with h5 | h5
    · exact h6.1 h5
    · rw [h5] at hq; cases hq
theorem sched_forkQ {π : List (Nat × Bool)} : ∀ (ρ : List (Nat × Bool)) (a : Act) (w : World), wpSched P ops Q T π ρ a w → wpSched P ops (forkQ Q fun a w => Q .normal a w) T π ρ a w
  | [], _, _, h => h
  | (_, true) :: rest, _, _, ⟨v, hy, h⟩ => ⟨v, hy, sched_forkQ rest _ _ h⟩
  | (i, false) :: rest, a, w, h => by
    have e : forkQ Q (fun a w => Q .normal a w) = Q := by
      funext x a w
      cases x <;> rfl
    rw [e]
    exact h
theorem each_of_S (hs : Region.noSelect ops = true) (hQ : ∀ c (d : Option Tmp) v a w, Q (.panic c) (Act.put a d v) w → Q (.panic c) a w) (π : List (Nat × Bool)) : ∀ (s : Sch) (l : Array Bool) (a : Act) (w : World), okS ops π s l = true → ClosedL .any ops l → (s.reads ops = true → T w) → wpS P ops Q T π s a w →
    wpEach P .any ops Q (keepW ops π T) s.len l a w
  | .fin pre, l, a, w, hB, hc, hT, h =>
    each_of_seg hs hQ π _ false (fun a w => Q .normal a w) 0 (fun l a w hf _ _ hk => ⟨by simpa using hf, hk⟩) pre l a w hB hc (fun hb => hT (by simpa [Sch.reads] using hb)) (sched_forkQ pre a w h)
  | .fork pre i j s t, l, a, w, hB, hc, hT, h =>
    each_of_seg hs hQ π _ (s.reads ops || t.reads ops) _ (s.len + 1) (fun l a w hf hc hT hk => by
      simp only [Bool.and_eq_true, decide_eq_true_eq, beq_iff_eq, Bool.or_eq_true, Bool.not_eq_true'] at hf
      obtain ⟨⟨⟨⟨⟨⟨⟨⟨⟨h1, hi⟩, hj⟩, hni⟩, hnj⟩, hki⟩, hkj⟩, hlen⟩, hs1⟩, hs2⟩ := hf
      obtain ⟨g1, g2⟩ := hk
      refine ⟨fun h0 => (by rw [h1] at h0; cases h0), fun k hk => ?_⟩
      have hk' := hk
      rw [h1] at hk'
      rcases List.mem_cons.1 hk' with e | e
      · subst e
        refine wpOp_mono (fun a' w' h6 => ⟨⟨fun ht => (by rw [hni] at ht; cases ht), fun _ => h6.1⟩, each_of_S hs hQ π s _ a' w' hs1 (hc.set hk) (fun hq => ?_) h6.2⟩) (wpOp_of_list (K := wpS P ops Q T π s) hi g1)
        rcases hki with h5 | h5
        · exact h6.1 h5
        · rw [h5] at hq; cases hq
      · obtain rfl := List.mem_singleton.1 e
        rw [hlen]
        refine wpOp_mono (fun a' w' h6 => ⟨⟨fun ht => (by rw [hnj] at ht; cases ht), fun _ => h6.1⟩, each_of_S hs hQ π t _ a' w' hs2 (hc.set hk) (fun hq => ?_) h6.2⟩) (wpOp_of_list (K := wpS P ops Q T π t) hj g2)
        rcases hkj with h5 | h5
        · exact h6.1 h5
        · rw [h5] at hq; cases hq) pre l a w hB hc (fun hb => hT (by simpa [Sch.reads] using hb)) h
end
section
variable {P : Program} {Q : Exit → Act → World → Prop} {T : World → Prop} {π : List (Nat × Bool)} {l : List Oper} {a : Act} {w : World} {s t : Sch} {i j : Nat} {o : Oper}
/-- The beginning. -/
theorem region_tree {W : World} {L : List Ent} {id : Nat} (Ls : List Ent) (π : List (Nat × Bool)) (s : Sch) (hO : Own W w L) (hLs : Ls.Sublist L) (hm : P.follows .mixedOrders = true)
    (hB : (Region.noSelect l.toArray && decide (s.len = l.length) && okS l.toArray π s (Array.replicate l.toArray.size false)) = true)
    (h : ∀ w', Own W w' L → wpS P l.toArray (NoPanic Q) (Held Ls) π s a w') : (Code.region id l.toArray true).wp P Q a w := by
  simp only [Bool.and_eq_true, decide_eq_true_eq] at hB
  obtain ⟨⟨h1, h2⟩, h3⟩ := hB
  refine wp_region_noPanic (wp_region_any hm (wpAny_of_each (S := keepW l.toArray π (Held Ls)) _ _ _ _ ?_))
  have hO' := hO.drew
  have := each_of_S (P := P) (Q := NoPanic Q) (T := Held Ls) h1 (fun _ _ _ _ _ hh => (hh : False).elim) π s _ a _ h3 (fun j' o hj => by simp [Array.getElem?_replicate] at hj; split at hj <;> simp at hj) (fun _ e he => hO'.has e (hLs.mem he)) (h _ hO')
  rw [h2] at this
  simpa using this
theorem wpS_fin {pre : List (Nat × Bool)} (h : wpSched P l.toArray Q T π pre a w) : wpS P l.toArray Q T π (.fin pre) a w := h
theorem wpS_fork {pre : List (Nat × Bool)} (h : wpSched P l.toArray (forkQ Q fun a w => wpList P l.toArray (thenQ Q (keepS l.toArray π T i) (wpS P l.toArray Q T π s)) [l.toArray.getD i default] a w ∧ wpList P l.toArray (thenQ Q (keepS l.toArray π T j) (wpS P l.toArray Q T π t)) [l.toArray.getD j default] a w) T π pre a w) :
    wpS P l.toArray Q T π (.fork pre i j s t) a w := h
theorem fork_end {o o' : Oper} (ho : l[i]? = some o) (ho' : l[j]? = some o') (h1 : wpList P l.toArray (thenQ Q (keepS l.toArray π T i) (wpS P l.toArray Q T π s)) [o] a w) (h2 : wpList P l.toArray (thenQ Q (keepS l.toArray π T j) (wpS P l.toArray Q T π t)) [o'] a w) :
    wpSched P l.toArray (forkQ Q fun a w => wpList P l.toArray (thenQ Q (keepS l.toArray π T i) (wpS P l.toArray Q T π s)) [l.toArray.getD i default] a w ∧ wpList P l.toArray (thenQ Q (keepS l.toArray π T j) (wpS P l.toArray Q T π t)) [l.toArray.getD j default] a w) T π [] a w := by
  show _ ∧ _
  rw [getD_of ho, getD_of ho']
  exact ⟨h1, h2⟩
/-- What was there when the call began stays. -/
def oldE (W : World) : Ent := ⟨[], fun w => Below W.heap.size W w⟩
theorem Own.heldO {W w : World} {L Ls : List Ent} (h : Own W w L) (hs : Ls.Sublist L) : Held (oldE W :: Ls) w := fun e he => by
  rcases List.mem_cons.1 he with he | he
  · rw [he]; exact h.grown
  · exact h.has e (hs.mem he)
/-- The beginning, where old memory is read too. -/
theorem region_treeO {W : World} {L : List Ent} {id : Nat} (Ls : List Ent) (π : List (Nat × Bool)) (s : Sch) (hO : Own W w L) (hLs : Ls.Sublist L) (hm : P.follows .mixedOrders = true)
    (hB : (Region.noSelect l.toArray && decide (s.len = l.length) && okS l.toArray π s (Array.replicate l.toArray.size false)) = true)
    (h : ∀ w', Own W w' L → wpS P l.toArray (NoPanic Q) (Held (oldE W :: Ls)) π s a w') : (Code.region id l.toArray true).wp P Q a w := by
  simp only [Bool.and_eq_true, decide_eq_true_eq] at hB
  obtain ⟨⟨h1, h2⟩, h3⟩ := hB
  refine wp_region_noPanic (wp_region_any hm (wpAny_of_each (S := keepW l.toArray π (Held (oldE W :: Ls))) _ _ _ _ ?_))
  have hO' := hO.drew
  have := each_of_S (P := P) (Q := NoPanic Q) (T := Held (oldE W :: Ls)) h1 (fun _ _ _ _ _ hh => (hh : False).elim) π s _ a _ h3 (fun j' o hj => by simp [Array.getElem?_replicate] at hj; split at hj <;> simp at hj) (fun _ => hO'.heldO hLs) (h _ hO')
  rw [h2] at this
  simpa using this
end
end Go.Own

/-
  A range over a map of the call's own, entry by entry, whatever their order; over any program; conditions: none.
-/
import Derived.Test.YthiokpjakiidjaaJoin
namespace Go.Own
open Go.RowKit Go.Maps

/-- A map that is gone through, and its iterator; left: the keys that are still to come. -/
def rangeE (P : Program) (kt : TypeId) (b r n : Nat) (f : Lit → Option Value) (left : Lit → Bool) (cnt : Nat) : Ent := ⟨[b, r], fun w => ∃ D, w.ranges P kt tokR b r n D left cnt ∧ Bears D f⟩
theorem rangeE_ok (P : Program) (kt : TypeId) (b r n : Nat) (f : Lit → Option Value) (left : Lit → Bool) (cnt : Nat) : (rangeE P kt b r n f left cnt).Ok := fun w w' h hF => by
  obtain ⟨D, ⟨es, clock, since, seen, c0, hb, F, hs, hD, hr, rest⟩, hB⟩ := hF
  exact ⟨D, ⟨es, clock, since, seen, c0, (h b (by simp [rangeE])).trans hb, F, hs, hD, (h r (by simp [rangeE])).trans hr, rest⟩, hB⟩
theorem Bears.congr {D : DataW Value} {f g : Lit → Option Value} (h : Bears D f) (e : ∀ l, WideAt.IsKeyLit l → f l = g l) : Bears D g :=
  ⟨h.1, fun l hl z => by rw [← e l hl]; exact h.2 l hl z⟩
theorem Bears.at {D : DataW Value} {f : Lit → Option Value} (h : Bears D f) {l : Lit} (hl : WideAt.IsKeyLit l) {c : Value} (hc : ∀ z, D.atKey l z = .held c) : f l = some c := by
  have e1 := h.2 l hl .nil
  have e2 := h.2 l hl (.held undef)
  rw [hc] at e1 e2
  cases hf : f l with
  | none => rw [hf] at e1; cases e1
  | some v =>
    rw [hf] at e1
    simp only [DataW.held.injEq] at e1
    rw [e1]
theorem Bears.has {D : DataW Value} {f : Lit → Option Value} (h : Bears D f) {l : Lit} (hl : WideAt.IsKeyLit l) {v : Value} (hv : f l = some v) : Maps.has D l = true :=
  has_true_of_atKey (y := .held v) (fun z => by rw [h.2 l hl z, hv])
section
variable {P : Program} {ops : Array Oper} {rest : List Oper} {o : Oper} {a : Act} {W w : World} {Q : Exit → Act → World → Prop} {L : List Ent} {kt et mt : TypeId}
theorem wpList_rangeOwn {m : Operand} {b n : Nat} {f : Lit → Option Value} {L' : Nat → (Lit → Bool) → Nat → List Ent} (hO : Own W w L) (ho : o.op = .range mt m) (hm : a.eval m = .map (some b)) (K : Keyed P kt) (ht : P.underlying mt = some (.map kt et))
    (hat : ∀ r left cnt, At (mapE P kt b n f) (rangeE P kt b r n f left cnt) L (L' r left cnt))
    (hw : Region.wanted o (yielded ops a.tmps) = true) (h : ∀ r left cnt w', cnt ≤ n → (∀ l, WideAt.IsKeyLit l → ∀ v, f l = some v → left l = true) → Own W w' (L' r left cnt) → wpList P ops Q rest (a.put o.dst (.pointer (some ⟨r, 0, none⟩))) w') : wpList P ops Q (o :: rest) a w := by
  obtain ⟨D, hD, hB⟩ := hO.has _ (hat 0 (fun _ => true) 0).mem
  obtain ⟨w', hrun, r1, r2, r3⟩ := hD.range K ht
  have hr : (execOp a.eval o).run P w = .ok (.value (.pointer (some ⟨w.heap.size, 0, none⟩))) w' := by
    simp [execOp, ho, hm, hrun, Result.andThen]
  refine wpList_value hw hr (h _ _ _ w' hD.size_le (fun l hl v hv => hB.has hl hv) (hO.turn (hat _ _ _) r2.os r2.tape r2.output r2.size (fun k hk _ => r2.block k hk (by simp)) (rangeE_ok _ _ _ _ _ _ _ _) ⟨D, r1, hB⟩ (fun b' hb' => ?_) (fun b' hb' => ?_)))
  · rcases List.mem_cons.1 hb' with e | hb'
    · subst e; exact .inl (by simp [mapE])
    · rw [List.mem_singleton.1 hb']; exact .inr (Nat.le_refl _)
  · have h1 := r1.owns.lt
    rcases List.mem_cons.1 hb' with e | hb'
    · subst e; exact h1
    · rw [List.mem_singleton.1 hb', r3]; omega
/-- The next entry. -/
theorem wpList_nextOwn {it : Operand} {b r n cnt : Nat} {f : Lit → Option Value} {left : Lit → Bool} {L' : (Lit → Bool) → Nat → List Ent} (hO : Own W w L) (ho : o.op = .next it false) (hit : a.eval it = .pointer (some ⟨r, 0, none⟩)) (K : Keyed P kt)
    (hat : ∀ left' cnt', At (rangeE P kt b r n f left cnt) (rangeE P kt b r n f left' cnt') L (L' left' cnt'))
    (hw : Region.wanted o (yielded ops a.tmps) = true) (hDone : (∀ l, left l = false) → wpList P ops Q rest (a.put o.dst (.tuple #[.bool false])) w)
    (hMore : ∀ key c kl cnt' w', keyOf P kt key = some kl → left kl = true → f kl = some c → cnt' < cnt → Own W w' (L' (fun z => left z && !z.sameKey kl) cnt') → (Instr.entry (.pointer (some ⟨r, 0, none⟩))).run P w' = .ok (.tuple #[key, c]) w' →
      wpList P ops Q rest (a.put o.dst (.tuple #[.bool true, key, c])) w') : wpList P ops Q (o :: rest) a w := by
  obtain ⟨D, hD, hB⟩ := hO.has _ (hat left cnt).mem
  rcases hD.next K o.type with ⟨h0, hl, hrun⟩ | ⟨key, v, kl, y, w', cnt', hkey, hlk, hv, hat', hrun, hrg, hlt, hgr, hsz, hen⟩
  · have hr : (execOp a.eval o).run P w = .ok (.value (.tuple #[.bool false])) w := by
      simp [execOp, ho, hit, hrun, Result.andThen]
    exact wpList_value hw hr (hDone hl)
  · have hr : (execOp a.eval o).run P w = .ok (.value (.tuple #[.bool true, key, v])) w' := by
      simp [execOp, ho, hit, hrun, Result.andThen]
    have hy : y = (.held v, []) := by simp [tokR] at hv; exact hv.symm
    subst hy
    refine wpList_value hw hr (hMore key v kl cnt' w' hkey hlk (hB.at (K.key hkey) hat') hlt (hO.turn (hat _ _) hgr.os hgr.tape hgr.output hgr.size (fun k hk hne => hgr.block k hk (fun e => hne (by simp only [Option.some.injEq] at e; simp [rangeE, e]))) (rangeE_ok _ _ _ _ _ _ _ _) ⟨D, hrg, hB⟩ (fun b' hb' => .inl hb') (fun b' hb' => ?_)) hen)
    have h1 := hrg.owns.lt
    have h2 := hrg.lt
    rcases List.mem_cons.1 hb' with e | hb'
    · subst e; exact h1
    · rw [List.mem_singleton.1 hb']; exact h2
theorem rangeLeft_of {b r n cnt : Nat} {f : Lit → Option Value} {left : Lit → Bool} {L' : List Ent} (hO : Own W w L) (hat : At (rangeE P kt b r n f left cnt) (rangeE P kt b r n f left cnt) L L') : w.rangeLeft b r = cnt := by
  obtain ⟨D, hD, _⟩ := hO.has _ hat.mem
  exact hD.left_eq
theorem Own.rangeEnd {b r n cnt : Nat} {f : Lit → Option Value} {left : Lit → Bool} {L' : List Ent} (hO : Own W w L) (hat : At (rangeE P kt b r n f left cnt) (mapE P kt b n f) L L') : Own W w L' :=
  hO.as hat (mapE_ok _ _ _ _ _) (fun ⟨D, hD, hB⟩ => ⟨D, hD.owns, hB⟩) (fun b' hb' => by rw [List.mem_singleton.1 hb']; simp [rangeE])
theorem Own.mapCongr {b n : Nat} {f g : Lit → Option Value} {L' : List Ent} (hO : Own W w L) (hat : At (mapE P kt b n f) (mapE P kt b n g) L L') (e : ∀ l, WideAt.IsKeyLit l → f l = g l) : Own W w L' :=
  hO.as hat (mapE_ok _ _ _ _ _) (fun ⟨D, hD, hB⟩ => ⟨D, hD, hB.congr e⟩) (fun _ hb => hb)
end
end Go.Own

/-
  A map of the call's own among its other memory: made, put into, looked up; over any program; conditions: none.
-/
import Derived.Test.YthiokpjakiidjaaOwn3
import Derived.Maps.OwnSet
import Derived.Maps.Views
import Derived.DeepKeys4
namespace Go.Own
open Go.RowKit Go.Maps

/-- What an element reads as: itself. -/
def tokR (v : Value) : Option (DataW Value × List MemPlace) := some (.held v, [])
/-- What a map bears at a key. -/
def Bears (D : DataW Value) (f : Lit → Option Value) : Prop := IsMap D ∧ ∀ l, WideAt.IsKeyLit l → ∀ z, D.atKey l z = match f l with
  | some v => .held v
  | none => z
def mapE (P : Program) (kt : TypeId) (b n : Nat) (f : Lit → Option Value) : Ent := ⟨[b], fun w => ∃ D, w.ownsMap P kt tokR b n D ∧ Bears D f⟩
theorem mapE_ok (P : Program) (kt : TypeId) (b n : Nat) (f : Lit → Option Value) : (mapE P kt b n f).Ok := fun w w' h hF => by
  obtain ⟨D, ⟨es, clock, hb, h2⟩, hB⟩ := hF
  exact ⟨D, ⟨es, clock, (h b (by simp [mapE])).trans hb, h2⟩, hB⟩
def updF (f : Lit → Option Value) (l : Lit) (v : Value) : Lit → Option Value := fun l' => if l'.sameKey l then some v else f l'
theorem Bears.put {D : DataW Value} {f : Lit → Option Value} (h : Bears D f) {l : Lit} (hl : WideAt.IsKeyLit l) (v : Value) : Bears (D.put l (.held v)) (updF f l v) := by
  obtain ⟨es, rfl⟩ := h.1
  refine ⟨⟨_, rfl⟩, fun l' hl' z => ?_⟩
  unfold updF
  cases e : l'.sameKey l
  · have hne : l' ≠ l := fun h => by rw [h, WideAt.sameKey_self hl] at e; cases e
    rw [atKey_put_other hne]
    simpa using h.2 l' hl' z
  · obtain rfl := WideAt.sameKey_eq e
    rw [atKey_put_same ⟨es, rfl⟩ hl]
    rfl
theorem run_zero {P : Program} {t : TypeId} {z : Value} (hz : HasZero P t z) (w : World) : (zeroValue t).run P w = .ok z w := by
  have h := hz.out
  cases hi : P.info? t with
  | none => rw [hi] at h; cases h
  | some i =>
    rw [hi] at h
    have h' : i.zero = some z := h
    simp [zeroValue, typeInfo, hi, h']
section
variable {P : Program} {ops : Array Oper} {rest : List Oper} {o : Oper} {a : Act} {W w : World} {Q : Exit → Act → World → Prop} {L L' : List Ent} {kt et mt : TypeId}
theorem wpList_makeMap (hO : Own W w L) (ho : o.op = .makeMap mt none) (hw : Region.wanted o (yielded ops a.tmps) = true)
    (h : ∀ b w', Own W w' (mapE P kt b 0 (fun _ => none) :: L) → wpList P ops Q rest (a.put o.dst (.map (some b))) w') : wpList P ops Q (o :: rest) a w := by
  have hr : (execOp a.eval o).run P w = .ok (.value (.map (some w.heap.size))) (w.alloc (.map #[] 0)) := by
    simp [execOp, ho, run_makeMap, Result.andThen]
  refine wpList_value hw hr (h _ _ (hO.more ((Below.refl _ _).alloc (Nat.le_refl _) _) (mapE_ok _ _ _ _ _) ⟨_, World.ownsMap_made w P kt tokR, ⟨[], rfl⟩, fun l _ z => rfl⟩ (fun b hb => ?_) (fun b hb => ?_)))
  · obtain rfl := List.mem_singleton.1 hb; exact Nat.le_refl _
  · obtain rfl := List.mem_singleton.1 hb; simp
theorem wpList_mapPut {m x v : Operand} {b n : Nat} {f : Lit → Option Value} {key val : Value} {l : Lit} (hO : Own W w L) (ho : o.op = .mapUpdate mt m x v) (hm : a.eval m = .map (some b)) (hx : a.eval x = key) (hv : a.eval v = val)
    (hat : At (mapE P kt b n f) (mapE P kt b (n + 1) (updF f l val)) L L') (K : Keyed P kt) (ht : P.underlying mt = some (.map kt et)) (hn : n < maxLen) (hkey : keyOf P kt key = some l)
    (hw : Region.wanted o (yielded ops a.tmps) = true) (h : ∀ w', Own W w' L' → wpList P ops Q rest (a.put o.dst undef) w') : wpList P ops Q (o :: rest) a w := by
  obtain ⟨D, hD, hB⟩ := hO.has _ hat.mem
  obtain ⟨w', hrun, h1, h2⟩ := hD.update K ht hn hkey (show tokR val = some (.held val, []) from rfl)
  have hr : (execOp a.eval o).run P w = .ok .skip w' := by
    simp [execOp, ho, hm, hx, hv, hrun, Result.andThen]
  refine wpList_skipped hw hr (h w' (hO.turn hat h2.os h2.tape h2.output h2.size (fun k hk hne => h2.block k hk (fun e => hne (by simp only [Option.some.injEq] at e; simp [mapE, e]))) (mapE_ok _ _ _ _ _) ⟨_, h1, hB.put (K.key hkey) val⟩ (fun b' hb' => .inl hb') (fun b' hb' => ?_)))
  obtain rfl := List.mem_singleton.1 hb'
  exact h1.lt
theorem run_mapLook {m x : Operand} {b n : Nat} {f : Lit → Option Value} {key z : Value} {l : Lit} (ho : o.op = .lookup mt m x true) (hm : a.eval m = .map (some b)) (hx : a.eval x = key)
    (hF : (mapE P kt b n f).F w) (K : Keyed P kt) (ht : P.underlying mt = some (.map kt et)) (hz : HasZero P et z) (hkey : keyOf P kt key = some l) :
    (execOp a.eval o).run P w = .ok (.value (match f l with | some v => .tuple #[v, .bool true] | none => .tuple #[z, .bool false])) w := by
  obtain ⟨D, ⟨es, clock, hb, F, _, rfl⟩, hB⟩ := hF
  have hz' : (zeroValue et).run P w = .ok z w := run_zero hz w
  have hl := K.key hkey
  have hr : (Instr.lookup mt (.map (some b)) key true).run P w = .ok (match f l with | some v => .tuple #[v, .bool true] | none => .tuple #[z, .bool false]) w := by
    rcases Maps.fit_look true K ht hz' hb F hkey with ⟨hrun, _, hat⟩ | ⟨e0, y, _, _, hrun, hRv, hat, _⟩
    · have h1 := hB.2 l hl .nil
      rw [hat] at h1
      cases hf : f l with
      | none => simpa using hrun
      | some v => rw [hf] at h1; cases h1
    · have h1 := hB.2 l hl .nil
      have h2 : y = (.held e0.val, []) := by simp [tokR] at hRv; exact hRv.symm
      rw [hat, h2] at h1
      cases hf : f l with
      | none => rw [hf] at h1; cases h1
      | some v =>
        rw [hf] at h1
        simp only [DataW.held.injEq] at h1
        rw [h1] at hrun
        simpa using hrun
  simp [execOp, ho, hm, hx, hr, Result.andThen]
theorem wpList_mapLook {m x : Operand} {b n : Nat} {f : Lit → Option Value} {key z : Value} {l : Lit} (hO : Own W w L) (ho : o.op = .lookup mt m x true) (hm : a.eval m = .map (some b)) (hx : a.eval x = key)
    (hat : At (mapE P kt b n f) (mapE P kt b n f) L L') (K : Keyed P kt) (ht : P.underlying mt = some (.map kt et)) (hz : HasZero P et z) (hkey : keyOf P kt key = some l)
    (hw : Region.wanted o (yielded ops a.tmps) = true) (h : wpList P ops Q rest (a.put o.dst (match f l with | some v => .tuple #[v, .bool true] | none => .tuple #[z, .bool false])) w) : wpList P ops Q (o :: rest) a w :=
  wpList_value hw (run_mapLook ho hm hx (hO.has _ hat.mem) K ht hz hkey) h
/-- A look-up in a map that was there when the call began. -/
theorem wpList_mapLookOld {m x : Operand} {b n : Nat} {f : Lit → Option Value} {key z : Value} {l : Lit} (hO : Own W w L) (ho : o.op = .lookup mt m x true) (hm : a.eval m = .map (some b)) (hx : a.eval x = key)
    (hF : (mapE P kt b n f).F W) (K : Keyed P kt) (ht : P.underlying mt = some (.map kt et)) (hz : HasZero P et z) (hkey : keyOf P kt key = some l) {res : Value} (hres : (match f l with | some v => .tuple #[v, .bool true] | none => .tuple #[z, .bool false]) = res)
    (hw : Region.wanted o (yielded ops a.tmps) = true) (h : wpList P ops Q rest (a.put o.dst res) w) : wpList P ops Q (o :: rest) a w := by
  subst hres
  have hlt : b < W.heap.size := by
    obtain ⟨D, hD, _⟩ := hF
    exact hD.lt
  have hFw : (mapE P kt b n f).F w := mapE_ok P kt b n f W w (fun b' hb' => by
    obtain rfl := List.mem_singleton.1 hb'
    exact hO.grown.block _ hlt) hF
  exact wpList_value hw (run_mapLook ho hm hx hFw K ht hz hkey) h
theorem wpList_mapLookNil {m x : Operand} {key z : Value} {l : Lit} (ho : o.op = .lookup mt m x true) (hm : a.eval m = .map none) (hx : a.eval x = key)
    (K : Keyed P kt) (ht : P.underlying mt = some (.map kt et)) (hz : HasZero P et z) (hkey : keyOf P kt key = some l)
    (hw : Region.wanted o (yielded ops a.tmps) = true) (h : wpList P ops Q rest (a.put o.dst (.tuple #[z, .bool false])) w) : wpList P ops Q (o :: rest) a w := by
  have hr := Maps.look_nil true K ht (run_zero hz w) hkey
  have hr2 : (execOp a.eval o).run P w = .ok (.value (.tuple #[z, .bool false])) w := by
    simp [execOp, ho, hm, hx, hr, Result.andThen]
  exact wpList_value hw hr2 h
end
end Go.Own

/-
  Several pieces of memory as one piece; a map's look-up without 'ok'; maps merged and copied; over any program; conditions: none.
-/
import Derived.Test.YthiokpjakiidjaaMap
import Derived.Test.YthiokpjakiidjaaOwn5
import Derived.Test.YthiokpjakiidjaaHeld3
import Derived.Lib.SlMapMerge
import Derived.Maps.RangeWalk
namespace Go.Own
open Go.RowKit Go.Maps

/-- An element, wherever memory has only grown. -/
theorem oldAt {α : Type} {W : World} {v : Value} {k : Nat} {f : α → List Value} {xs : List α} {p : Option Addr} {n c : Nat} (h : IsL W k v (xs.map f)) (e : v = .slice p n c) {j : Nat} (hj : j < xs.length) : ∃ a, p = some a ∧ ∀ w', Below W.heap.size W w' → ∀ i u, (f xs[j])[i]? = some u → w'.cell? ((a.add (j * k)).add i) = some u := by
  obtain ⟨a, cap, h1, _, _, hR⟩ := h.at (by rw [List.length_map]; omega)
  rw [e] at h1
  cases h1
  refine ⟨a, rfl, fun w' hb i u hu => ?_⟩
  have := hR.c j (by simpa using hj) i u (by simpa using hu)
  rw [← this]
  exact hb.cell (by rw [lBlock, lBlock]; exact hR.lt)
/-- A cell taken out of an array's value. -/
theorem run_indexOne {P : Program} {a : Act} {o : Oper} {w : World} {t e n : Nat} {i : Nat} {x y : Operand} {cs : List Value} {kd : IntKind} {v : Value} (ho : o.op = .index t x y) (hx : a.eval x = .agg cs.toArray) (hy : a.eval y = .int kd (i : Int)) (ht : P.underlying t = some (.array n e)) (hi : i < n) (he : IsOne P e) (hv : cs[i]? = some v) :
    (execOp a.eval o).run P w = .ok (.value v) w := by
  obtain ⟨h1, h2⟩ := run_isAgg_no he.out w
  have hlt : (0 : Int) ≤ (i : Int) ∧ (i : Int) < (n : Int) := ⟨by omega, by omega⟩
  have hr : (Instr.index t (.agg cs.toArray) (.int kd (i : Int))).run P w = .ok v w := by
    simp [Instr.index, asIntOf, underlying, ht, hlt, h1, h2, part, Result.andThen, hv]
    intro h
    omega
  simp [execOp, ho, hx, hy, hr, Result.andThen]
theorem wpList_indexOne {P : Program} {ops : Array Oper} {rest : List Oper} {a : Act} {o : Oper} {w : World} {Q : Exit → Act → World → Prop} {t e n : Nat} {i : Nat} {x y : Operand} {cs : List Value} {kd : IntKind} {v : Value} (ho : o.op = .index t x y) (hx : a.eval x = .agg cs.toArray) (hy : a.eval y = .int kd (i : Int)) (ht : P.underlying t = some (.array n e)) (hi : i < n) (he : IsOne P e) (hv : cs[i]? = some v)
    (hw : Region.wanted o (yielded ops a.tmps) = true) (h : wpList P ops Q rest (a.put o.dst v) w) : wpList P ops Q (o :: rest) a w :=
  wpList_value hw (run_indexOne ho hx hy ht hi he hv) h
theorem Own.boxAt {W w : World} {L : List Ent} {b : Nat} {o : Obj} (h : Own W w L) (hm : box b o ∈ L) : w.heap[b]? = some o := h.has _ hm
/-- Pieces, apart from each other, as one. -/
def joinE (es : List Ent) : Ent := ⟨es.flatMap Ent.bs, fun w => (∀ e ∈ es, e.F w) ∧ (∀ e ∈ es, e.Ok) ∧ (∀ e ∈ es, ∀ b ∈ e.bs, b < w.heap.size) ∧ es.Pairwise (fun e f => ∀ b ∈ e.bs, b ∉ f.bs)⟩
theorem joinE_ok (es : List Ent) : (joinE es).Ok := fun w w' h hF => by
  obtain ⟨h1, h2, h3, h4⟩ := hF
  have hb : ∀ e ∈ es, ∀ b ∈ e.bs, w'.heap[b]? = w.heap[b]? := fun e he b hb => h b (List.mem_flatMap.2 ⟨e, he, hb⟩)
  refine ⟨fun e he => h2 e he w w' (hb e he) (h1 e he), h2, fun e he b hb' => ?_, h4⟩
  have h5 := hb e he b hb'
  have h6 := h3 e he b hb'
  rw [Array.getElem?_eq_getElem h6] at h5
  exact lt_of_block h5
theorem Own.join {W w : World} {es L : List Ent} (h : Own W w (es ++ L)) : Own W w (joinE es :: L) := by
  obtain ⟨a1, a2, a3⟩ := List.pairwise_append.1 h.apart
  refine ⟨h.grown, fun e he => ?_, fun e he => ?_, fun e he => ?_, fun e he => ?_, List.pairwise_cons.2 ⟨fun f hf b hb hb' => ?_, a2⟩⟩
  · rcases List.mem_cons.1 he with rfl | he
    · exact ⟨fun e he => h.has e (List.mem_append_left _ he), fun e he => h.ok e (List.mem_append_left _ he), fun e he => h.lt e (List.mem_append_left _ he), a1⟩
    · exact h.has e (List.mem_append_right _ he)
  · rcases List.mem_cons.1 he with rfl | he
    · exact joinE_ok es
    · exact h.ok e (List.mem_append_right _ he)
  · rcases List.mem_cons.1 he with rfl | he
    · intro b hb
      obtain ⟨f, hf, hb⟩ := List.mem_flatMap.1 hb
      exact h.lt f (List.mem_append_left _ hf) b hb
    · exact h.lt e (List.mem_append_right _ he)
  · rcases List.mem_cons.1 he with rfl | he
    · intro b hb
      obtain ⟨f, hf, hb⟩ := List.mem_flatMap.1 hb
      exact h.new f (List.mem_append_left _ hf) b hb
    · exact h.new e (List.mem_append_right _ he)
  · obtain ⟨e, he, hb⟩ := List.mem_flatMap.1 hb
    exact a3 e he f hf b hb hb'
theorem Own.unjoin {W w : World} {es L : List Ent} (h : Own W w (joinE es :: L)) : Own W w (es ++ L) := by
  obtain ⟨h1, h2, h3, h4⟩ := h.has _ List.mem_cons_self
  obtain ⟨a1, a2⟩ := List.pairwise_cons.1 h.apart
  have hn := h.new _ List.mem_cons_self
  refine ⟨h.grown, fun e he => ?_, fun e he => ?_, fun e he => ?_, fun e he => ?_, List.pairwise_append.2 ⟨h4, a2, fun e he f hf b hb hb' => a1 f hf b (List.mem_flatMap.2 ⟨e, he, hb⟩) hb'⟩⟩ <;> rcases List.mem_append.1 he with he | he
  · exact h1 e he
  · exact h.has e (List.mem_cons_of_mem _ he)
  · exact h2 e he
  · exact h.ok e (List.mem_cons_of_mem _ he)
  · exact h3 e he
  · exact h.lt e (List.mem_cons_of_mem _ he)
  · exact fun b hb => hn b (List.mem_flatMap.2 ⟨e, he, hb⟩)
  · exact h.new e (List.mem_cons_of_mem _ he)
/-- A piece anywhere, brought to the front, whatever stands in its place later. -/
theorem At.fronts {α : Type} {x : Ent} {y : α → Ent} {L : List Ent} {L' : α → List Ent} (hat : ∀ v, At x (y v) L (L' v)) (v0 : α) : ∃ M, L.Perm (x :: M) ∧ ∀ v, (L' v).Perm (y v :: M) := by
  obtain ⟨M, p1, p2⟩ := (hat v0).front
  refine ⟨M, p1, fun v => ?_⟩
  obtain ⟨M', q1, q2⟩ := (hat v).front
  exact q2.trans ((List.Perm.cons_inv (q1.symm.trans p1)).cons _)
theorem mapE_mono {P : Program} {kt : TypeId} {b n n' : Nat} {f : Lit → Option Value} {W w : World} {L L' : List Ent} (h : Own W w L) (hat : At (mapE P kt b n f) (mapE P kt b n' f) L L') (hn : n ≤ n') : Own W w L' :=
  h.as hat (mapE_ok _ _ _ _ _) (fun ⟨D, hD, hB⟩ => ⟨D, hD.mono hn, hB⟩) (fun _ hb => hb)
section
variable {P : Program} {ops : Array Oper} {rest : List Oper} {o : Oper} {a : Act} {W w : World} {L L' : List Ent} {kt et mt : TypeId}
theorem run_mapLook0 {m x : Operand} {b n : Nat} {f : Lit → Option Value} {key z : Value} {l : Lit} (ho : o.op = .lookup mt m x false) (hm : a.eval m = .map (some b)) (hx : a.eval x = key)
    (hF : (mapE P kt b n f).F w) (K : Keyed P kt) (ht : P.underlying mt = some (.map kt et)) (hz : HasZero P et z) (hkey : keyOf P kt key = some l) :
    (execOp a.eval o).run P w = .ok (.value ((f l).getD z)) w := by
  obtain ⟨D, ⟨es, clock, hb, F, _, rfl⟩, hB⟩ := hF
  have hz' : (zeroValue et).run P w = .ok z w := run_zero hz w
  have hl := K.key hkey
  have hr : (Instr.lookup mt (.map (some b)) key false).run P w = .ok ((f l).getD z) w := by
    rcases Maps.fit_look false K ht hz' hb F hkey with ⟨hrun, _, hat⟩ | ⟨e0, y, _, _, hrun, hRv, hat, _⟩
    · have h1 := hB.2 l hl .nil
      rw [hat] at h1
      cases hf : f l with
      | none => simpa using hrun
      | some v => rw [hf] at h1; cases h1
    · have h1 := hB.2 l hl .nil
      have h2 : y = (.held e0.val, []) := by simp [tokR] at hRv; exact hRv.symm
      rw [hat, h2] at h1
      cases hf : f l with
      | none => rw [hf] at h1; cases h1
      | some v =>
        rw [hf] at h1
        simp only [DataW.held.injEq] at h1
        rw [h1] at hrun
        simpa using hrun
  simp [execOp, ho, hm, hx, hr, Result.andThen]
theorem wpList_mapLook0 {Q : Exit → Act → World → Prop} {m x : Operand} {b n : Nat} {f : Lit → Option Value} {key z : Value} {l : Lit} (hO : Own W w L) (ho : o.op = .lookup mt m x false) (hm : a.eval m = .map (some b)) (hx : a.eval x = key)
    (hat : At (mapE P kt b n f) (mapE P kt b n f) L L') (K : Keyed P kt) (ht : P.underlying mt = some (.map kt et)) (hz : HasZero P et z) (hkey : keyOf P kt key = some l) {res : Value} (hres : (f l).getD z = res)
    (hw : Region.wanted o (yielded ops a.tmps) = true) (h : wpList P ops Q rest (a.put o.dst res) w) : wpList P ops Q (o :: rest) a w :=
  wpList_value hw (hres ▸ run_mapLook0 ho hm hx (hO.has _ hat.mem) K ht hz hkey) h
theorem wpList_mapLook0Old {Q : Exit → Act → World → Prop} {m x : Operand} {b n : Nat} {f : Lit → Option Value} {key z : Value} {l : Lit} (hO : Own W w L) (ho : o.op = .lookup mt m x false) (hm : a.eval m = .map (some b)) (hx : a.eval x = key)
    (hF : (mapE P kt b n f).F W) (K : Keyed P kt) (ht : P.underlying mt = some (.map kt et)) (hz : HasZero P et z) (hkey : keyOf P kt key = some l) {res : Value} (hres : (f l).getD z = res)
    (hw : Region.wanted o (yielded ops a.tmps) = true) (h : wpList P ops Q rest (a.put o.dst res) w) : wpList P ops Q (o :: rest) a w := by
  have hlt : b < W.heap.size := by
    obtain ⟨D, hD, _⟩ := hF
    exact hD.lt
  have hFw : (mapE P kt b n f).F w := mapE_ok P kt b n f W w (fun b' hb' => by
    obtain rfl := List.mem_singleton.1 hb'
    exact hO.grown.block _ hlt) hF
  exact wpList_value hw (hres ▸ run_mapLook0 ho hm hx hFw K ht hz hkey) h
theorem wpQuiet_mapLook0 {Q : Act → Prop} {F : World → World} {m x : Operand} {b n : Nat} {f : Lit → Option Value} {key z : Value} {l : Lit} (hF : Fam W L F) (ho : o.op = .lookup mt m x false) (hm : a.eval m = .map (some b)) (hx : a.eval x = key)
    (hat : At (mapE P kt b n f) (mapE P kt b n f) L L') (K : Keyed P kt) (ht : P.underlying mt = some (.map kt et)) (hz : HasZero P et z) (hkey : keyOf P kt key = some l) {res : Value} (hres : (f l).getD z = res)
    (hw : Region.wanted o (yielded ops a.tmps) = true) (h : wpQuiet P ops (fun w' => ∃ x, w' = F x) Q rest (a.put o.dst res)) : wpQuiet P ops (fun w' => ∃ x, w' = F x) Q (o :: rest) a :=
  wpQuiet_value (v := res) hw (fun w' ⟨y, hy⟩ => hres ▸ run_mapLook0 ho hm hx ((hy ▸ hF.own y : Own W w' L).has _ hat.mem) K ht hz hkey) h
theorem wpQuiet_mapLook0Old {Q : Act → Prop} {F : World → World} {m x : Operand} {b n : Nat} {f : Lit → Option Value} {key z : Value} {l : Lit} (hF : Fam W L F) (ho : o.op = .lookup mt m x false) (hm : a.eval m = .map (some b)) (hx : a.eval x = key)
    (hM : (mapE P kt b n f).F W) (K : Keyed P kt) (ht : P.underlying mt = some (.map kt et)) (hz : HasZero P et z) (hkey : keyOf P kt key = some l) {res : Value} (hres : (f l).getD z = res)
    (hw : Region.wanted o (yielded ops a.tmps) = true) (h : wpQuiet P ops (fun w' => ∃ x, w' = F x) Q rest (a.put o.dst res)) : wpQuiet P ops (fun w' => ∃ x, w' = F x) Q (o :: rest) a := by
  have hlt : b < W.heap.size := by
    obtain ⟨D, hD, _⟩ := hM
    exact hD.lt
  refine wpQuiet_value (v := res) hw (fun w' ⟨y, hy⟩ => hres ▸ run_mapLook0 ho hm hx (mapE_ok P kt b n f W w' (fun b' hb' => ?_) hM) K ht hz hkey) h
  obtain rfl := List.mem_singleton.1 hb'
  exact (hy ▸ hF.own y : Own W w' L).grown.block _ hlt
theorem wpList_mapLook1 {Q : Exit → Act → World → Prop} {m x : Operand} {b n : Nat} {f : Lit → Option Value} {key z : Value} {l : Lit} (hO : Own W w L) (ho : o.op = .lookup mt m x true) (hm : a.eval m = .map (some b)) (hx : a.eval x = key)
    (hat : At (mapE P kt b n f) (mapE P kt b n f) L L') (K : Keyed P kt) (ht : P.underlying mt = some (.map kt et)) (hz : HasZero P et z) (hkey : keyOf P kt key = some l) {res : Value} (hres : (match f l with | some v => .tuple #[v, .bool true] | none => .tuple #[z, .bool false]) = res)
    (hw : Region.wanted o (yielded ops a.tmps) = true) (h : wpList P ops Q rest (a.put o.dst res) w) : wpList P ops Q (o :: rest) a w :=
  wpList_value hw (hres ▸ run_mapLook ho hm hx (hO.has _ hat.mem) K ht hz hkey) h
theorem wpSched_mapLook0 {Q : Exit → Act → World → Prop} {π rest : List (Nat × Bool)} {i : Nat} {l : List Oper} {Ls Ls' : List Ent} {m x : Operand} {b n : Nat} {f : Lit → Option Value} {key z : Value} {k : Lit} (hol : l[i]? = some o) (ho : o.op = .lookup mt m x false) (hm : a.eval m = .map (some b)) (hx : a.eval x = key)
    (hat : At (mapE P kt b n f) (mapE P kt b n f) Ls Ls') (K : Keyed P kt) (ht : P.underlying mt = some (.map kt et)) (hz : HasZero P et z) (hkey : keyOf P kt key = some k) {res : Value} (hres : (f k).getD z = res)
    (hw : Region.wanted o (yielded l.toArray a.tmps) = true) (h : wpSched P l.toArray Q (Held Ls) π rest (a.put o.dst res) w) : wpSched P l.toArray Q (Held Ls) π ((i, true) :: rest) a w :=
  wpSched_look hol ho hw (fun w' hw' => hres ▸ run_mapLook0 ho hm hx (hw' _ hat.mem) K ht hz hkey) h
theorem wpSched_mapLook1 {Q : Exit → Act → World → Prop} {π rest : List (Nat × Bool)} {i : Nat} {l : List Oper} {Ls Ls' : List Ent} {m x : Operand} {b n : Nat} {f : Lit → Option Value} {key z : Value} {k : Lit} (hol : l[i]? = some o) (ho : o.op = .lookup mt m x true) (hm : a.eval m = .map (some b)) (hx : a.eval x = key)
    (hat : At (mapE P kt b n f) (mapE P kt b n f) Ls Ls') (K : Keyed P kt) (ht : P.underlying mt = some (.map kt et)) (hz : HasZero P et z) (hkey : keyOf P kt key = some k) {res : Value} (hres : (match f k with | some v => .tuple #[v, .bool true] | none => .tuple #[z, .bool false]) = res)
    (hw : Region.wanted o (yielded l.toArray a.tmps) = true) (h : wpSched P l.toArray Q (Held Ls) π rest (a.put o.dst res) w) : wpSched P l.toArray Q (Held Ls) π ((i, true) :: rest) a w :=
  wpSched_look hol ho hw (fun w' hw' => hres ▸ run_mapLook ho hm hx (hw' _ hat.mem) K ht hz hkey) h
end
/-- One map's entries laid over another's. -/
def mergeF (f g : Lit → Option Value) : Lit → Option Value := fun l => match g l with
  | some v => some v
  | none => f l
theorem Bears.merge {Dd Ds : DataW Value} {f g : Lit → Option Value} (h : Bears Dd f) (h2 : Bears Ds g) {Kd : Lit → Prop} (O : OneKind Kd) (hs : CanonK Kd Ds) : Bears (Lib.mergeD Dd Ds) (mergeF f g) := by
  obtain ⟨ess, rfl, rs, ks⟩ := hs
  have klit : ∀ p ∈ ess, WideAt.IsKeyLit p.1 := fun p hp => O.key (ks p hp)
  have hm : ∀ (es : List (Lit × DataW Value)) (D : DataW Value), IsMap D → IsMap (es.foldl (fun D p => D.put p.1 p.2) D) := fun es => by
    induction es with
    | nil => exact fun D h => h
    | cons a r ih => exact fun D h => ih _ (h.put _ _)
  refine ⟨hm ess Dd h.1, fun l hl z => ?_⟩
  show (ess.foldl (fun D p => D.put p.1 p.2) Dd).atKey l z = _
  rw [atKey_foldPut l z ess Dd h.1 klit (apart_of_rising rs), h.2 l hl z]
  have h3 : ∀ z, (DataW.map ess).atKey l z = (match ess.find? (fun p => p.1.sameKey l) with | some p => p.2 | none => z) := fun z => by unfold DataW.atKey; simp only []; cases List.find? (fun p : Lit × DataW Value => p.1.sameKey l) ess <;> rfl
  have h4 := fun z => (h3 z).symm.trans (h2.2 l hl z)
  cases hf : ess.find? (fun p => p.1.sameKey l) with
  | none =>
    cases hg : g l with
    | none => simp [mergeF, hg]
    | some v => have := h4 .nil; rw [hf, hg] at this; cases this
  | some p =>
    cases hg : g l with
    | none =>
      have e1 := h4 .nil
      have e2 := h4 (.held undef)
      rw [hf, hg] at e1 e2
      simp only at e1 e2
      rw [e1] at e2
      cases e2
    | some v =>
      have e1 := h4 .nil
      rw [hf, hg] at e1
      simpa [mergeF, hg] using e1
end Go.Own

/-
  Whether a posting may be, and a balance posting by posting, by walking both texts; conditions: int64 numbers, the postings lie in memory.
  A map of the call's own among its other memory: made, put into, looked up; over any program; conditions: none.
  Appending a part of a slice that was there when the call began; a row taken as a box and back; over any program; conditions: none.
  Memory that a callee hands over, taken among the caller's own; appending all of a slice that lies anywhere; over any program; conditions: none.
  Regions whose order the model draws, where two operations that make memory may come in either order, and again behind each: all ways are walked; over any program; conditions: none.
  Several pieces of memory as one piece; a map's look-up without 'ok'; maps merged and copied; over any program; conditions: none.
  A range over a map of the call's own, entry by entry, whatever their order; over any program; conditions: none.
  The books' two maps: their keys, and one copied over another; conditions: int64 numbers.
  The books as a piece of memory; what they tell, by walking the program's text; conditions: int64 numbers.
-/
import Derived.Deep.DeepCutAuto
import Derived.Maps.OwnSet
import Derived.Maps.Views
import Derived.DeepKeys4
import Derived.Laws.OwnMore
import Derived.Lib.SlMapMerge
import Derived.Maps.RangeWalk
import Derived.StringKeys
import Derived.Shelf.SlMaps.Clone
import Derived.Test.YtibabfedpdoofaaGreatDoorQa1
namespace Go.Proofs.YtibabfedpdoofaaGreatDoor
open Go.RowKit Go.Own

/-- A posting as Go can hold it. -/
structure WfP (p : Pst) : Prop where
  o : inI p.o = true
  d : inI p.d = true
  c : inI p.c = true
  a : inI p.a = true
  s : p.id.size ≤ maxLen

theorem size0 {b : ByteArray} (h : b.size = 0) : b = ⟨#[]⟩ := by
  obtain ⟨⟨l⟩⟩ := b
  have : l.length = 0 := h
  rw [List.length_eq_zero_iff.1 this]
theorem ne0 {b : ByteArray} (h : ¬ b.size = 0) : b.toList.isEmpty = false := by
  rw [ByteArray.toList_eq]
  obtain ⟨⟨l⟩⟩ := b
  cases l with
  | nil => exact absurd rfl h
  | cons x l => rfl
set_option maxHeartbeats 4000000 in
set_option maxRecDepth 100000 in
theorem mayB_any (p : Pst) (w : World) : Calls Tryz.prog 142 #[pstV p] w fun e w' => e = .returned (.bool (mayPst p)) ∧ Below w.heap.size w w' := by
  have HQ := Lib.hid (fun p => @mayPst_iff p)
  obtain ⟨id, o, d, c, a⟩ := p
  have HO := Own.start w
  have HF := HO
  simp only [pstV, pstC]
  by_cases h1 : id.size = 0
  · have e1 : id = ⟨#[]⟩ := size0 h1
    subst e1
    clear HF
    go_enter Tryz.func142, Tryz.ntmps142
    go_wp2_with (first | (first | go_big_skip | ((with_reducible apply wpList_loadAll HO); exact rfl; exact rfl; (repeat (with_reducible (first | exact At.head _ | apply At.tail))); infer_instance; exact rfl; exact rfl; (simp only [Act.put, zA, zB, zC])) | ((with_reducible apply wpList_loadOne HO); exact rfl; exact rfl; (repeat (with_reducible (first | exact At.head _ | apply At.tail))); exact rfl; infer_instance; exact rfl; (simp only [Act.put, zA, zB, zC])) | ((with_reducible apply wpList_storeAll HO); exact rfl; exact rfl; exact rfl; (repeat (with_reducible (first | exact At.head _ | apply At.tail))); infer_instance; exact rfl; exact rfl; exact rfl; exact rfl; clear HO; intro w HO; (simp only [Act.put])) | (first | ((with_reducible apply wpList_boxAgg _ HO rfl); exact rfl; exact rfl; exact rfl; clear HO; intro b0 w HO; (simp only [Act.put, zA, zB, zC])) | ((with_reducible apply wpList_allocAgg _ HO rfl); exact rfl; infer_instance; exact rfl; clear HO; intro b0 w HO; (simp only [Act.put, zA, zB, zC])))) | ((with_reducible apply wpList_loadPart HO); exact rfl; exact rfl; (repeat (with_reducible (first | exact At.head _ | apply At.tail))); infer_instance; exact (Nat.le_of_ble_eq_true rfl); (simp only [List.drop_succ_cons, List.drop_zero, List.take_succ_cons, List.take_zero]; rfl); exact rfl; (simp only [Act.put, zA, zB, zC])) | (go_at_call 167; go_must ((with_reducible refine (acct_any _ _).mono ?_); rintro e w ⟨rfl, hb⟩; replace HO := HO.call hb; clear hb)))
    go_ret
    refine ⟨ret_bool ?_, HO.grown⟩
    rw [Bool.eq_iff_iff, HQ.out]
    simp only [false_iff, Bool.false_eq_true] <;> (try simp only [acct, decide_eq_true_eq, decide_eq_false_iff_not] at *) <;> omega
  have e1 : id.toList.isEmpty = false := ne0 h1
  by_cases h2 : 1 ≤ o
  rotate_left
  · clear HF
    go_enter Tryz.func142, Tryz.ntmps142
    go_wp2_with (first | (first | go_big_skip | ((with_reducible apply wpList_loadAll HO); exact rfl; exact rfl; (repeat (with_reducible (first | exact At.head _ | apply At.tail))); infer_instance; exact rfl; exact rfl; (simp only [Act.put, zA, zB, zC])) | ((with_reducible apply wpList_loadOne HO); exact rfl; exact rfl; (repeat (with_reducible (first | exact At.head _ | apply At.tail))); exact rfl; infer_instance; exact rfl; (simp only [Act.put, zA, zB, zC])) | ((with_reducible apply wpList_storeAll HO); exact rfl; exact rfl; exact rfl; (repeat (with_reducible (first | exact At.head _ | apply At.tail))); infer_instance; exact rfl; exact rfl; exact rfl; exact rfl; clear HO; intro w HO; (simp only [Act.put])) | (first | ((with_reducible apply wpList_boxAgg _ HO rfl); exact rfl; exact rfl; exact rfl; clear HO; intro b0 w HO; (simp only [Act.put, zA, zB, zC])) | ((with_reducible apply wpList_allocAgg _ HO rfl); exact rfl; infer_instance; exact rfl; clear HO; intro b0 w HO; (simp only [Act.put, zA, zB, zC])))) | ((with_reducible apply wpList_loadPart HO); exact rfl; exact rfl; (repeat (with_reducible (first | exact At.head _ | apply At.tail))); infer_instance; exact (Nat.le_of_ble_eq_true rfl); (simp only [List.drop_succ_cons, List.drop_zero, List.take_succ_cons, List.take_zero]; rfl); exact rfl; (simp only [Act.put, zA, zB, zC])) | (go_at_call 167; go_must ((with_reducible refine (acct_any _ _).mono ?_); rintro e w ⟨rfl, hb⟩; replace HO := HO.call hb; clear hb)))
    go_ret
    refine ⟨ret_bool ?_, HO.grown⟩
    rw [Bool.eq_iff_iff, HQ.out]
    simp only [false_iff, Bool.false_eq_true] <;> (try simp only [acct, decide_eq_true_eq, decide_eq_false_iff_not] at *) <;> omega
  cases h3 : acct d
  · clear HF
    go_enter Tryz.func142, Tryz.ntmps142
    go_wp2_with (first | (first | go_big_skip | ((with_reducible apply wpList_loadAll HO); exact rfl; exact rfl; (repeat (with_reducible (first | exact At.head _ | apply At.tail))); infer_instance; exact rfl; exact rfl; (simp only [Act.put, zA, zB, zC])) | ((with_reducible apply wpList_loadOne HO); exact rfl; exact rfl; (repeat (with_reducible (first | exact At.head _ | apply At.tail))); exact rfl; infer_instance; exact rfl; (simp only [Act.put, zA, zB, zC])) | ((with_reducible apply wpList_storeAll HO); exact rfl; exact rfl; exact rfl; (repeat (with_reducible (first | exact At.head _ | apply At.tail))); infer_instance; exact rfl; exact rfl; exact rfl; exact rfl; clear HO; intro w HO; (simp only [Act.put])) | (first | ((with_reducible apply wpList_boxAgg _ HO rfl); exact rfl; exact rfl; exact rfl; clear HO; intro b0 w HO; (simp only [Act.put, zA, zB, zC])) | ((with_reducible apply wpList_allocAgg _ HO rfl); exact rfl; infer_instance; exact rfl; clear HO; intro b0 w HO; (simp only [Act.put, zA, zB, zC])))) | ((with_reducible apply wpList_loadPart HO); exact rfl; exact rfl; (repeat (with_reducible (first | exact At.head _ | apply At.tail))); infer_instance; exact (Nat.le_of_ble_eq_true rfl); (simp only [List.drop_succ_cons, List.drop_zero, List.take_succ_cons, List.take_zero]; rfl); exact rfl; (simp only [Act.put, zA, zB, zC])) | (go_at_call 167; go_must ((with_reducible refine (acct_any _ _).mono ?_); rintro e w ⟨rfl, hb⟩; replace HO := HO.call hb; clear hb)))
    go_ret
    refine ⟨ret_bool ?_, HO.grown⟩
    rw [Bool.eq_iff_iff, HQ.out]
    simp only [false_iff, Bool.false_eq_true] <;> (try simp only [acct, decide_eq_false_iff_not] at *) <;> omega
  cases h4 : acct c
  · clear HF
    go_enter Tryz.func142, Tryz.ntmps142
    go_wp2_with (first | (first | go_big_skip | ((with_reducible apply wpList_loadAll HO); exact rfl; exact rfl; (repeat (with_reducible (first | exact At.head _ | apply At.tail))); infer_instance; exact rfl; exact rfl; (simp only [Act.put, zA, zB, zC])) | ((with_reducible apply wpList_loadOne HO); exact rfl; exact rfl; (repeat (with_reducible (first | exact At.head _ | apply At.tail))); exact rfl; infer_instance; exact rfl; (simp only [Act.put, zA, zB, zC])) | ((with_reducible apply wpList_storeAll HO); exact rfl; exact rfl; exact rfl; (repeat (with_reducible (first | exact At.head _ | apply At.tail))); infer_instance; exact rfl; exact rfl; exact rfl; exact rfl; clear HO; intro w HO; (simp only [Act.put])) | (first | ((with_reducible apply wpList_boxAgg _ HO rfl); exact rfl; exact rfl; exact rfl; clear HO; intro b0 w HO; (simp only [Act.put, zA, zB, zC])) | ((with_reducible apply wpList_allocAgg _ HO rfl); exact rfl; infer_instance; exact rfl; clear HO; intro b0 w HO; (simp only [Act.put, zA, zB, zC])))) | ((with_reducible apply wpList_loadPart HO); exact rfl; exact rfl; (repeat (with_reducible (first | exact At.head _ | apply At.tail))); infer_instance; exact (Nat.le_of_ble_eq_true rfl); (simp only [List.drop_succ_cons, List.drop_zero, List.take_succ_cons, List.take_zero]; rfl); exact rfl; (simp only [Act.put, zA, zB, zC])) | (go_at_call 167; go_must ((with_reducible refine (acct_any _ _).mono ?_); rintro e w ⟨rfl, hb⟩; replace HO := HO.call hb; clear hb)))
    go_ret
    refine ⟨ret_bool ?_, HO.grown⟩
    rw [Bool.eq_iff_iff, HQ.out]
    simp only [false_iff, Bool.false_eq_true] <;> (try simp only [acct, decide_eq_true_eq, decide_eq_false_iff_not] at *) <;> omega
  by_cases h5 : d = c
  · clear HF
    go_enter Tryz.func142, Tryz.ntmps142
    go_wp2_with (first | (first | go_big_skip | ((with_reducible apply wpList_loadAll HO); exact rfl; exact rfl; (repeat (with_reducible (first | exact At.head _ | apply At.tail))); infer_instance; exact rfl; exact rfl; (simp only [Act.put, zA, zB, zC])) | ((with_reducible apply wpList_loadOne HO); exact rfl; exact rfl; (repeat (with_reducible (first | exact At.head _ | apply At.tail))); exact rfl; infer_instance; exact rfl; (simp only [Act.put, zA, zB, zC])) | ((with_reducible apply wpList_storeAll HO); exact rfl; exact rfl; exact rfl; (repeat (with_reducible (first | exact At.head _ | apply At.tail))); infer_instance; exact rfl; exact rfl; exact rfl; exact rfl; clear HO; intro w HO; (simp only [Act.put])) | (first | ((with_reducible apply wpList_boxAgg _ HO rfl); exact rfl; exact rfl; exact rfl; clear HO; intro b0 w HO; (simp only [Act.put, zA, zB, zC])) | ((with_reducible apply wpList_allocAgg _ HO rfl); exact rfl; infer_instance; exact rfl; clear HO; intro b0 w HO; (simp only [Act.put, zA, zB, zC])))) | ((with_reducible apply wpList_loadPart HO); exact rfl; exact rfl; (repeat (with_reducible (first | exact At.head _ | apply At.tail))); infer_instance; exact (Nat.le_of_ble_eq_true rfl); (simp only [List.drop_succ_cons, List.drop_zero, List.take_succ_cons, List.take_zero]; rfl); exact rfl; (simp only [Act.put, zA, zB, zC])) | (go_at_call 167; go_must ((with_reducible refine (acct_any _ _).mono ?_); rintro e w ⟨rfl, hb⟩; replace HO := HO.call hb; clear hb)))
    go_ret
    refine ⟨ret_bool ?_, HO.grown⟩
    rw [Bool.eq_iff_iff, HQ.out]
    simp only [false_iff, Bool.false_eq_true] <;> (try simp only [acct, decide_eq_true_eq] at *) <;> omega
  have e9 : (d != c) = true := by rw [bne_iff_ne]; exact h5
  have e8 : (d == c) = false := by rw [beq_eq_false_iff_ne]; exact h5
  by_cases h6 : 0 ≤ a
  rotate_left
  · clear HF
    go_enter Tryz.func142, Tryz.ntmps142
    go_wp2_with (first | (first | go_big_skip | ((with_reducible apply wpList_loadAll HO); exact rfl; exact rfl; (repeat (with_reducible (first | exact At.head _ | apply At.tail))); infer_instance; exact rfl; exact rfl; (simp only [Act.put, zA, zB, zC])) | ((with_reducible apply wpList_loadOne HO); exact rfl; exact rfl; (repeat (with_reducible (first | exact At.head _ | apply At.tail))); exact rfl; infer_instance; exact rfl; (simp only [Act.put, zA, zB, zC])) | ((with_reducible apply wpList_storeAll HO); exact rfl; exact rfl; exact rfl; (repeat (with_reducible (first | exact At.head _ | apply At.tail))); infer_instance; exact rfl; exact rfl; exact rfl; exact rfl; clear HO; intro w HO; (simp only [Act.put])) | (first | ((with_reducible apply wpList_boxAgg _ HO rfl); exact rfl; exact rfl; exact rfl; clear HO; intro b0 w HO; (simp only [Act.put, zA, zB, zC])) | ((with_reducible apply wpList_allocAgg _ HO rfl); exact rfl; infer_instance; exact rfl; clear HO; intro b0 w HO; (simp only [Act.put, zA, zB, zC])))) | ((with_reducible apply wpList_loadPart HO); exact rfl; exact rfl; (repeat (with_reducible (first | exact At.head _ | apply At.tail))); infer_instance; exact (Nat.le_of_ble_eq_true rfl); (simp only [List.drop_succ_cons, List.drop_zero, List.take_succ_cons, List.take_zero]; rfl); exact rfl; (simp only [Act.put, zA, zB, zC])) | (go_at_call 167; go_must ((with_reducible refine (acct_any _ _).mono ?_); rintro e w ⟨rfl, hb⟩; replace HO := HO.call hb; clear hb)))
    go_ret
    refine ⟨ret_bool ?_, HO.grown⟩
    rw [Bool.eq_iff_iff, HQ.out]
    simp only <;> (try simp only [acct, decide_eq_true_eq] at *) <;> omega
  clear HF
  go_enter Tryz.func142, Tryz.ntmps142
  go_wp2_with (first | (first | go_big_skip | ((with_reducible apply wpList_loadAll HO); exact rfl; exact rfl; (repeat (with_reducible (first | exact At.head _ | apply At.tail))); infer_instance; exact rfl; exact rfl; (simp only [Act.put, zA, zB, zC])) | ((with_reducible apply wpList_loadOne HO); exact rfl; exact rfl; (repeat (with_reducible (first | exact At.head _ | apply At.tail))); exact rfl; infer_instance; exact rfl; (simp only [Act.put, zA, zB, zC])) | ((with_reducible apply wpList_storeAll HO); exact rfl; exact rfl; exact rfl; (repeat (with_reducible (first | exact At.head _ | apply At.tail))); infer_instance; exact rfl; exact rfl; exact rfl; exact rfl; clear HO; intro w HO; (simp only [Act.put])) | (first | ((with_reducible apply wpList_boxAgg _ HO rfl); exact rfl; exact rfl; exact rfl; clear HO; intro b0 w HO; (simp only [Act.put, zA, zB, zC])) | ((with_reducible apply wpList_allocAgg _ HO rfl); exact rfl; infer_instance; exact rfl; clear HO; intro b0 w HO; (simp only [Act.put, zA, zB, zC])))) | ((with_reducible apply wpList_loadPart HO); exact rfl; exact rfl; (repeat (with_reducible (first | exact At.head _ | apply At.tail))); infer_instance; exact (Nat.le_of_ble_eq_true rfl); (simp only [List.drop_succ_cons, List.drop_zero, List.take_succ_cons, List.take_zero]; rfl); exact rfl; (simp only [Act.put, zA, zB, zC])) | (go_at_call 167; go_must ((with_reducible refine (acct_any _ _).mono ?_); rintro e w ⟨rfl, hb⟩; replace HO := HO.call hb; clear hb)))
  go_ret
  refine ⟨ret_bool ?_, HO.grown⟩
  rw [Bool.eq_iff_iff, HQ.out]
  simp only [true_iff] <;> (try simp only [acct, decide_eq_true_eq] at *) <;> omega
end Go.Proofs.YtibabfedpdoofaaGreatDoor
namespace Go.Own
open Go.RowKit Go.Maps

/-- What an element reads as: itself. -/
def tokR (v : Value) : Option (DataW Value × List MemPlace) := some (.held v, [])
/-- What a map bears at a key. -/
def Bears (D : DataW Value) (f : Lit → Option Value) : Prop := IsMap D ∧ ∀ l, WideAt.IsKeyLit l → ∀ z, D.atKey l z = match f l with
  | some v => .held v
  | none => z
def mapE (P : Program) (kt : TypeId) (b n : Nat) (f : Lit → Option Value) : Ent := ⟨[b], fun w => ∃ D, w.ownsMap P kt tokR b n D ∧ Bears D f⟩
theorem mapE_ok (P : Program) (kt : TypeId) (b n : Nat) (f : Lit → Option Value) : (mapE P kt b n f).Ok := fun w w' h hF => by
  obtain ⟨D, ⟨es, clock, hb, h2⟩, hB⟩ := hF
  exact ⟨D, ⟨es, clock, (h b (by simp [mapE])).trans hb, h2⟩, hB⟩
def updF (f : Lit → Option Value) (l : Lit) (v : Value) : Lit → Option Value := fun l' => if l'.sameKey l then some v else f l'
theorem Bears.put {D : DataW Value} {f : Lit → Option Value} (h : Bears D f) {l : Lit} (hl : WideAt.IsKeyLit l) (v : Value) : Bears (D.put l (.held v)) (updF f l v) := by
  obtain ⟨es, rfl⟩ := h.1
  refine ⟨⟨_, rfl⟩, fun l' hl' z => ?_⟩
  unfold updF
  cases e : l'.sameKey l
  · have hne : l' ≠ l := fun h => by rw [h, WideAt.sameKey_self hl] at e; cases e
    rw [atKey_put_other hne]
    simpa using h.2 l' hl' z
  · obtain rfl := WideAt.sameKey_eq e
    rw [atKey_put_same ⟨es, rfl⟩ hl]
    rfl
theorem run_zero {P : Program} {t : TypeId} {z : Value} (hz : HasZero P t z) (w : World) : (zeroValue t).run P w = .ok z w := by
  have h := hz.out
  cases hi : P.info? t with
  | none => rw [hi] at h; cases h
  | some i =>
    rw [hi] at h
    have h' : i.zero = some z := h
    simp [zeroValue, typeInfo, hi, h']
section
variable {P : Program} {ops : Array Oper} {rest : List Oper} {o : Oper} {a : Act} {W w : World} {Q : Exit → Act → World → Prop} {L L' : List Ent} {kt et mt : TypeId}
theorem wpList_makeMap (hO : Own W w L) (ho : o.op = .makeMap mt none) (hw : Region.wanted o (yielded ops a.tmps) = true)
    (h : ∀ b w', Own W w' (mapE P kt b 0 (fun _ => none) :: L) → wpList P ops Q rest (a.put o.dst (.map (some b))) w') : wpList P ops Q (o :: rest) a w := by
  have hr : (execOp a.eval o).run P w = .ok (.value (.map (some w.heap.size))) (w.alloc (.map #[] 0)) := by
    simp [execOp, ho, run_makeMap, Result.andThen]
  refine wpList_value hw hr (h _ _ (hO.more ((Below.refl _ _).alloc (Nat.le_refl _) _) (mapE_ok _ _ _ _ _) ⟨_, World.ownsMap_made w P kt tokR, ⟨[], rfl⟩, fun l _ z => rfl⟩ (fun b hb => ?_) (fun b hb => ?_)))
  · obtain rfl := List.mem_singleton.1 hb; exact Nat.le_refl _
  · obtain rfl := List.mem_singleton.1 hb; simp
theorem wpList_mapPut {m x v : Operand} {b n : Nat} {f : Lit → Option Value} {key val : Value} {l : Lit} (hO : Own W w L) (ho : o.op = .mapUpdate mt m x v) (hm : a.eval m = .map (some b)) (hx : a.eval x = key) (hv : a.eval v = val)
    (hat : At (mapE P kt b n f) (mapE P kt b (n + 1) (updF f l val)) L L') (K : Keyed P kt) (ht : P.underlying mt = some (.map kt et)) (hn : n < maxLen) (hkey : keyOf P kt key = some l)
    (hw : Region.wanted o (yielded ops a.tmps) = true) (h : ∀ w', Own W w' L' → wpList P ops Q rest (a.put o.dst undef) w') : wpList P ops Q (o :: rest) a w := by
  obtain ⟨D, hD, hB⟩ := hO.has _ hat.mem
  obtain ⟨w', hrun, h1, h2⟩ := hD.update K ht hn hkey (show tokR val = some (.held val, []) from rfl)
  have hr : (execOp a.eval o).run P w = .ok .skip w' := by
    simp [execOp, ho, hm, hx, hv, hrun, Result.andThen]
  refine wpList_skipped hw hr (h w' (hO.turn hat h2.os h2.tape h2.output h2.size (fun k hk hne => h2.block k hk (fun e => hne (by simp only [Option.some.injEq] at e; simp [mapE, e]))) (mapE_ok _ _ _ _ _) ⟨_, h1, hB.put (K.key hkey) val⟩ (fun b' hb' => .inl hb') (fun b' hb' => ?_)))
  obtain rfl := List.mem_singleton.1 hb'
  exact h1.lt
theorem run_mapLook {m x : Operand} {b n : Nat} {f : Lit → Option Value} {key z : Value} {l : Lit} (ho : o.op = .lookup mt m x true) (hm : a.eval m = .map (some b)) (hx : a.eval x = key)
    (hF : (mapE P kt b n f).F w) (K : Keyed P kt) (ht : P.underlying mt = some (.map kt et)) (hz : HasZero P et z) (hkey : keyOf P kt key = some l) :
    (execOp a.eval o).run P w = .ok (.value (match f l with | some v => .tuple #[v, .bool true] | none => .tuple #[z, .bool false])) w := by
  obtain ⟨D, ⟨es, clock, hb, F, _, rfl⟩, hB⟩ := hF
  have hz' : (zeroValue et).run P w = .ok z w := run_zero hz w
  have hl := K.key hkey
  have hr : (Instr.lookup mt (.map (some b)) key true).run P w = .ok (match f l with | some v => .tuple #[v, .bool true] | none => .tuple #[z, .bool false]) w := by
    rcases Maps.fit_look true K ht hz' hb F hkey with ⟨hrun, _, hat⟩ | ⟨e0, y, _, _, hrun, hRv, hat, _⟩
    · have h1 := hB.2 l hl .nil
      rw [hat] at h1
      cases hf : f l with
      | none => simpa using hrun
      | some v => rw [hf] at h1; cases h1
    · have h1 := hB.2 l hl .nil
      have h2 : y = (.held e0.val, []) := by simp [tokR] at hRv; exact hRv.symm
      rw [hat, h2] at h1
      cases hf : f l with
      | none => rw [hf] at h1; cases h1
      | some v =>
        rw [hf] at h1
        simp only [DataW.held.injEq] at h1
        rw [h1] at hrun
        simpa using hrun
  simp [execOp, ho, hm, hx, hr, Result.andThen]
/-- A look-up in a map that was there when the call began. -/
theorem wpList_mapLookOld {m x : Operand} {b n : Nat} {f : Lit → Option Value} {key z : Value} {l : Lit} (hO : Own W w L) (ho : o.op = .lookup mt m x true) (hm : a.eval m = .map (some b)) (hx : a.eval x = key)
    (hF : (mapE P kt b n f).F W) (K : Keyed P kt) (ht : P.underlying mt = some (.map kt et)) (hz : HasZero P et z) (hkey : keyOf P kt key = some l) {res : Value} (hres : (match f l with | some v => .tuple #[v, .bool true] | none => .tuple #[z, .bool false]) = res)
    (hw : Region.wanted o (yielded ops a.tmps) = true) (h : wpList P ops Q rest (a.put o.dst res) w) : wpList P ops Q (o :: rest) a w := by
  subst hres
  have hlt : b < W.heap.size := by
    obtain ⟨D, hD, _⟩ := hF
    exact hD.lt
  have hFw : (mapE P kt b n f).F w := mapE_ok P kt b n f W w (fun b' hb' => by
    obtain rfl := List.mem_singleton.1 hb'
    exact hO.grown.block _ hlt) hF
  exact wpList_value hw (run_mapLook ho hm hx hFw K ht hz hkey) h
theorem wpList_mapLookNil {m x : Operand} {key z : Value} {l : Lit} (ho : o.op = .lookup mt m x true) (hm : a.eval m = .map none) (hx : a.eval x = key)
    (K : Keyed P kt) (ht : P.underlying mt = some (.map kt et)) (hz : HasZero P et z) (hkey : keyOf P kt key = some l)
    (hw : Region.wanted o (yielded ops a.tmps) = true) (h : wpList P ops Q rest (a.put o.dst (.tuple #[z, .bool false])) w) : wpList P ops Q (o :: rest) a w := by
  have hr := Maps.look_nil true K ht (run_zero hz w) hkey
  have hr2 : (execOp a.eval o).run P w = .ok (.value (.tuple #[z, .bool false])) w := by
    simp [execOp, ho, hm, hx, hr, Result.andThen]
  exact wpList_value hw hr2 h
end
end Go.Own
namespace Go.Own
open Go.RowKit

section
variable {P : Program} {ops : Array Oper} {rest : List Oper} {o : Oper} {a : Act} {W w : World} {Q : Exit → Act → World → Prop} {L : List Ent}
end
theorem flat_set {k : Nat} : ∀ {A : List (List Value)} {i : Nat} {l : List Value}, (∀ x ∈ A, x.length = k) → i < A.length → l.length = k → (A.set i l).flatten = A.flatten.take (i * k) ++ l ++ A.flatten.drop (i * k + k)
  | x :: A, 0, l, h, _, hl => by
    have hx := h x (by simp)
    simp only [List.set_cons_zero, List.flatten_cons, Nat.zero_mul, List.take_zero, List.nil_append, Nat.zero_add]
    rw [← hx, List.drop_left]
  | x :: A, i + 1, l, h, hi, hl => by
    have hx := h x (by simp)
    have ih := flat_set (k := k) (A := A) (i := i) (l := l) (fun y hy => h y (by simp [hy])) (by simpa using hi) hl
    simp only [List.set_cons_succ, List.flatten_cons]
    rw [ih, show (i + 1) * k = x.length + i * k by rw [Nat.add_mul, hx]; omega, List.take_length_add_append, Nat.add_assoc, List.drop_length_add_append]
    simp
section
variable {P : Program} {ops : Array Oper} {rest : List Oper} {o : Oper} {a : Act} {W w : World} {Q : Exit → Act → World → Prop} {L L' : List Ent}
/-- A store of a whole struct into a row of the call's own. -/
theorem wpList_storeRow {t e k n c i : Nat} {q : Addr} {v : Value} {A : List (List Value)} {l : List Value} {x y : Operand} (hO : Own W w L) (ho : o.op = .store t x y) (hx : a.eval x = .pointer (some (q.add (i * k)))) (hy : a.eval y = v) (hv : v.cells = l.toArray)
    (hat : At (row e k (.slice (some q) n c) A) (row e k (.slice (some q) n c) (A.set i l)) L L') (hA : ∀ l ∈ A, l.length = k) (hi : i < A.length) (hl : l.length = k) (ht : HasSize P t k) (h1 : (l.all fun u => u.oneCell') = true)
    (hw : Region.wanted o (yielded ops a.tmps) = true) (h : ∀ w', Own W w' L' → wpList P ops Q rest (a.put o.dst undef) w') : wpList P ops Q (o :: rest) a w := by
  obtain ⟨M, p1, p2⟩ := hat.front
  have hO1 := hO.perm p1
  have hF : w.ownsRow 0 e k (.slice (some q) n c) A.length A.flatten := hO1.has _ List.mem_cons_self
  obtain ⟨_, hF⟩ := hF
  rcases hF with ⟨hF, _⟩ | ⟨g, cap, cur, hv2, _, hg, hnc, hcm, hcs, htake⟩
  · cases hF
  · cases hv2
    have hsz : i * k + k ≤ A.length * k := by rw [← Nat.succ_mul]; exact Nat.mul_le_mul_right _ hi
    have hcl : A.length * k ≤ c * k := Nat.mul_le_mul_right _ hnc
    have hlen : cur.toList.length = c * k := by simpa using hcs
    have hO2 : Own W w (box g (.cells cur.toList.toArray e) :: M) := hO1.as (.head _) (box_ok _ _) (fun _ => by show w.heap[g]? = _; rw [Array.toArray_toList]; exact hg) (fun b hb => hb)
    obtain ⟨w', hr, hO3⟩ := run_store_own (P := P) (L' := box g (.cells (putL cur.toList (i * k) l).toArray e) :: M) (vs := l) hO2 x y ho (by rw [hx, addAt, Nat.zero_add]) hy hv (.head _) (by rw [ht.out, hl]) (by omega) (List.all_eq_true.1 h1)
    refine wpList_skipped hw hr (h w' (Own.perm ?_ p2.symm))
    refine hO3.as (.head _) (row_ok _ _ _ _) (fun hB => ?_) (fun b hb => hb)
    have hB' : w'.heap[g]? = some (.cells (putL cur.toList (i * k) l).toArray e) := hB
    have hfl : (A.set i l).flatten.length = A.length * k := by
      rw [flatL_len (k := k) (fun z hz => by rcases List.mem_or_eq_of_mem_set hz with hz | rfl; exact hA z hz; exact hl), List.length_set]
    show w'.ownsRow 0 e k _ (A.set i l).length (A.set i l).flatten
    rw [List.length_set]
    refine ⟨hfl, .inr ⟨g, c, _, rfl, Nat.zero_le _, hB', hnc, hcm, ?_, ?_⟩⟩
    · simp only [List.size_toArray, putL, List.length_append, List.length_take, List.length_drop]
      omega
    · simp only [putL]
      rw [flat_set hA hi hl, ← htake]
      have e1 : (cur.toList.take (A.length * k)).take (i * k) = cur.toList.take (i * k) := by rw [List.take_take, Nat.min_eq_left (by omega)]
      have e2 : (cur.toList.take (A.length * k)).drop (i * k + k) = (cur.toList.drop (i * k + k)).take (A.length * k - (i * k + k)) := by rw [List.drop_take]
      have e3 : (cur.toList.take (i * k) ++ l).length = i * k + k := by rw [List.length_append, List.length_take]; omega
      rw [e1, e2, List.take_append, e3, hl, List.take_of_length_le (by omega)]
end
section
variable {P : Program} {Q : Exit → Act → World → Prop} {π rest : List (Nat × Bool)} {i : Nat} {l : List Oper} {a : Act} {w : World} {o : Oper} {Ls Ls' : List Ent}
theorem wpSched_loadPart {b off n : Nat} {cs cl : List Value} {U t : TypeId} {x : Operand} (ho : l[i]? = some o) (hop : o.op = .load t x) (hx : a.eval x = .pointer (some ⟨b, off, none⟩)) (hat : At (box b (.cells cs.toArray U)) (box b (.cells cs.toArray U)) Ls Ls')
    (ht : IsAgg P t n) (hn : off + n ≤ cs.length) (hl : (cs.drop off).take n = cl) (hw : Region.wanted o (yielded l.toArray a.tmps) = true) (h : wpSched P l.toArray Q (Held Ls) π rest (a.put o.dst (.agg cl.toArray)) w) : wpSched P l.toArray Q (Held Ls) π ((i, true) :: rest) a w :=
  wpSched_value ho hop hw (fun w' hw' => run_load_at x hop hx (fun j v hv => by
    rw [addAt, cellAt (hw' _ hat.mem)]
    subst hl
    obtain ⟨hj, hv⟩ := List.getElem?_eq_some_iff.1 hv
    simp only [List.getElem_take, List.getElem_drop] at hv
    simp only [List.length_take, List.length_drop] at hj
    rw [← hv]
    exact List.getElem?_eq_getElem _) (by subst hl; rw [List.length_take, List.length_drop, Nat.min_eq_left (by omega)]; exact ht.1)) h
end
section
variable {P : Program} {w : World}
/-- A result that lies in a box of the call's own. -/
theorem results_one {fn : Func} {tmps : Array Value} {i t n b : Nat} {cs : List Value} {T : TypeId} {W : World} {L L' : List Ent} (hO : Own W w L) (hr : fn.results = #[.cell i t]) (hi : tmps.getD i undef = .pointer (some ⟨b, 0, none⟩))
    (hat : At (box b (.cells cs.toArray T)) (box b (.cells cs.toArray T)) L L') (ht : IsAgg P t n) (hn : cs.length = n) : (results fn tmps).run P w = .ok (.agg cs.toArray) w := by
  have h1 := run_loadVar_box (P := P) (hO.has _ hat.mem) ht hn
  simp only [Array.getD_eq_getD_getElem?] at hi
  have ha : asAddr (tmps[i]?.getD undef) = (pure ⟨b, 0, none⟩ : Sem Addr) := by rw [hi]; rfl
  unfold results
  rw [hr]
  simp [ha, h1]
end
end Go.Own
namespace Go.Own
open Go.RowKit

/-- What a callee made, beside what the caller has. -/
theorem Own.lift {W w w1 : World} {L M : List Ent} (h : Own W w L) (h1 : Own w w1 M) : Own W w1 (M ++ L) := by
  have h2 := h.call h1.grown
  refine ⟨h2.grown, fun e he => ?_, fun e he => ?_, fun e he => ?_, fun e he => ?_, List.pairwise_append.2 ⟨h1.apart, h.apart, fun e he f hf b hb hb' => ?_⟩⟩
  · rcases List.mem_append.1 he with he | he
    · exact h1.has e he
    · exact h2.has e he
  · rcases List.mem_append.1 he with he | he
    · exact h1.ok e he
    · exact h2.ok e he
  · rcases List.mem_append.1 he with he | he
    · exact h1.lt e he
    · exact h2.lt e he
  · rcases List.mem_append.1 he with he | he
    · exact fun b hb => Nat.le_trans h.grown.size (h1.new e he b hb)
    · exact h.new e he
  · have := h1.new e he b hb
    have := h.lt f hf b hb'
    omega
section
variable {P : Program} {ops : Array Oper} {rest : List Oper} {o : Oper} {a : Act} {W w : World} {Q : Exit → Act → World → Prop} {L : List Ent}
theorem wpList_appendAll {s x : Operand} {t e k bytes : Nat} {v u : Value} {A M : List (List Value)} {L' : Value → List Ent} (hO : Own W w L) (ho : o.op = .call { callee := .builtin .append, args := #[s, x], argTypes := #[t, t] })
    (ht : IsSlice P t e) (he : IsElem P e k bytes) (hs : a.eval s = v) (hx : a.eval x = u) (hU : IsL w k u M) (hM : ∀ l ∈ M, l.length = k) (h1 : ∀ u ∈ M.flatten, u.oneCell' = true)
    (hat : ∀ v', At (row e k v A) (row e k v' (A ++ M)) L (L' v')) (h63 : A.length + M.length ≤ 1000000) (hb : bytes ≤ 1000000)
    (hw : Region.wanted o (yielded ops a.tmps) = true) (h : ∀ v' w', Own W w' (L' v') → (∃ p n c, v' = .slice p n c) → wpList P ops Q rest (a.put o.dst v') w') : wpList P ops Q (o :: rest) a w := by
  have hk := he.pos
  have form : ∀ v' w', Own W w' (L' v') → ∃ p n c, v' = .slice p n c := fun v' w' h2 => by
    have hF : w'.ownsRow 0 e k v' (A ++ M).length (A ++ M).flatten := h2.has _ (hat v').memY
    rcases hF.2 with ⟨rfl, _⟩ | ⟨g, cap, cur, rfl, _⟩
    · exact ⟨_, _, _, rfl⟩
    · exact ⟨_, _, _, rfl⟩
  have hby : ∀ n, n ≤ 1000000 → n * bytes ≤ 140737488355328 := fun n hn => by
    have := Nat.mul_le_mul hn hb
    omega
  cases hU with
  | none sp sc hn =>
    cases sp with
    | none =>
      obtain rfl := hn rfl
      have ho' := he.out
      cases hi : P.info? e with
      | none => simp [hi] at ho'
      | some i =>
        have hown : w.ownsRow 0 e k v A.length A.flatten := hO.has _ (hat v).mem
        have hr := run_append_owned_none (P := P) (w := w) 0 t o.type e i k ht.out hi v A.length A.flatten hown
        have hrun : (execOp a.eval o).run P w = .ok (.value v) w := by
          unfold execOp
          simp only [ho, resolve, invoke, builtin, Sem.run_bind, Sem.run_pure, Result.andThen_ok, List.map_toArray, List.map_cons, List.map_nil, hs, hx, hr]
        have hO' : Own W w (L' v) := hO.as (hat v) (row_ok _ _ _ _) (fun hF => by simpa using hF) (fun b hb => hb)
        exact wpList_value hw hrun (h v w hO' (form v w hO'))
    | some p =>
      exact wpList_append (N := []) hO ho ht he hs hx hat rfl (by simp) (by simp) (by simp) (by unfold maxLen; omega) (hby _ (by omega)) hw (fun v' w' h2 _ => h v' w' h2 (form v' w' h2))
  | some p cap M hlen hcap h0 hR =>
    exact wpList_append (N := M) hO ho ht he hs hx hat rfl hM (fun j u hu => hR.flat hM hk j u hu) h1 (by unfold maxLen; omega) (hby _ h63) hw (fun v' w' h2 _ => h v' w' h2 (form v' w' h2))
/-- A struct taken out of an array's value. -/
theorem run_indexArr {t e n k : Nat} {i : Nat} {x y : Operand} {cs : List Value} {kd : IntKind} (ho : o.op = .index t x y) (hx : a.eval x = .agg cs.toArray) (hy : a.eval y = .int kd (i : Int)) (ht : P.underlying t = some (.array n e)) (hi : i < n) (he : IsAgg P e k) :
    (execOp a.eval o).run P w = .ok (.value (.agg ((cs.drop (i * k)).take k).toArray)) w := by
  obtain ⟨h1, h2⟩ := run_isAgg_yes he.out w
  have hlt : (0 : Int) ≤ (i : Int) ∧ (i : Int) < (n : Int) := ⟨by omega, by omega⟩
  have hr : (Instr.index t (.agg cs.toArray) (.int kd (i : Int))).run P w = .ok (.agg ((cs.drop (i * k)).take k).toArray) w := by
    simp [Instr.index, asIntOf, underlying, ht, hlt, h1, h2, part, Result.andThen]
    intro h
    omega
  simp [execOp, ho, hx, hy, hr, Result.andThen]
theorem wpList_indexArr {t e n k : Nat} {i : Nat} {x y : Operand} {cs l : List Value} {kd : IntKind} (ho : o.op = .index t x y) (hx : a.eval x = .agg cs.toArray) (hy : a.eval y = .int kd (i : Int)) (ht : P.underlying t = some (.array n e)) (hi : i < n) (he : IsAgg P e k)
    (hl : (cs.drop (i * k)).take k = l) (hw : Region.wanted o (yielded ops a.tmps) = true) (h : wpList P ops Q rest (a.put o.dst (.agg l.toArray)) w) : wpList P ops Q (o :: rest) a w :=
  wpList_value hw (run_indexArr ho hx hy ht hi he) (by rw [hl]; exact h)
end
theorem flat_set1 {k : Nat} : ∀ {A : List (List Value)} {i f : Nat} {u : Value} {l : List Value}, (∀ x ∈ A, x.length = k) → A[i]? = some l → f < k → (A.set i (l.set f u)).flatten = A.flatten.set (i * k + f) u
  | [], _, _, _, _, _, h, _ => by simp at h
  | x :: A, 0, f, u, l, h, hl, hf => by
    obtain rfl : x = l := by simpa using hl
    have hx := h x (by simp)
    rw [List.set_cons_zero, List.flatten_cons, List.flatten_cons, Nat.zero_mul, Nat.zero_add, List.set_append, if_pos (by omega)]
  | x :: A, i + 1, f, u, l, h, hl, hf => by
    have hx := h x (by simp)
    rw [List.set_cons_succ, List.flatten_cons, List.flatten_cons, flat_set1 (fun y hy => h y (by simp [hy])) (by simpa using hl) hf, List.set_append, if_neg (by rw [hx, Nat.add_mul]; omega)]
    congr 2
    rw [hx, Nat.add_mul]
    omega
section
variable {P : Program} {ops : Array Oper} {rest : List Oper} {o : Oper} {a : Act} {W w : World} {Q : Exit → Act → World → Prop} {L L' : List Ent}
/-- A store of one cell of a struct in a row of the call's own. -/
theorem wpList_storeRow1 {t e k n c i f : Nat} {q : Addr} {u : Value} {A : List (List Value)} {l : List Value} {x y : Operand} (hO : Own W w L) (ho : o.op = .store t x y) (hx : a.eval x = .pointer (some ((q.add (i * k)).add f))) (hy : a.eval y = u) (hu : u.oneCell' = true)
    (hl : A[i]? = some l) (hf : f < k) (hat : At (row e k (.slice (some q) n c) A) (row e k (.slice (some q) n c) (A.set i (l.set f u))) L L') (hA : ∀ l ∈ A, l.length = k) (ht : HasSize P t 1)
    (hw : Region.wanted o (yielded ops a.tmps) = true) (h : ∀ w', Own W w' L' → wpList P ops Q rest (a.put o.dst undef) w') : wpList P ops Q (o :: rest) a w := by
  obtain ⟨M, p1, p2⟩ := hat.front
  have hO1 := hO.perm p1
  obtain ⟨hi, _⟩ := List.getElem?_eq_some_iff.1 hl
  have hF : w.ownsRow 0 e k (.slice (some q) n c) A.length A.flatten := hO1.has _ List.mem_cons_self
  obtain ⟨_, hF⟩ := hF
  rcases hF with ⟨hF, _⟩ | ⟨g, cap, cur, hv2, _, hg, hnc, hcm, hcs, htake⟩
  · cases hF
  · cases hv2
    have hsz : i * k + k ≤ A.length * k := by rw [← Nat.succ_mul]; exact Nat.mul_le_mul_right _ hi
    have hcl : A.length * k ≤ c * k := Nat.mul_le_mul_right _ hnc
    have hlen : cur.toList.length = c * k := by simpa using hcs
    have hO2 : Own W w (box g (.cells cur.toList.toArray e) :: M) := hO1.as (.head _) (box_ok _ _) (fun _ => by show w.heap[g]? = _; rw [Array.toArray_toList]; exact hg) (fun b hb => hb)
    have hp' : putL cur.toList (i * k + f) [u] = cur.toList.set (i * k + f) u := by
      unfold putL
      rw [List.set_eq_take_append_cons_drop, if_pos (by omega)]; simp
    obtain ⟨w', hr, hO3⟩ := run_store_own (P := P) (L' := box g (.cells (putL cur.toList (i * k + f) [u]).toArray e) :: M) (vs := [u]) hO2 x y ho (by rw [hx, addAt, addAt, Nat.zero_add]) hy (by cases u <;> first | rfl | cases hu) (.head _) (by rw [ht.out]; rfl) (by simp only [List.length_cons, List.length_nil]; omega) (by simpa using hu)
    refine wpList_skipped hw hr (h w' (Own.perm ?_ p2.symm))
    refine hO3.as (.head _) (row_ok _ _ _ _) (fun hB => ?_) (fun b hb => hb)
    rw [hp'] at hB
    have hB' : w'.heap[g]? = some (.cells (cur.toList.set (i * k + f) u).toArray e) := hB
    have hll : l.length = k := hA l (List.mem_of_getElem? hl)
    have hfl : (A.set i (l.set f u)).flatten.length = A.length * k := by
      rw [flatL_len (k := k) (fun z hz => by rcases List.mem_or_eq_of_mem_set hz with hz | rfl; exact hA z hz; rw [List.length_set]; exact hll), List.length_set]
    show w'.ownsRow 0 e k _ (A.set i (l.set f u)).length (A.set i (l.set f u)).flatten
    rw [List.length_set]
    refine ⟨hfl, .inr ⟨g, c, _, rfl, Nat.zero_le _, hB', hnc, hcm, ?_, ?_⟩⟩
    · simp only [List.size_toArray, List.length_set]
      omega
    · rw [flat_set1 hA hl hf, ← htake]
      simp only [List.take_set]
end
section
variable {P : Program} {w : World}
end
end Go.Own
namespace Go.Own
open Go.RowKit

/-- A walk that forks: a stretch, then i or j, and what comes behind each. -/
inductive Sch where
  | fin (pre : List (Nat × Bool))
  | fork (pre : List (Nat × Bool)) (i j : Nat) (s t : Sch)
def Sch.len : Sch → Nat
  | .fin pre => pre.length
  | .fork pre _ _ s _ => pre.length + (s.len + 1)
section
variable {P : Program} {ops : Array Oper} {Q : Exit → Act → World → Prop} {T : World → Prop}
def forkQ (Q : Exit → Act → World → Prop) (K : Act → World → Prop) : Exit → Act → World → Prop
  | .normal, a, w => K a w
  | e, a, w => Q e a w
def wpS (P : Program) (ops : Array Oper) (Q : Exit → Act → World → Prop) (T : World → Prop) (π : List (Nat × Bool)) : Sch → Act → World → Prop
  | .fin pre => wpSched P ops Q T π pre
  | .fork pre i j s t => wpSched P ops (forkQ Q fun a w => wpList P ops (thenQ Q (keepS ops π T i) (wpS P ops Q T π s)) [ops.getD i default] a w ∧ wpList P ops (thenQ Q (keepS ops π T j) (wpS P ops Q T π t)) [ops.getD j default] a w) T π pre
def anyR (ops : Array Oper) (ρ : List (Nat × Bool)) : Bool := ρ.any fun p => p.2 && readsB ops p.1
def Sch.reads (ops : Array Oper) : Sch → Bool
  | .fin pre => anyR ops pre
  | .fork pre _ _ s t => anyR ops pre || (s.reads ops || t.reads ops)
def schedG (ops : Array Oper) (π : List (Nat × Bool)) (fin : Array Bool → Bool) (late : Bool) : List (Nat × Bool) → Array Bool → Bool
  | [], l => fin l
  | (i, true) :: rest, l => decide (i < ops.size) && Region.free .any ops l i && (Region.ready .any ops l).contains i && π.contains (i, true) && (!readsB ops i || ((List.range ops.size).all fun j => j == i || l.getD j true || waitsT .any ops i ops.size j || keepB ops π j || π.contains (j, true))) && schedG ops π fin late rest (l.setIfInBounds i true)
  | (i, false) :: rest, l => decide (i < ops.size) && (Region.ready .any ops l == [i]) && !(π.contains (i, true)) && (keepB ops π i || !(anyR ops rest || late)) && schedG ops π fin late rest (l.setIfInBounds i true)
def okS (ops : Array Oper) (π : List (Nat × Bool)) : Sch → Array Bool → Bool
  | .fin pre, l => schedG ops π (fun l => (Region.ready .any ops l).isEmpty) false pre l
  | .fork pre i j s t, l => schedG ops π (fun l => (Region.ready .any ops l == [i, j]) && decide (i < ops.size) && decide (j < ops.size) && !(π.contains (i, true)) && !(π.contains (j, true)) && (keepB ops π i || !s.reads ops) && (keepB ops π j || !t.reads ops) && decide (s.len = t.len) &&
      okS ops π s (l.setIfInBounds i true) && okS ops π t (l.setIfInBounds j true)) (s.reads ops || t.reads ops) pre l
theorem wpList_forkQ {K : Act → World → Prop} {S : World → Prop} {R : Act → World → Prop} {o : Oper} {a : Act} {w : World} : wpList P ops (thenQ (forkQ Q K) S R) [o] a w = wpList P ops (thenQ Q S R) [o] a w := by
  have e : thenQ (forkQ Q K) S R = thenQ Q S R := by
    funext x a w
    cases x <;> rfl
  rw [e]
theorem each_of_seg (hs : Region.noSelect ops = true) (hQ : ∀ c (d : Option Tmp) v a w, Q (.panic c) (Act.put a d v) w → Q (.panic c) a w) (π : List (Nat × Bool)) (fin : Array Bool → Bool) (late : Bool) (K : Act → World → Prop) (n : Nat)
    (hK : ∀ l a w, fin l = true → ClosedL .any ops l → (late = true → T w) → K a w → wpEach P .any ops Q (keepW ops π T) n l a w) : ∀ (ρ : List (Nat × Bool)) (l : Array Bool) (a : Act) (w : World), schedG ops π fin late ρ l = true → ClosedL .any ops l → ((anyR ops ρ || late) = true → T w) →
    wpSched P ops (forkQ Q K) T π ρ a w → wpEach P .any ops Q (keepW ops π T) (ρ.length + n) l a w
  | [], l, a, w, hB, hc, hT, h => by
    rw [show ([] : List (Nat × Bool)).length + n = n by simp]
    exact hK l a w hB hc (fun hl => hT (by rw [hl, Bool.or_true])) h
  | (i, true) :: rest, l, a, w, hB, hc, hT, h => by
    simp only [schedG, Bool.and_eq_true, decide_eq_true_eq] at hB
    obtain ⟨⟨⟨⟨⟨h1, h2⟩, h3⟩, h5⟩, h6⟩, h4⟩ := hB
    obtain ⟨v, hy, hr⟩ := h
    have hTw : askS ops T i w := fun hb => hT (by simp [anyR, hb])
    have e : ops[i]? = some (ops.getD i default) := by simp [h1]
    have hrd : i ∈ Region.ready .any ops l := by simpa using h3
    rw [show ((i, true) :: rest).length + n = (rest.length + n) + 1 by simp only [List.length_cons]; omega]
    refine wpEach_take (m := ops.size) (T := askS ops T i) e hs (fun c a w => hQ c _ _ a w) (fun w => ⟨fun _ => rfl, fun hf => (by rw [h5] at hf; cases hf)⟩) _ _ _ _ (Region.free_spec e h2) (fun j hj hji hun hwt w w' hS hT hb => ?_) hc hrd hy hTw
      (each_of_seg hs hQ π fin late K n hK rest _ _ w h4 (hc.set hrd) (fun hb => hT (by rw [anyR, List.any_cons, Bool.or_assoc]; exact Bool.or_eq_true_iff.2 (.inr hb))) hr)
    rw [hb, Bool.not_true, Bool.false_or, List.all_eq_true] at h6
    have h7 := h6 j (List.mem_range.2 hj)
    simp only [Bool.or_eq_true, beq_iff_eq] at h7
    cases hq : π.contains (j, true)
    · rcases h7 with (((h | h) | h) | h) | h
      · exact absurd h hji
      · rw [hun] at h; cases h
      · rw [hwt] at h; cases h
      · exact hS.2 hq h
      · rw [hq] at h; cases h
    · rw [hS.1 hq]; exact hT hb
  | (i, false) :: rest, l, a, w, hB, hc, hT, h => by
    simp only [schedG, Bool.and_eq_true, decide_eq_true_eq, beq_iff_eq, Bool.or_eq_true, Bool.not_eq_true'] at hB
    obtain ⟨⟨⟨⟨h1, h2⟩, h0⟩, h5⟩, h3⟩ := hB
    rw [show ((i, false) :: rest).length + n = (rest.length + n) + 1 by simp only [List.length_cons]; omega]
    refine ⟨fun h0 => (by rw [h2] at h0; cases h0), fun j hj => ?_⟩
    have hj' := hj
    rw [h2] at hj'
    obtain rfl := List.mem_singleton.1 hj'
    have h' : wpList P ops (thenQ Q (keepS ops π T j) (wpSched P ops (forkQ Q K) T π rest)) [ops.getD j default] a w := by
      rw [← wpList_forkQ (K := K)]; exact h
    refine wpOp_mono (fun a' w' h6 => ⟨⟨fun ht => (by rw [h0] at ht; cases ht), fun _ => h6.1⟩, each_of_seg hs hQ π fin late K n hK rest _ a' w' h3 (hc.set hj) (fun hq => ?_) h6.2⟩) (wpOp_of_list (K := wpSched P ops (forkQ Q K) T π rest) h1 h')
    rcases h5 with h5 | h5
    · exact h6.1 h5
    · rw [h5] at hq; cases hq
theorem sched_forkQ {π : List (Nat × Bool)} : ∀ (ρ : List (Nat × Bool)) (a : Act) (w : World), wpSched P ops Q T π ρ a w → wpSched P ops (forkQ Q fun a w => Q .normal a w) T π ρ a w
  | [], _, _, h => h
  | (_, true) :: rest, _, _, ⟨v, hy, h⟩ => ⟨v, hy, sched_forkQ rest _ _ h⟩
  | (i, false) :: rest, a, w, h => by
    have e : forkQ Q (fun a w => Q .normal a w) = Q := by
      funext x a w
      cases x <;> rfl
    rw [e]
    exact h
theorem each_of_S (hs : Region.noSelect ops = true) (hQ : ∀ c (d : Option Tmp) v a w, Q (.panic c) (Act.put a d v) w → Q (.panic c) a w) (π : List (Nat × Bool)) : ∀ (s : Sch) (l : Array Bool) (a : Act) (w : World), okS ops π s l = true → ClosedL .any ops l → (s.reads ops = true → T w) → wpS P ops Q T π s a w →
    wpEach P .any ops Q (keepW ops π T) s.len l a w
  | .fin pre, l, a, w, hB, hc, hT, h =>
    each_of_seg hs hQ π _ false (fun a w => Q .normal a w) 0 (fun l a w hf _ _ hk => ⟨by simpa using hf, hk⟩) pre l a w hB hc (fun hb => hT (by simpa [Sch.reads] using hb)) (sched_forkQ pre a w h)
  | .fork pre i j s t, l, a, w, hB, hc, hT, h =>
    each_of_seg hs hQ π _ (s.reads ops || t.reads ops) _ (s.len + 1) (fun l a w hf hc hT hk => by
      simp only [Bool.and_eq_true, decide_eq_true_eq, beq_iff_eq, Bool.or_eq_true, Bool.not_eq_true'] at hf
      obtain ⟨⟨⟨⟨⟨⟨⟨⟨⟨h1, hi⟩, hj⟩, hni⟩, hnj⟩, hki⟩, hkj⟩, hlen⟩, hs1⟩, hs2⟩ := hf
      obtain ⟨g1, g2⟩ := hk
      refine ⟨fun h0 => (by rw [h1] at h0; cases h0), fun k hk => ?_⟩
      have hk' := hk
      rw [h1] at hk'
      rcases List.mem_cons.1 hk' with e | e
      · subst e
        refine wpOp_mono (fun a' w' h6 => ⟨⟨fun ht => (by rw [hni] at ht; cases ht), fun _ => h6.1⟩, each_of_S hs hQ π s _ a' w' hs1 (hc.set hk) (fun hq => ?_) h6.2⟩) (wpOp_of_list (K := wpS P ops Q T π s) hi g1)
        rcases hki with h5 | h5
        · exact h6.1 h5
        · rw [h5] at hq; cases hq
      · obtain rfl := List.mem_singleton.1 e
        rw [hlen]
        refine wpOp_mono (fun a' w' h6 => ⟨⟨fun ht => (by rw [hnj] at ht; cases ht), fun _ => h6.1⟩, each_of_S hs hQ π t _ a' w' hs2 (hc.set hk) (fun hq => ?_) h6.2⟩) (wpOp_of_list (K := wpS P ops Q T π t) hj g2)
        rcases hkj with h5 | h5
        · exact h6.1 h5
        · rw [h5] at hq; cases hq) pre l a w hB hc (fun hb => hT (by simpa [Sch.reads] using hb)) h
end
section
variable {P : Program} {Q : Exit → Act → World → Prop} {T : World → Prop} {π : List (Nat × Bool)} {l : List Oper} {a : Act} {w : World} {s t : Sch} {i j : Nat} {o : Oper}
/-- The beginning. -/
theorem region_tree {W : World} {L : List Ent} {id : Nat} (Ls : List Ent) (π : List (Nat × Bool)) (s : Sch) (hO : Own W w L) (hLs : Ls.Sublist L) (hm : P.follows .mixedOrders = true)
    (hB : (Region.noSelect l.toArray && decide (s.len = l.length) && okS l.toArray π s (Array.replicate l.toArray.size false)) = true)
    (h : ∀ w', Own W w' L → wpS P l.toArray (NoPanic Q) (Held Ls) π s a w') : (Code.region id l.toArray true).wp P Q a w := by
  simp only [Bool.and_eq_true, decide_eq_true_eq] at hB
  obtain ⟨⟨h1, h2⟩, h3⟩ := hB
  refine wp_region_noPanic (wp_region_any hm (wpAny_of_each (S := keepW l.toArray π (Held Ls)) _ _ _ _ ?_))
  have hO' := hO.drew
  have := each_of_S (P := P) (Q := NoPanic Q) (T := Held Ls) h1 (fun _ _ _ _ _ hh => (hh : False).elim) π s _ a _ h3 (fun j' o hj => by simp [Array.getElem?_replicate] at hj; split at hj <;> simp at hj) (fun _ e he => hO'.has e (hLs.mem he)) (h _ hO')
  rw [h2] at this
  simpa using this
theorem wpS_fin {pre : List (Nat × Bool)} (h : wpSched P l.toArray Q T π pre a w) : wpS P l.toArray Q T π (.fin pre) a w := h
theorem wpS_fork {pre : List (Nat × Bool)} (h : wpSched P l.toArray (forkQ Q fun a w => wpList P l.toArray (thenQ Q (keepS l.toArray π T i) (wpS P l.toArray Q T π s)) [l.toArray.getD i default] a w ∧ wpList P l.toArray (thenQ Q (keepS l.toArray π T j) (wpS P l.toArray Q T π t)) [l.toArray.getD j default] a w) T π pre a w) :
    wpS P l.toArray Q T π (.fork pre i j s t) a w := h
theorem fork_end {o o' : Oper} (ho : l[i]? = some o) (ho' : l[j]? = some o') (h1 : wpList P l.toArray (thenQ Q (keepS l.toArray π T i) (wpS P l.toArray Q T π s)) [o] a w) (h2 : wpList P l.toArray (thenQ Q (keepS l.toArray π T j) (wpS P l.toArray Q T π t)) [o'] a w) :
    wpSched P l.toArray (forkQ Q fun a w => wpList P l.toArray (thenQ Q (keepS l.toArray π T i) (wpS P l.toArray Q T π s)) [l.toArray.getD i default] a w ∧ wpList P l.toArray (thenQ Q (keepS l.toArray π T j) (wpS P l.toArray Q T π t)) [l.toArray.getD j default] a w) T π [] a w := by
  show _ ∧ _
  rw [getD_of ho, getD_of ho']
  exact ⟨h1, h2⟩
/-- What was there when the call began stays. -/
def oldE (W : World) : Ent := ⟨[], fun w => Below W.heap.size W w⟩
theorem Own.heldO {W w : World} {L Ls : List Ent} (h : Own W w L) (hs : Ls.Sublist L) : Held (oldE W :: Ls) w := fun e he => by
  rcases List.mem_cons.1 he with he | he
  · rw [he]; exact h.grown
  · exact h.has e (hs.mem he)
/-- The beginning, where old memory is read too. -/
theorem region_treeO {W : World} {L : List Ent} {id : Nat} (Ls : List Ent) (π : List (Nat × Bool)) (s : Sch) (hO : Own W w L) (hLs : Ls.Sublist L) (hm : P.follows .mixedOrders = true)
    (hB : (Region.noSelect l.toArray && decide (s.len = l.length) && okS l.toArray π s (Array.replicate l.toArray.size false)) = true)
    (h : ∀ w', Own W w' L → wpS P l.toArray (NoPanic Q) (Held (oldE W :: Ls)) π s a w') : (Code.region id l.toArray true).wp P Q a w := by
  simp only [Bool.and_eq_true, decide_eq_true_eq] at hB
  obtain ⟨⟨h1, h2⟩, h3⟩ := hB
  refine wp_region_noPanic (wp_region_any hm (wpAny_of_each (S := keepW l.toArray π (Held (oldE W :: Ls))) _ _ _ _ ?_))
  have hO' := hO.drew
  have := each_of_S (P := P) (Q := NoPanic Q) (T := Held (oldE W :: Ls)) h1 (fun _ _ _ _ _ hh => (hh : False).elim) π s _ a _ h3 (fun j' o hj => by simp [Array.getElem?_replicate] at hj; split at hj <;> simp at hj) (fun _ => hO'.heldO hLs) (h _ hO')
  rw [h2] at this
  simpa using this
end
end Go.Own
namespace Go.Own
open Go.RowKit Go.Maps

/-- An element, wherever memory has only grown. -/
theorem oldAt {α : Type} {W : World} {v : Value} {k : Nat} {f : α → List Value} {xs : List α} {p : Option Addr} {n c : Nat} (h : IsL W k v (xs.map f)) (e : v = .slice p n c) {j : Nat} (hj : j < xs.length) : ∃ a, p = some a ∧ ∀ w', Below W.heap.size W w' → ∀ i u, (f xs[j])[i]? = some u → w'.cell? ((a.add (j * k)).add i) = some u := by
  obtain ⟨a, cap, h1, _, _, hR⟩ := h.at (by rw [List.length_map]; omega)
  rw [e] at h1
  cases h1
  refine ⟨a, rfl, fun w' hb i u hu => ?_⟩
  have := hR.c j (by simpa using hj) i u (by simpa using hu)
  rw [← this]
  exact hb.cell (by rw [lBlock, lBlock]; exact hR.lt)
/-- A cell taken out of an array's value. -/
theorem run_indexOne {P : Program} {a : Act} {o : Oper} {w : World} {t e n : Nat} {i : Nat} {x y : Operand} {cs : List Value} {kd : IntKind} {v : Value} (ho : o.op = .index t x y) (hx : a.eval x = .agg cs.toArray) (hy : a.eval y = .int kd (i : Int)) (ht : P.underlying t = some (.array n e)) (hi : i < n) (he : IsOne P e) (hv : cs[i]? = some v) :
    (execOp a.eval o).run P w = .ok (.value v) w := by
  obtain ⟨h1, h2⟩ := run_isAgg_no he.out w
  have hlt : (0 : Int) ≤ (i : Int) ∧ (i : Int) < (n : Int) := ⟨by omega, by omega⟩
  have hr : (Instr.index t (.agg cs.toArray) (.int kd (i : Int))).run P w = .ok v w := by
    simp [Instr.index, asIntOf, underlying, ht, hlt, h1, h2, part, Result.andThen, hv]
    intro h
    omega
  simp [execOp, ho, hx, hy, hr, Result.andThen]
theorem wpList_indexOne {P : Program} {ops : Array Oper} {rest : List Oper} {a : Act} {o : Oper} {w : World} {Q : Exit → Act → World → Prop} {t e n : Nat} {i : Nat} {x y : Operand} {cs : List Value} {kd : IntKind} {v : Value} (ho : o.op = .index t x y) (hx : a.eval x = .agg cs.toArray) (hy : a.eval y = .int kd (i : Int)) (ht : P.underlying t = some (.array n e)) (hi : i < n) (he : IsOne P e) (hv : cs[i]? = some v)
    (hw : Region.wanted o (yielded ops a.tmps) = true) (h : wpList P ops Q rest (a.put o.dst v) w) : wpList P ops Q (o :: rest) a w :=
  wpList_value hw (run_indexOne ho hx hy ht hi he hv) h
theorem Own.boxAt {W w : World} {L : List Ent} {b : Nat} {o : Obj} (h : Own W w L) (hm : box b o ∈ L) : w.heap[b]? = some o := h.has _ hm
/-- Pieces, apart from each other, as one. -/
def joinE (es : List Ent) : Ent := ⟨es.flatMap Ent.bs, fun w => (∀ e ∈ es, e.F w) ∧ (∀ e ∈ es, e.Ok) ∧ (∀ e ∈ es, ∀ b ∈ e.bs, b < w.heap.size) ∧ es.Pairwise (fun e f => ∀ b ∈ e.bs, b ∉ f.bs)⟩
theorem joinE_ok (es : List Ent) : (joinE es).Ok := fun w w' h hF => by
  obtain ⟨h1, h2, h3, h4⟩ := hF
  have hb : ∀ e ∈ es, ∀ b ∈ e.bs, w'.heap[b]? = w.heap[b]? := fun e he b hb => h b (List.mem_flatMap.2 ⟨e, he, hb⟩)
  refine ⟨fun e he => h2 e he w w' (hb e he) (h1 e he), h2, fun e he b hb' => ?_, h4⟩
  have h5 := hb e he b hb'
  have h6 := h3 e he b hb'
  rw [Array.getElem?_eq_getElem h6] at h5
  exact lt_of_block h5
theorem Own.join {W w : World} {es L : List Ent} (h : Own W w (es ++ L)) : Own W w (joinE es :: L) := by
  obtain ⟨a1, a2, a3⟩ := List.pairwise_append.1 h.apart
  refine ⟨h.grown, fun e he => ?_, fun e he => ?_, fun e he => ?_, fun e he => ?_, List.pairwise_cons.2 ⟨fun f hf b hb hb' => ?_, a2⟩⟩
  · rcases List.mem_cons.1 he with rfl | he
    · exact ⟨fun e he => h.has e (List.mem_append_left _ he), fun e he => h.ok e (List.mem_append_left _ he), fun e he => h.lt e (List.mem_append_left _ he), a1⟩
    · exact h.has e (List.mem_append_right _ he)
  · rcases List.mem_cons.1 he with rfl | he
    · exact joinE_ok es
    · exact h.ok e (List.mem_append_right _ he)
  · rcases List.mem_cons.1 he with rfl | he
    · intro b hb
      obtain ⟨f, hf, hb⟩ := List.mem_flatMap.1 hb
      exact h.lt f (List.mem_append_left _ hf) b hb
    · exact h.lt e (List.mem_append_right _ he)
  · rcases List.mem_cons.1 he with rfl | he
    · intro b hb
      obtain ⟨f, hf, hb⟩ := List.mem_flatMap.1 hb
      exact h.new f (List.mem_append_left _ hf) b hb
    · exact h.new e (List.mem_append_right _ he)
  · obtain ⟨e, he, hb⟩ := List.mem_flatMap.1 hb
    exact a3 e he f hf b hb hb'
theorem Own.unjoin {W w : World} {es L : List Ent} (h : Own W w (joinE es :: L)) : Own W w (es ++ L) := by
  obtain ⟨h1, h2, h3, h4⟩ := h.has _ List.mem_cons_self
  obtain ⟨a1, a2⟩ := List.pairwise_cons.1 h.apart
  have hn := h.new _ List.mem_cons_self
  refine ⟨h.grown, fun e he => ?_, fun e he => ?_, fun e he => ?_, fun e he => ?_, List.pairwise_append.2 ⟨h4, a2, fun e he f hf b hb hb' => a1 f hf b (List.mem_flatMap.2 ⟨e, he, hb⟩) hb'⟩⟩ <;> rcases List.mem_append.1 he with he | he
  · exact h1 e he
  · exact h.has e (List.mem_cons_of_mem _ he)
  · exact h2 e he
  · exact h.ok e (List.mem_cons_of_mem _ he)
  · exact h3 e he
  · exact h.lt e (List.mem_cons_of_mem _ he)
  · exact fun b hb => hn b (List.mem_flatMap.2 ⟨e, he, hb⟩)
  · exact h.new e (List.mem_cons_of_mem _ he)
/-- A piece anywhere, brought to the front, whatever stands in its place later. -/
theorem At.fronts {α : Type} {x : Ent} {y : α → Ent} {L : List Ent} {L' : α → List Ent} (hat : ∀ v, At x (y v) L (L' v)) (v0 : α) : ∃ M, L.Perm (x :: M) ∧ ∀ v, (L' v).Perm (y v :: M) := by
  obtain ⟨M, p1, p2⟩ := (hat v0).front
  refine ⟨M, p1, fun v => ?_⟩
  obtain ⟨M', q1, q2⟩ := (hat v).front
  exact q2.trans ((List.Perm.cons_inv (q1.symm.trans p1)).cons _)
theorem mapE_mono {P : Program} {kt : TypeId} {b n n' : Nat} {f : Lit → Option Value} {W w : World} {L L' : List Ent} (h : Own W w L) (hat : At (mapE P kt b n f) (mapE P kt b n' f) L L') (hn : n ≤ n') : Own W w L' :=
  h.as hat (mapE_ok _ _ _ _ _) (fun ⟨D, hD, hB⟩ => ⟨D, hD.mono hn, hB⟩) (fun _ hb => hb)
section
variable {P : Program} {ops : Array Oper} {rest : List Oper} {o : Oper} {a : Act} {W w : World} {L L' : List Ent} {kt et mt : TypeId}
theorem run_mapLook0 {m x : Operand} {b n : Nat} {f : Lit → Option Value} {key z : Value} {l : Lit} (ho : o.op = .lookup mt m x false) (hm : a.eval m = .map (some b)) (hx : a.eval x = key)
    (hF : (mapE P kt b n f).F w) (K : Keyed P kt) (ht : P.underlying mt = some (.map kt et)) (hz : HasZero P et z) (hkey : keyOf P kt key = some l) :
    (execOp a.eval o).run P w = .ok (.value ((f l).getD z)) w := by
  obtain ⟨D, ⟨es, clock, hb, F, _, rfl⟩, hB⟩ := hF
  have hz' : (zeroValue et).run P w = .ok z w := run_zero hz w
  have hl := K.key hkey
  have hr : (Instr.lookup mt (.map (some b)) key false).run P w = .ok ((f l).getD z) w := by
    rcases Maps.fit_look false K ht hz' hb F hkey with ⟨hrun, _, hat⟩ | ⟨e0, y, _, _, hrun, hRv, hat, _⟩
    · have h1 := hB.2 l hl .nil
      rw [hat] at h1
      cases hf : f l with
      | none => simpa using hrun
      | some v => rw [hf] at h1; cases h1
    · have h1 := hB.2 l hl .nil
      have h2 : y = (.held e0.val, []) := by simp [tokR] at hRv; exact hRv.symm
      rw [hat, h2] at h1
      cases hf : f l with
      | none => rw [hf] at h1; cases h1
      | some v =>
        rw [hf] at h1
        simp only [DataW.held.injEq] at h1
        rw [h1] at hrun
        simpa using hrun
  simp [execOp, ho, hm, hx, hr, Result.andThen]
theorem wpList_mapLook0Old {Q : Exit → Act → World → Prop} {m x : Operand} {b n : Nat} {f : Lit → Option Value} {key z : Value} {l : Lit} (hO : Own W w L) (ho : o.op = .lookup mt m x false) (hm : a.eval m = .map (some b)) (hx : a.eval x = key)
    (hF : (mapE P kt b n f).F W) (K : Keyed P kt) (ht : P.underlying mt = some (.map kt et)) (hz : HasZero P et z) (hkey : keyOf P kt key = some l) {res : Value} (hres : (f l).getD z = res)
    (hw : Region.wanted o (yielded ops a.tmps) = true) (h : wpList P ops Q rest (a.put o.dst res) w) : wpList P ops Q (o :: rest) a w := by
  have hlt : b < W.heap.size := by
    obtain ⟨D, hD, _⟩ := hF
    exact hD.lt
  have hFw : (mapE P kt b n f).F w := mapE_ok P kt b n f W w (fun b' hb' => by
    obtain rfl := List.mem_singleton.1 hb'
    exact hO.grown.block _ hlt) hF
  exact wpList_value hw (hres ▸ run_mapLook0 ho hm hx hFw K ht hz hkey) h
theorem wpQuiet_mapLook0Old {Q : Act → Prop} {F : World → World} {m x : Operand} {b n : Nat} {f : Lit → Option Value} {key z : Value} {l : Lit} (hF : Fam W L F) (ho : o.op = .lookup mt m x false) (hm : a.eval m = .map (some b)) (hx : a.eval x = key)
    (hM : (mapE P kt b n f).F W) (K : Keyed P kt) (ht : P.underlying mt = some (.map kt et)) (hz : HasZero P et z) (hkey : keyOf P kt key = some l) {res : Value} (hres : (f l).getD z = res)
    (hw : Region.wanted o (yielded ops a.tmps) = true) (h : wpQuiet P ops (fun w' => ∃ x, w' = F x) Q rest (a.put o.dst res)) : wpQuiet P ops (fun w' => ∃ x, w' = F x) Q (o :: rest) a := by
  have hlt : b < W.heap.size := by
    obtain ⟨D, hD, _⟩ := hM
    exact hD.lt
  refine wpQuiet_value (v := res) hw (fun w' ⟨y, hy⟩ => hres ▸ run_mapLook0 ho hm hx (mapE_ok P kt b n f W w' (fun b' hb' => ?_) hM) K ht hz hkey) h
  obtain rfl := List.mem_singleton.1 hb'
  exact (hy ▸ hF.own y : Own W w' L).grown.block _ hlt
theorem wpSched_mapLook1 {Q : Exit → Act → World → Prop} {π rest : List (Nat × Bool)} {i : Nat} {l : List Oper} {Ls Ls' : List Ent} {m x : Operand} {b n : Nat} {f : Lit → Option Value} {key z : Value} {k : Lit} (hol : l[i]? = some o) (ho : o.op = .lookup mt m x true) (hm : a.eval m = .map (some b)) (hx : a.eval x = key)
    (hat : At (mapE P kt b n f) (mapE P kt b n f) Ls Ls') (K : Keyed P kt) (ht : P.underlying mt = some (.map kt et)) (hz : HasZero P et z) (hkey : keyOf P kt key = some k) {res : Value} (hres : (match f k with | some v => .tuple #[v, .bool true] | none => .tuple #[z, .bool false]) = res)
    (hw : Region.wanted o (yielded l.toArray a.tmps) = true) (h : wpSched P l.toArray Q (Held Ls) π rest (a.put o.dst res) w) : wpSched P l.toArray Q (Held Ls) π ((i, true) :: rest) a w :=
  wpSched_look hol ho hw (fun _w' hw' => hres ▸ run_mapLook ho hm hx (hw' _ hat.mem) K ht hz hkey) h
end
/-- One map's entries laid over another's. -/
def mergeF (f g : Lit → Option Value) : Lit → Option Value := fun l => match g l with
  | some v => some v
  | none => f l
end Go.Own
namespace Go.Own
open Go.RowKit Go.Maps

/-- A map that is gone through, and its iterator; left: the keys that are still to come. -/
def rangeE (P : Program) (kt : TypeId) (b r n : Nat) (f : Lit → Option Value) (left : Lit → Bool) (cnt : Nat) : Ent := ⟨[b, r], fun w => ∃ D, w.ranges P kt tokR b r n D left cnt ∧ Bears D f⟩
theorem rangeE_ok (P : Program) (kt : TypeId) (b r n : Nat) (f : Lit → Option Value) (left : Lit → Bool) (cnt : Nat) : (rangeE P kt b r n f left cnt).Ok := fun w w' h hF => by
  obtain ⟨D, ⟨es, clock, since, seen, c0, hb, F, hs, hD, hr, rest⟩, hB⟩ := hF
  exact ⟨D, ⟨es, clock, since, seen, c0, (h b (by simp [rangeE])).trans hb, F, hs, hD, (h r (by simp [rangeE])).trans hr, rest⟩, hB⟩
theorem Bears.congr {D : DataW Value} {f g : Lit → Option Value} (h : Bears D f) (e : ∀ l, WideAt.IsKeyLit l → f l = g l) : Bears D g :=
  ⟨h.1, fun l hl z => by rw [← e l hl]; exact h.2 l hl z⟩
theorem Bears.at {D : DataW Value} {f : Lit → Option Value} (h : Bears D f) {l : Lit} (hl : WideAt.IsKeyLit l) {c : Value} (hc : ∀ z, D.atKey l z = .held c) : f l = some c := by
  have e1 := h.2 l hl .nil
  have e2 := h.2 l hl (.held undef)
  rw [hc] at e1 e2
  cases hf : f l with
  | none => rw [hf] at e1; cases e1
  | some v =>
    rw [hf] at e1
    simp only [DataW.held.injEq] at e1
    rw [e1]
theorem Bears.has {D : DataW Value} {f : Lit → Option Value} (h : Bears D f) {l : Lit} (hl : WideAt.IsKeyLit l) {v : Value} (hv : f l = some v) : Maps.has D l = true :=
  has_true_of_atKey (y := .held v) (fun z => by rw [h.2 l hl z, hv])
section
variable {P : Program} {ops : Array Oper} {rest : List Oper} {o : Oper} {a : Act} {W w : World} {Q : Exit → Act → World → Prop} {L : List Ent} {kt et mt : TypeId}
theorem wpList_rangeOwn {m : Operand} {b n : Nat} {f : Lit → Option Value} {L' : Nat → (Lit → Bool) → Nat → List Ent} (hO : Own W w L) (ho : o.op = .range mt m) (hm : a.eval m = .map (some b)) (K : Keyed P kt) (ht : P.underlying mt = some (.map kt et))
    (hat : ∀ r left cnt, At (mapE P kt b n f) (rangeE P kt b r n f left cnt) L (L' r left cnt))
    (hw : Region.wanted o (yielded ops a.tmps) = true) (h : ∀ r left cnt w', cnt ≤ n → (∀ l, WideAt.IsKeyLit l → ∀ v, f l = some v → left l = true) → Own W w' (L' r left cnt) → wpList P ops Q rest (a.put o.dst (.pointer (some ⟨r, 0, none⟩))) w') : wpList P ops Q (o :: rest) a w := by
  obtain ⟨D, hD, hB⟩ := hO.has _ (hat 0 (fun _ => true) 0).mem
  obtain ⟨w', hrun, r1, r2, r3⟩ := hD.range K ht
  have hr : (execOp a.eval o).run P w = .ok (.value (.pointer (some ⟨w.heap.size, 0, none⟩))) w' := by
    simp [execOp, ho, hm, hrun, Result.andThen]
  refine wpList_value hw hr (h _ _ _ w' hD.size_le (fun l hl v hv => hB.has hl hv) (hO.turn (hat _ _ _) r2.os r2.tape r2.output r2.size (fun k hk _ => r2.block k hk (by simp)) (rangeE_ok _ _ _ _ _ _ _ _) ⟨D, r1, hB⟩ (fun b' hb' => ?_) (fun b' hb' => ?_)))
  · rcases List.mem_cons.1 hb' with e | hb'
    · subst e; exact .inl (by simp [mapE])
    · rw [List.mem_singleton.1 hb']; exact .inr (Nat.le_refl _)
  · have h1 := r1.owns.lt
    rcases List.mem_cons.1 hb' with e | hb'
    · subst e; exact h1
    · rw [List.mem_singleton.1 hb', r3]; omega
/-- The next entry. -/
theorem wpList_nextOwn {it : Operand} {b r n cnt : Nat} {f : Lit → Option Value} {left : Lit → Bool} {L' : (Lit → Bool) → Nat → List Ent} (hO : Own W w L) (ho : o.op = .next it false) (hit : a.eval it = .pointer (some ⟨r, 0, none⟩)) (K : Keyed P kt)
    (hat : ∀ left' cnt', At (rangeE P kt b r n f left cnt) (rangeE P kt b r n f left' cnt') L (L' left' cnt'))
    (hw : Region.wanted o (yielded ops a.tmps) = true) (hDone : (∀ l, left l = false) → wpList P ops Q rest (a.put o.dst (.tuple #[.bool false])) w)
    (hMore : ∀ key c kl cnt' w', keyOf P kt key = some kl → left kl = true → f kl = some c → cnt' < cnt → Own W w' (L' (fun z => left z && !z.sameKey kl) cnt') → (Instr.entry (.pointer (some ⟨r, 0, none⟩))).run P w' = .ok (.tuple #[key, c]) w' →
      wpList P ops Q rest (a.put o.dst (.tuple #[.bool true, key, c])) w') : wpList P ops Q (o :: rest) a w := by
  obtain ⟨D, hD, hB⟩ := hO.has _ (hat left cnt).mem
  rcases hD.next K o.type with ⟨h0, hl, hrun⟩ | ⟨key, v, kl, y, w', cnt', hkey, hlk, hv, hat', hrun, hrg, hlt, hgr, hsz, hen⟩
  · have hr : (execOp a.eval o).run P w = .ok (.value (.tuple #[.bool false])) w := by
      simp [execOp, ho, hit, hrun, Result.andThen]
    exact wpList_value hw hr (hDone hl)
  · have hr : (execOp a.eval o).run P w = .ok (.value (.tuple #[.bool true, key, v])) w' := by
      simp [execOp, ho, hit, hrun, Result.andThen]
    have hy : y = (.held v, []) := by simp [tokR] at hv; exact hv.symm
    subst hy
    refine wpList_value hw hr (hMore key v kl cnt' w' hkey hlk (hB.at (K.key hkey) hat') hlt (hO.turn (hat _ _) hgr.os hgr.tape hgr.output hgr.size (fun k hk hne => hgr.block k hk (fun e => hne (by simp only [Option.some.injEq] at e; simp [rangeE, e]))) (rangeE_ok _ _ _ _ _ _ _ _) ⟨D, hrg, hB⟩ (fun b' hb' => .inl hb') (fun b' hb' => ?_)) hen)
    have h1 := hrg.owns.lt
    have h2 := hrg.lt
    rcases List.mem_cons.1 hb' with e | hb'
    · subst e; exact h1
    · rw [List.mem_singleton.1 hb']; exact h2
theorem rangeLeft_of {b r n cnt : Nat} {f : Lit → Option Value} {left : Lit → Bool} {L' : List Ent} (hO : Own W w L) (hat : At (rangeE P kt b r n f left cnt) (rangeE P kt b r n f left cnt) L L') : w.rangeLeft b r = cnt := by
  obtain ⟨D, hD, _⟩ := hO.has _ hat.mem
  exact hD.left_eq
theorem Own.rangeEnd {b r n cnt : Nat} {f : Lit → Option Value} {left : Lit → Bool} {L' : List Ent} (hO : Own W w L) (hat : At (rangeE P kt b r n f left cnt) (mapE P kt b n f) L L') : Own W w L' :=
  hO.as hat (mapE_ok _ _ _ _ _) (fun ⟨D, hD, hB⟩ => ⟨D, hD.owns, hB⟩) (fun b' hb' => by rw [List.mem_singleton.1 hb']; simp [rangeE])
theorem Own.mapCongr {b n : Nat} {f g : Lit → Option Value} {L' : List Ent} (hO : Own W w L) (hat : At (mapE P kt b n f) (mapE P kt b n g) L L') (e : ∀ l, WideAt.IsKeyLit l → f l = g l) : Own W w L' :=
  hO.as hat (mapE_ok _ _ _ _ _) (fun ⟨D, hD, hB⟩ => ⟨D, hD, hB.congr e⟩) (fun _ hb => hb)
end
end Go.Own
namespace Go.Proofs.YtibabfedpdoofaaGreatDoor
open Go.RowKit Go.Own Go.Maps

theorem bkLaid : laidOutB Tryz.prog = true := by kernel_rfl
theorem bkSlot : 195 < Tryz.prog.types.size := of_decide_eq_true (by kernel_rfl)
set_option maxRecDepth 100000 in
theorem bkWide : (match Tryz.prog.underlying 195 with | some (.array _ _) | some (.struct _) => true | _ => false) = true := by kernel_rfl
set_option maxRecDepth 100000 in
theorem slotKeyed : Keyed Tryz.prog 195 := Keyed.of_law (deep_law_laid bkLaid (m := 2) (by omega) bkSlot (by kernel_rfl) bkWide)
theorem strKeyed : Keyed Tryz.prog 9 := string_keyed Tryz.underlying9
theorem bkCells : Tryz.prog.cellsOf 195 = 2 := by kernel_rfl
theorem bkCells1 : Tryz.prog.cellsOf 3 = 1 := by kernel_rfl
theorem bkType : Tryz.prog.keyType 195 = true := by kernel_rfl
theorem bkSize : decide (2 ≤ Tryz.prog.types.size) = true := by kernel_rfl
theorem wf_in {n : Int} (h : inI n = true) : (Lit.int .i64 n).wf = true := by
  have := inI_iff.1 h
  simp [Lit.wf, IntKind.min, IntKind.max, IntKind.bits, IntKind.signed]
  omega
set_option maxRecDepth 100000 in
theorem bkLits_int (n : Nat) {o : Int} (h1 : (Lit.int .i64 o).wf = true) : Tryz.prog.keyLits (n + 1) 3 [.int .i64 o] = some [.int .i64 o] := by
  unfold Program.keyLits
  rw [Tryz.underlying3]
  simp [h1]
set_option maxRecDepth 100000 in
theorem bkLits_key (n : Nat) {o d : Int} (h1 : (Lit.int .i64 o).wf = true) (h2 : (Lit.int .i64 d).wf = true) : Tryz.prog.keyLits (n + 2) 195 [.int .i64 o, .int .i64 d] = some [.int .i64 o, .int .i64 d] := by
  unfold Program.keyLits
  rw [Tryz.underlying195]
  simp [bkCells, bkCells1, bkLits_int n h1, bkLits_int n h2]
set_option maxRecDepth 100000 in
theorem slot_formed (o d : Int) : (Value.agg #[.int .i64 o, .int .i64 d]).formed Tryz.prog 195 = true := by
  unfold Value.formed
  rw [Tryz.underlying195]
  simp [bkCells]
set_option maxRecDepth 100000 in
theorem slotOf_some {o d : Int} (h1 : (Lit.int .i64 o).wf = true) (h2 : (Lit.int .i64 d).wf = true) : ∃ l, keyOf Tryz.prog 195 (.agg #[.int .i64 o, .int .i64 d]) = some l := by
  have hs := of_decide_eq_true bkSize
  obtain ⟨m, hm⟩ : ∃ m, Tryz.prog.types.size + 1 = m + 2 := ⟨Tryz.prog.types.size - 1, by omega⟩
  unfold keyOf
  rw [Tryz.underlying195]
  simp only [bkType, slot_formed, Bool.and_self, if_true, hm]
  rw [show (Value.agg #[.int .i64 o, .int .i64 d]).cells.toList = [.int .i64 o, .int .i64 d] from rfl, bkLits_key m h1 h2]
  exact ⟨_, rfl⟩
noncomputable def slotLit (n o : Int) : Lit := (keyOf Tryz.prog 195 (.agg #[.int .i64 n, .int .i64 o])).getD (.bool true)
theorem slotOf_lit {n o : Int} (h1 : inI n = true) (h2 : inI o = true) : keyOf Tryz.prog 195 (.agg #[.int .i64 n, .int .i64 o]) = some (slotLit n o) := by
  obtain ⟨l, hl⟩ := slotOf_some (wf_in h1) (wf_in h2)
  rw [slotLit, hl]
  rfl
theorem slotLit_inj {n o n' o' : Int} (h1 : inI n = true) (h2 : inI o = true) (h1' : inI n' = true) (h2' : inI o' = true) (h : slotLit n o = slotLit n' o') : n = n' ∧ o = o' := by
  have := slotKeyed.inj (slotOf_lit h1 h2) (by rw [h]; exact slotOf_lit h1' h2')
  simpa using this
set_option maxRecDepth 100000 in
theorem keyLits_inv {n : Nat} {v : Value} {l : List Lit} (h : Tryz.prog.keyLits n 3 [v] = some l) : ∃ x, v = .int .i64 x := by
  cases n with
  | zero => cases h
  | succ n =>
    unfold Program.keyLits at h
    rw [Tryz.underlying3] at h
    cases v <;> simp at h
    rename_i q x
    exact ⟨x, by rw [h.1.1]⟩
set_option maxRecDepth 100000 in
/-- The form of a slot's key. -/
theorem slot_inv {v : Value} {l : Lit} (h : keyOf Tryz.prog 195 v = some l) : ∃ n o, v = .agg #[.int .i64 n, .int .i64 o] := by
  have hs := of_decide_eq_true bkSize
  obtain ⟨m, hm⟩ : ∃ m, Tryz.prog.types.size + 1 = m + 2 := ⟨Tryz.prog.types.size - 1, by omega⟩
  unfold keyOf at h
  rw [Tryz.underlying195] at h
  simp only [bkType, Bool.true_and, hm] at h
  split at h
  · rename_i hf
    unfold Value.formed at hf
    rw [Tryz.underlying195] at hf
    cases v <;> simp [bkCells] at hf
    rename_i cs
    obtain ⟨x, y, rfl⟩ : ∃ x y, cs = #[x, y] := by
      obtain ⟨cl⟩ := cs
      match cl, hf with
      | [x, y], _ => exact ⟨x, y, rfl⟩
    unfold Program.keyLits at h
    rw [Tryz.underlying195] at h
    simp [bkCells, bkCells1, Value.cells] at h
    cases hx : Tryz.prog.keyLits (m + 1) 3 [x] with
    | none => rw [hx] at h; cases h
    | some lx =>
      cases hy : Tryz.prog.keyLits (m + 1) 3 [y] with
      | none => rw [hx, hy] at h; cases h
      | some ly =>
        obtain ⟨n, rfl⟩ := keyLits_inv hx
        obtain ⟨o, rfl⟩ := keyLits_inv hy
        exact ⟨n, o, rfl⟩
  · cases h

set_option maxHeartbeats 8000000 in
set_option maxRecDepth 100000 in
theorem mapsCopy_any {W w : World} {L : List Ent} {bs bd n m : Nat} {g f : Lit → Option Value} (HO : Own W w (mapE Tryz.prog 195 bs n g :: mapE Tryz.prog 195 bd m f :: L)) (hr : m + n < maxLen) (hg : ∀ l, WideAt.IsKeyLit l → ∀ v, g l = some v → ∃ x, v = .int .i64 x) :
    Calls Tryz.prog 144 #[.map (some bd), .map (some bs)] w fun e w' => e = .returned (.tuple #[]) ∧ Own W w' (mapE Tryz.prog 195 bs n g :: mapE Tryz.prog 195 bd (m + n) (mergeF f g) :: L) := by
  have HG := Lib.hid hg
  have HR := Lib.hid hr
  clear hg hr
  have hu := Tryz.underlying191
  go_enter Tryz.func144, Tryz.ntmps144
  go_wp2_with (first | ((with_reducible apply wpList_rangeOwn HO (kt := 195) (et := 2)); exact rfl; exact rfl; exact slotKeyed; exact hu; (intro _ _ _; (repeat (with_reducible (first | exact At.head _ | apply At.tail)))); exact rfl; clear HO; intro r left cnt w hcnt hleft HO; (simp only [Act.put, zA, zB, zC])))
  replace hleft := Lib.hid hleft
  go_loopw [] (fun wr => ∃ (left' : Lit → Bool) (cnt' : Nat) (fj : Lit → Option Value), cnt' ≤ cnt ∧ (∀ l, WideAt.IsKeyLit l → fj l = match g l with | some v => if left' l = true then f l else some v | none => f l) ∧ Own W wr (rangeE Tryz.prog 195 bs r n g left' cnt' :: mapE Tryz.prog 195 bd (m + (n - cnt')) fj :: L)) (fun wr => wr.rangeLeft bs r)
  case atStart =>
    refine ⟨left, cnt, f, Nat.le_refl _, fun l hl => ?_, mapE_mono HO (by (repeat (with_reducible (first | exact At.head _ | apply At.tail)))) (by omega)⟩
    cases hgl : g l with
    | none => rfl
    | some v => simp only [if_pos (hleft.out l hl v hgl)]
  case round =>
    clear HO
    obtain ⟨left', cnt', fj, hc, hfj, HO⟩ := hrel
    replace hfj := Lib.hid hfj
    have hm := rangeLeft_of HO (.head _)
    go_wp2_with (first | ((with_reducible apply wpList_nextOwn HO); exact rfl; exact rfl; exact slotKeyed; (intro _ _; (repeat (with_reducible (first | exact At.head _ | apply At.tail)))); exact rfl) | go_big_skip)
    · intro hl
      have HE := Own.mapCongr (HO.rangeEnd (.head _)) (.tail _ _ _ (.head _)) (g := mergeF f g) (fun l hk => by rw [hfj.out l hk, mergeF, hl l]; cases g l <;> rfl)
      replace HE := mapE_mono HE (n' := m + n) (.tail _ _ _ (.head _)) (by omega)
      clear HO
      go_wp2_with fail
      go_end0
      exact ⟨rfl, HE⟩
    · intro key c kl cnt2 w hkey hlk hgk hlt HO hen
      have hkl := slotKeyed.key hkey
      obtain ⟨kn, ko, rfl⟩ := slot_inv hkey
      obtain ⟨x, rfl⟩ := HG.out kl hkl c hgk
      have HF := Lib.hid (show ∀ l, WideAt.IsKeyLit l → updF fj kl (.int .i64 x) l = match g l with | some v => if (left' l && !l.sameKey kl) = true then f l else some v | none => f l from fun l hl => by
        unfold updF
        cases e : l.sameKey kl
        · rw [if_neg (by simp), hfj.out l hl]
          simp only [Bool.not_false, Bool.and_true]
        · obtain rfl := WideAt.sameKey_eq e
          rw [if_pos rfl, hgk]
          simp)
      have hroom : m + (n - cnt') < maxLen := by have := HR.out; omega
      have hle : m + (n - cnt') + 1 ≤ m + (n - cnt2) := by have := HR.out; omega
      replace hm := Lib.hid hm
      clear hfj
      go_wp2_with (first | (first | go_big_skip | ((with_reducible apply wpList_loadAll HO); exact rfl; exact rfl; (repeat (with_reducible (first | exact At.head _ | apply At.tail))); infer_instance; exact rfl; exact rfl; (simp only [Act.put, zA, zB, zC])) | ((with_reducible apply wpList_loadOne HO); exact rfl; exact rfl; (repeat (with_reducible (first | exact At.head _ | apply At.tail))); exact rfl; infer_instance; exact rfl; (simp only [Act.put, zA, zB, zC]))) | ((with_reducible apply wpList_storeAll HO); exact rfl; exact rfl; exact rfl; (repeat (with_reducible (first | exact At.head _ | apply At.tail))); infer_instance; exact rfl; exact rfl; exact rfl; exact rfl; clear HO; intro w HO; (simp only [Act.put])) | (first | ((with_reducible apply wpList_boxAgg _ HO rfl); exact rfl; exact rfl; exact rfl; clear HO; intro b4 w HO; (simp only [Act.put, zA, zB, zC])) | ((with_reducible apply wpList_allocAgg _ HO rfl); exact rfl; infer_instance; exact rfl; clear HO; intro b4 w HO; (simp only [Act.put, zA, zB, zC]))) | ((with_reducible apply wpList_mapPut HO (kt := 195) (et := 2)); exact rfl; exact rfl; exact rfl; (first | (simp [Act.eval]; rfl) | exact rfl); (repeat (with_reducible (first | exact At.head _ | apply At.tail))); exact slotKeyed; exact Tryz.underlying191; exact hroom; exact hkey; exact rfl; clear HO; intro w HO; (simp only [Act.put])))
      have HE := mapE_mono HO.tail (.tail _ _ _ (.head _)) hle
      clear HO
      have hm2 := rangeLeft_of HE (.head _)
      go_roundw
      case rel => exact ⟨_, cnt2, _, by omega, HF.out, HE⟩
      case measure => rw [hm2, hm.out]; exact hlt
end Go.Proofs.YtibabfedpdoofaaGreatDoor
namespace Go.Proofs.YtibabfedpdoofaaGreatDoor
open Go.RowKit Go.Own Go.Maps

theorem postedEql (w : World) (p : Option Nat) : (binOp .eql 190 (.map p) (.map none)).run Tryz.prog w = .ok (.bool p.isNone) w := run_eql_map_nil_sl w _ _ _ p Tryz.underlying190
def idOk (l : List Pst) (f : Lit → Option Value) : Prop := ∀ s : ByteArray, s.size ≤ maxLen → f (.string s.data.toList) = (findP l s).map pstV
def BalOk (l : List Pst) (g : Lit → Option Value) : Prop := ∀ n o, inI n = true → inI o = true → (g (slotLit n o)).getD (.int .i64 0) = .int .i64 (bal l n o)
def idE (b : Nat) (l : List Pst) : Ent := ⟨[b], fun w => ∃ n f, (mapE Tryz.prog 9 b n f).F w ∧ n ≤ l.length ∧ idOk l f⟩
def balE (b : Nat) (l : List Pst) : Ent := ⟨[b], fun w => ∃ n g, (mapE Tryz.prog 195 b n g).F w ∧ n ≤ 4 * l.length ∧ BalOk l g⟩
theorem idE_ok (b : Nat) (l : List Pst) : (idE b l).Ok := fun w w' h ⟨n, f, hF, h2⟩ => ⟨n, f, mapE_ok _ _ _ _ _ w w' h hF, h2⟩
theorem balE_ok (b : Nat) (l : List Pst) : (balE b l).Ok := fun w w' h ⟨n, f, hF, h2⟩ => ⟨n, f, mapE_ok _ _ _ _ _ w w' h hF, h2⟩
theorem Own.idOpen {W w : World} {L : List Ent} {b : Nat} {l : List Pst} {L' : Nat → (Lit → Option Value) → List Ent} (hO : Own W w L) (hat : ∀ n f, At (idE b l) (mapE Tryz.prog 9 b n f) L (L' n f)) : ∃ n f, n ≤ l.length ∧ idOk l f ∧ Own W w (L' n f) := by
  obtain ⟨n, f, hF, h1, h2⟩ := hO.has _ (hat 0 (fun _ => none)).mem
  exact ⟨n, f, h1, h2, hO.as (hat n f) (mapE_ok _ _ _ _ _) (fun _ => hF) (fun _ hb => hb)⟩
theorem Own.idClose {W w : World} {L L' : List Ent} {b n : Nat} {f : Lit → Option Value} {l : List Pst} (hO : Own W w L) (hat : At (mapE Tryz.prog 9 b n f) (idE b l) L L') (h1 : n ≤ l.length) (h2 : idOk l f) : Own W w L' :=
  hO.as hat (idE_ok _ _) (fun hF => ⟨n, f, hF, h1, h2⟩) (fun _ hb => hb)
theorem Own.balOpen {W w : World} {L : List Ent} {b : Nat} {l : List Pst} {L' : Nat → (Lit → Option Value) → List Ent} (hO : Own W w L) (hat : ∀ n f, At (balE b l) (mapE Tryz.prog 195 b n f) L (L' n f)) : ∃ n f, n ≤ 4 * l.length ∧ BalOk l f ∧ Own W w (L' n f) := by
  obtain ⟨n, f, hF, h1, h2⟩ := hO.has _ (hat 0 (fun _ => none)).mem
  exact ⟨n, f, h1, h2, hO.as (hat n f) (mapE_ok _ _ _ _ _) (fun _ => hF) (fun _ hb => hb)⟩
theorem Own.balClose {W w : World} {L L' : List Ent} {b n : Nat} {f : Lit → Option Value} {l : List Pst} (hO : Own W w L) (hat : At (mapE Tryz.prog 195 b n f) (balE b l) L L') (h1 : n ≤ 4 * l.length) (h2 : BalOk l f) : Own W w L' :=
  hO.as hat (balE_ok _ _) (fun hF => ⟨n, f, hF, h1, h2⟩) (fun _ hb => hb)
def bkPs (b : Nat) (v : Value) (pm bm : Nat) (l : List Pst) : List Ent := [box b (.cells [v, .map (some pm), .map (some bm)].toArray 193), row 187 5 v (l.map pstC), idE pm l, balE bm l]
def bkE (b : Nat) (v : Value) (pm bm : Nat) (l : List Pst) : Ent := joinE (bkPs b v pm bm l)
/-- What is known of books in a world. -/
structure BkAt (w : World) (b : Nat) (v : Value) (pm bm : Nat) (l : List Pst) : Prop where
  box : w.heap[b]? = some (.cells [v, .map (some pm), .map (some bm)].toArray 193)
  row : (row 187 5 v (l.map pstC)).F w
  ids : (idE pm l).F w
  bals : (balE bm l).F w
theorem Own.bkAt {W w : World} {L L' : List Ent} {b : Nat} {v : Value} {pm bm : Nat} {l : List Pst} (hO : Own W w L) (hat : At (bkE b v pm bm l) (bkE b v pm bm l) L L') : BkAt w b v pm bm l := by
  obtain ⟨h, _⟩ := hO.has _ hat.mem
  exact ⟨h _ (.head _), h _ (.tail _ (.head _)), h _ (.tail _ (.tail _ (.head _))), h _ (.tail _ (.tail _ (.tail _ (.head _))))⟩
theorem old_cell {w : World} {b : Nat} {cs : List Value} {T : TypeId} (h : w.heap[b]? = some (.cells cs.toArray T)) (i : Nat) {v : Value} (hv : cs[i]? = some v) : w.cell? ⟨b, i, none⟩ = some v := by rw [cellAt h, hv]
theorem old_lt {w : World} {b : Nat} {o : Obj} (h : w.heap[b]? = some o) : b < w.heap.size := lt_of_block h

set_option maxHeartbeats 4000000 in
theorem bkNone_any {w : World} {b : Nat} {v : Value} {pm bm : Nat} (h : w.heap[b]? = some (.cells [v, .map (some pm), .map (some bm)].toArray 193)) : Calls Tryz.prog 112 #[.pointer (some ⟨b, 0, none⟩)] w fun e w' => e = .returned (.bool false) ∧ Below w.heap.size w w' := by
  have HO := Own.start w
  have h1 := old_cell h 1 rfl
  have hlt := old_lt h
  have hq := fun w => postedEql w (some pm)
  clear h
  go_enter Tryz.func112, Tryz.ntmps112
  go_wp2_with (first | go_big_skip | ((with_reducible apply wpList_loadOld1 HO); exact rfl; exact rfl; exact hlt; exact h1; infer_instance; exact rfl; (simp only [Act.put, zA, zB, zC])))
  go_ret
  exact ⟨rfl, HO.grown⟩

set_option maxHeartbeats 4000000 in
theorem bkBal_any {w : World} {b : Nat} {v : Value} {pm bm : Nat} {l : List Pst} (h : BkAt w b v pm bm l) {n o : Int} (hn : inI n = true) (ho : inI o = true) : Calls Tryz.prog 52 #[.pointer (some ⟨b, 0, none⟩), .int .i64 n, .int .i64 o] w fun e w' => e = .returned (.int .i64 (bal l n o)) ∧ Below w.heap.size w w' := by
  have HO := Own.start w
  have N := bkNone_any h.box
  obtain ⟨k, g, hF, -, hg⟩ := h.bals
  have hg := hg n o hn ho
  have hk := slotOf_lit hn ho
  have h2 := old_cell h.box 2 rfl
  have hlt := old_lt h.box
  clear h
  go_enter Tryz.func52, Tryz.ntmps52
  go_wp2_with (first | go_big_skip | ((with_reducible apply wpList_loadOld1 HO); exact rfl; exact rfl; exact hlt; exact h2; infer_instance; exact rfl; (simp only [Act.put, zA, zB, zC])) | (go_at_call 112; go_must ((with_reducible refine (N).mono ?_); rintro e w ⟨rfl, hb⟩; replace HO := HO.call hb; clear hb)) | ((with_reducible apply wpList_mapLook0Old HO (kt := 195) (et := 2)); exact rfl; exact rfl; exact rfl; exact hF; exact slotKeyed; exact Tryz.underlying191; infer_instance; exact hk; exact hg; exact rfl; (simp only [Act.put, zA, zB, zC])))
  go_ret
  exact ⟨rfl, HO.grown⟩
theorem BkAt.below {w w' : World} {b : Nat} {v : Value} {pm bm : Nat} {l : List Pst} (h : BkAt w b v pm bm l) (hb : Below w.heap.size w w') : BkAt w' b v pm bm l := by
  have e : ∀ b, b < w.heap.size → w'.heap[b]? = w.heap[b]? := fun b hb' => hb.block b hb'
  have hi : pm < w.heap.size := by obtain ⟨n, f, ⟨D, hD, _⟩, _⟩ := h.ids; exact hD.lt
  have hbm : bm < w.heap.size := by obtain ⟨n, f, ⟨D, hD, _⟩, _⟩ := h.bals; exact hD.lt
  exact ⟨by rw [e b (old_lt h.box)]; exact h.box, row_ok _ _ _ _ w w' (fun c hc => e c (row_lt _ _ _ _ w h.row c hc)) h.row, idE_ok _ _ w w' (fun c hc => e c (by rw [List.mem_singleton.1 hc]; exact hi)) h.ids, balE_ok _ _ w w' (fun c hc => e c (by rw [List.mem_singleton.1 hc]; exact hbm)) h.bals⟩

def sumB (l : List Pst) : Nat → Int
  | 0 => 0
  | k + 1 => sumB l k + bal l (k : Int) 0
theorem sumB_zero {l : List Pst} (h : ∀ p ∈ l, mayPst p = true) : sumB l 5 = 0 := by
  induction l with
  | nil => rfl
  | cons p l ih =>
    have hm := mayPst_iff.1 (h p (by simp))
    have e : ∀ k, sumB (p :: l) k = sumB [p] k + sumB l k := fun k => by
      induction k with
      | zero => rfl
      | succ k ih => simp only [sumB, ih, bal]; omega
    rw [e, ih (fun q hq => h q (by simp [hq]))]
    simp only [sumB, bal, delta, ne_eq, not_true_eq_false, false_and, if_false]
    have hd : p.d = 0 ∨ p.d = 1 ∨ p.d = 2 ∨ p.d = 3 ∨ p.d = 4 := by omega
    have hc : p.c = 0 ∨ p.c = 1 ∨ p.c = 2 ∨ p.c = 3 ∨ p.c = 4 := by omega
    have hne := hm.2.2.2.2.2.2.1
    rcases hd with hd | hd | hd | hd | hd <;> rcases hc with hc | hc | hc | hc | hc <;> simp [hd, hc] at hne ⊢ <;> omega

set_option maxHeartbeats 8000000 in
set_option maxRecDepth 100000 in
theorem bkZero_any {W : World} {b : Nat} {v : Value} {pm bm : Nat} {l : List Pst} (h : BkAt W b v pm bm l) (hm : ∀ p ∈ l, mayPst p = true) : Calls Tryz.prog 53 #[.pointer (some ⟨b, 0, none⟩)] W fun e w' => e = .returned (.bool true) ∧ Below W.heap.size W w' := by
  have HO := Own.start W
  have N := bkNone_any h.box
  have HB := Lib.hid h
  have HM := Lib.hid (sumB_zero hm)
  clear h hm
  go_enter Tryz.func53, Tryz.ntmps53
  go_wp2_with (first | (go_at_call 112; go_must ((with_reducible refine (N).mono ?_); rintro e w ⟨rfl, hb⟩; replace HO := HO.call hb; clear hb)))
  go_loopw [3, 4] (fun s i wr => ∃ j : Nat, j ≤ 5 ∧ i = .int .i64 (j : Int) ∧ s = .int .i64 (IntKind.i64.wrap (sumB l j)) ∧ Own W wr []) (fun _ i _ => 5 - (intOf i).toNat)
  case atStart => exact ⟨0, by omega, rfl, rfl, HO⟩
  case round =>
    clear HO
    obtain ⟨j, hj, rfl, rfl, HO⟩ := hrel
    by_cases hj5 : j < 5
    · have hjI : (j : Int) ≤ 4 := by omega
      have B := bkBal_any (HB.out.below HO.grown) (n := (j : Int)) (o := 0) (inI_iff.2 (by omega)) rfl
      have e : IntKind.i64.wrap (IntKind.i64.wrap (sumB l j) + bal l (j : Int) 0) = IntKind.i64.wrap (sumB l (j + 1)) := by
        simp only [sumB, IntKind.wrap_i64]; omega
      generalize IntKind.i64.wrap (sumB l j) = s0 at *
      generalize bal l (j : Int) 0 = t0 at *
      go_wp2_with (first | (go_at_call 52; go_must ((with_reducible refine (B).mono ?_); rintro e w ⟨rfl, hb⟩; replace HO := HO.call hb; clear hb)))
      go_roundw
      case rel => exact ⟨j + 1, by omega, by go_num, by rw [IntKind.wrap_i64, wrap64], HO⟩
      case measure => simp [intOf] <;> omega
    · obtain rfl : j = 5 := by omega
      rw [HM.out] at *
      go_wp2_with fail
      go_ret
      exact ⟨rfl, HO.grown⟩
end Go.Proofs.YtibabfedpdoofaaGreatDoor

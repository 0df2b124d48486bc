/-
  Whether two entries are the same, by walking both texts: the second half; conditions: the rows lie in memory.
  A model of a core and the entry that places an order, by walking the program's texts; conditions: the core is one that entries come to.
  A journal gone through: the entry of a line, by walking the program's text; conditions: the core is one that entries come to.
  The core's Apply of an entry that places or cancels, the intake left out; whether a line is told, by walking the program's texts; conditions: the core is one that entries come to.
  A journal gone through: the next entry is done, by walking the program's text; conditions: the entries lie in memory, the laid tables.
  Whether a line is told, by walking the program's text; conditions: the core is one that entries come to.
  Lines held against the entries of a journal: which is the first that does not fit, in plain Lean; conditions: none.
  Lines of a history in memory, parts of slices; conditions: none.
  Whether a line that changes something is told, by walking the program's text; conditions: the core is one that entries come to.
  Whether the next entry is that of a line that changes something, by walking the program's text; conditions: the core is one that entries come to, the entries lie in memory.
-/
import Derived.Test.YtibabfedpdoofaaGreatDoorPa1
import Derived.Test.YtibabfedpdoofaaGreatDoorPa8
import Derived.Test.YtibabfedpdoofaaGreatDoorPa10
namespace Go.Proofs.YtibabfedpdoofaaGreatDoor
open Go.RowKit Go.Own

theorem beq_dec (a b : Int) : (a == b) = decide (a = b) := by rw [Bool.eq_iff_iff]; simp

set_option maxHeartbeats 4000000 in
set_option maxRecDepth 100000 in
theorem entSame_any {W : World} {va vb : Value} (a b : EntS) (ha : IsRows W va a.rs) (hb : IsRows W vb b.rs) :
    Calls Tryz.prog 169 #[.agg #[.int .i64 (a).k, .int .i64 (a).id, .string ⟨(a).ref.toArray⟩, .string ⟨(a).sku.toArray⟩, .int .i64 (a).qty, .int .i64 (a).amt, .int .i64 (a).o, .int .i64 (a).d, .int .i64 (a).c, .int .i64 (a).p, .int .i64 (a).q, va], .agg #[.int .i64 (b).k, .int .i64 (b).id, .string ⟨(b).ref.toArray⟩, .string ⟨(b).sku.toArray⟩, .int .i64 (b).qty, .int .i64 (b).amt, .int .i64 (b).o, .int .i64 (b).d, .int .i64 (b).c, .int .i64 (b).p, .int .i64 (b).q, vb]] W fun e w' => e = .returned (.bool (sameE a b)) ∧ Below W.heap.size W w' := by
  have PA := fun w' (h : Below W.heap.size W w') => plain_any a (ha.below h ha.lt)
  have PB := fun w' (h : Below W.heap.size W w') => plain_any b (hb.below h hb.lt)
  have hpa := plainV_rows ha
  have hpb := plainV_rows hb
  obtain ⟨sa, ca, rfl, -⟩ := ha.slice
  obtain ⟨sb, cb, rfl, -⟩ := hb.slice
  obtain ⟨sx, cx, hx, -⟩ := hpa.slice
  obtain ⟨sy, cy, hy, -⟩ := hpb.slice
  rw [hx] at PA hpa
  rw [hy] at PB hpb
  have S := fun w' (h : Below W.heap.size W w') => rowsSame_any (plainE a).p (plainE a).q (plainE b).p (plainE b).q (hpa.below h hpa.lt) (hpb.below h hpb.lt)
  have HQ := Lib.hid (show sameE a b = (((plainE a).k == (plainE b).k) && ordEq (plainE a) (plainE b) && (decide ((plainE a).o = (plainE b).o) && decide ((plainE a).d = (plainE b).d)) && ((plainE a).c == (plainE b).c) &&
    sameStmt (plainE a).p (plainE a).q (plainE a).rs (plainE b).p (plainE b).q (plainE b).rs) by rw [beq_dec, beq_dec, plainE_k, plainE_k]; rfl)
  generalize sameE a b = z at *
  generalize plainE a = x at *
  generalize plainE b = y at *
  obtain ⟨k, id, ref, sku, qty, amt, o, d, c, p, q, rs⟩ := x
  obtain ⟨k', id', ref', sku', qty', amt', o', d', c', p', q', rs'⟩ := y
  obtain ⟨ka, ida, refa, skua, qtya, amta, oa, da, cca, pa, qa, rsa⟩ := a
  obtain ⟨kb, idb, refb, skub, qtyb, amtb, ob, db, ccb, pb, qb, rsb⟩ := b
  simp only [ordEq] at PA PB S HQ ⊢
  have R1 := fun w => run_ord_eql id ref sku qty amt id' ref' sku' qty' amt' w
  have R2 := fun w => run_key_eql o d o' d' w
  generalize (decide (id = id') && decide (ref = ref') && decide (sku = sku') && decide (qty = qty') && decide (amt = amt')) = B1 at *
  generalize (decide (o = o') && decide (d = d')) = B2 at *
  generalize sameStmt p q rs p' q' rs' = B4 at *
  have HO := Own.start W
  clear ha hb hpa hpb hx hy
  go_enter Tryz.func169, Tryz.ntmps169
  go_wp2_with (first | ((have _h : Own W _ (box _ _ :: _) := HO); clear _h; ((with_reducible apply wpList_boxAgg _ HO rfl); exact rfl; exact rfl; exact rfl; clear HO; intro b3 w HO; (simp only [Act.put, zA, zB, zC]))) | ((with_reducible apply wpList_boxAgg _ HO rfl); exact rfl; exact rfl; exact rfl; clear HO; intro b2 w HO; (simp only [Act.put, zA, zB, zC])))
  refine region_sched2 ([box b3 (.cells #[.int .i64 kb, .int .i64 idb, .string ⟨refb.toArray⟩, .string ⟨skub.toArray⟩, .int .i64 qtyb, .int .i64 amtb, .int .i64 ob, .int .i64 db, .int .i64 ccb, .int .i64 pb, .int .i64 qb, .slice sb rsb.length cb] 34), box b2 (.cells #[.int .i64 ka, .int .i64 ida, .string ⟨refa.toArray⟩, .string ⟨skua.toArray⟩, .int .i64 qtya, .int .i64 amta, .int .i64 oa, .int .i64 da, .int .i64 cca, .int .i64 pa, .int .i64 qa, .slice sa rsa.length ca] 34)]) [(0, true), (2, true), (1, false), (3, false), (4, false), (5, false)] HO (by with_reducible (repeat (first | exact List.nil_sublist _ | apply List.Sublist.cons_cons))) (by kernel_rfl) (by kernel_rfl) ?_
  clear HO
  intro w HO
  repeat (((with_reducible apply wpSched_loadAll); exact rfl; exact rfl; exact rfl; (repeat (with_reducible (first | exact At.head _ | apply At.tail))); infer_instance; exact rfl; exact rfl; (simp only [Act.put, zA, zB, zC])))
  ((with_reducible apply wpSched_loud); exact rfl; go_wp2_with ((go_at_call 184; go_must ((with_reducible refine (PA _ HO.grown).mono ?_); rintro e w ⟨rfl, hb⟩; replace HO := HO.call hb; clear hb))))
  refine thenQ_keep (HO.held (by with_reducible (repeat (first | exact List.nil_sublist _ | apply List.Sublist.cons_cons)))) ?_
  ((with_reducible apply wpSched_loud); exact rfl; go_wp2_with ((go_at_call 184; go_must ((with_reducible refine (PB _ HO.grown).mono ?_); rintro e w ⟨rfl, hb⟩; replace HO := HO.call hb; clear hb))))
  refine thenQ_keep (HO.held (by with_reducible (repeat (first | exact List.nil_sublist _ | apply List.Sublist.cons_cons)))) ?_
  ((with_reducible apply wpSched_loud); exact rfl; ((with_reducible apply wpList_storeAll HO); exact rfl; exact rfl; exact rfl; (repeat (with_reducible (first | exact At.head _ | apply At.tail))); infer_instance; exact rfl; exact rfl; exact rfl; exact rfl; clear HO; intro w HO; (simp only [Act.put])))
  refine wpList_nil (thenQ_free (by kernel_rfl) ?_)
  ((with_reducible apply wpSched_loud); exact rfl; ((with_reducible apply wpList_storeAll HO); exact rfl; exact rfl; exact rfl; (repeat (with_reducible (exact At.head _))); infer_instance; exact rfl; exact rfl; exact rfl; exact rfl; clear HO; intro w HO; (simp only [Act.put])))
  refine wpList_nil (thenQ_free (by kernel_rfl) ?_)
  refine wpSched_end ?_
  clear PA PB
  cases h0 : (k == k')
  · go_wp2_with ((first | go_big_skip | ((with_reducible apply wpList_loadOne HO); exact rfl; exact rfl; (repeat (with_reducible (first | exact At.head _ | apply At.tail))); exact rfl; infer_instance; exact rfl; (simp only [Act.put, zA, zB, zC]))))
    go_ret
    exact ⟨by rw [HQ.out, h0]; rfl, HO.grown⟩
  · cases B1
    · go_wp2_with (first | (first | go_big_skip | ((with_reducible apply wpList_loadOne HO); exact rfl; exact rfl; (repeat (with_reducible (first | exact At.head _ | apply At.tail))); exact rfl; infer_instance; exact rfl; (simp only [Act.put, zA, zB, zC]))) | ((with_reducible apply wpList_loadPart HO); exact rfl; exact rfl; (repeat (with_reducible (first | exact At.head _ | apply At.tail))); infer_instance; exact (Nat.le_of_ble_eq_true rfl); (simp only [List.drop_succ_cons, List.drop_zero, List.take_succ_cons, List.take_zero]; rfl); exact rfl; (simp only [Act.put, zA, zB, zC])))
      go_ret
      exact ⟨by rw [HQ.out, h0]; rfl, HO.grown⟩
    · cases B2
      · go_wp2_with (first | (first | go_big_skip | ((with_reducible apply wpList_loadOne HO); exact rfl; exact rfl; (repeat (with_reducible (first | exact At.head _ | apply At.tail))); exact rfl; infer_instance; exact rfl; (simp only [Act.put, zA, zB, zC]))) | ((with_reducible apply wpList_loadPart HO); exact rfl; exact rfl; (repeat (with_reducible (first | exact At.head _ | apply At.tail))); infer_instance; exact (Nat.le_of_ble_eq_true rfl); (simp only [List.drop_succ_cons, List.drop_zero, List.take_succ_cons, List.take_zero]; rfl); exact rfl; (simp only [Act.put, zA, zB, zC])))
        go_ret
        exact ⟨by rw [HQ.out, h0]; rfl, HO.grown⟩
      · cases h3 : (c == c')
        · go_wp2_with (first | (first | go_big_skip | ((with_reducible apply wpList_loadOne HO); exact rfl; exact rfl; (repeat (with_reducible (first | exact At.head _ | apply At.tail))); exact rfl; infer_instance; exact rfl; (simp only [Act.put, zA, zB, zC]))) | ((with_reducible apply wpList_loadPart HO); exact rfl; exact rfl; (repeat (with_reducible (first | exact At.head _ | apply At.tail))); infer_instance; exact (Nat.le_of_ble_eq_true rfl); (simp only [List.drop_succ_cons, List.drop_zero, List.take_succ_cons, List.take_zero]; rfl); exact rfl; (simp only [Act.put, zA, zB, zC])))
          go_ret
          exact ⟨by rw [HQ.out, h0, h3]; rfl, HO.grown⟩
        · go_wp2_with (first | (((with_reducible apply wpList_loadOne HO); exact rfl; exact rfl; (repeat (with_reducible (first | exact At.head _ | apply At.tail))); exact rfl; infer_instance; exact rfl; (simp only [Act.put, zA, zB, zC]))) | ((with_reducible apply wpList_loadPart HO); exact rfl; exact rfl; (repeat (with_reducible (first | exact At.head _ | apply At.tail))); infer_instance; exact (Nat.le_of_ble_eq_true rfl); (simp only [List.drop_succ_cons, List.drop_zero, List.take_succ_cons, List.take_zero]; rfl); exact rfl; (simp only [Act.put, zA, zB, zC])) | (go_at_call 185; go_must ((with_reducible refine (S _ HO.grown).mono ?_); rintro e w ⟨rfl, hb⟩; replace HO := HO.call hb; clear hb)))
          go_ret
          exact ⟨by rw [HQ.out, h0, h3]; rfl, HO.grown⟩
/-- The same, seen from the kind. -/
theorem sameE_eq (a b : EntS) : sameE a b = if a.k = b.k then (if a.k = 1 then decide (a.id = b.id) && decide (a.ref = b.ref) && decide (a.sku = b.sku) && decide (a.qty = b.qty) && decide (a.amt = b.amt) else if a.k = 2 then decide (a.o = b.o) else
    if a.k = 3 then decide (a.o = b.o) && decide (a.d = b.d) && decide (a.c = b.c) else if a.k = 4 then sameStmt a.p a.q a.rs b.p b.q b.rs else true) else false := by
  obtain ⟨k, id, ref, sku, qty, amt, o, d, c, p, q, rs⟩ := a
  obtain ⟨k', id', ref', sku', qty', amt', o', d', c', p', q', rs'⟩ := b
  have e0 : sameStmt 0 0 [] 0 0 [] = true := rfl
  by_cases hk : k = k'
  · subst hk
    rcases five k with rfl | rfl | rfl | rfl | ⟨h1, h2, h3, h4⟩
    · simp [sameE, ordEq, plainE, zeroE, e0]
    · simp [sameE, ordEq, plainE, zeroE, e0]
    · simp [sameE, ordEq, plainE, zeroE, e0]
    · simp [sameE, ordEq, plainE, zeroE]
    · simp [sameE, ordEq, plainE, zeroE, e0, h1, h2, h3, h4]
  · simp [sameE, hk]
set_option maxHeartbeats 4000000 in
set_option maxRecDepth 100000 in
theorem refEntSame_any {W : World} {va vb : Value} (a b : EntS) (ha : IsRows W va a.rs) (hb : IsRows W vb b.rs) :
    Calls Tryz.prog 153 #[.agg #[.int .i64 (a).k, .int .i64 (a).id, .string ⟨(a).ref.toArray⟩, .string ⟨(a).sku.toArray⟩, .int .i64 (a).qty, .int .i64 (a).amt, .int .i64 (a).o, .int .i64 (a).d, .int .i64 (a).c, .int .i64 (a).p, .int .i64 (a).q, va], .agg #[.int .i64 (b).k, .int .i64 (b).id, .string ⟨(b).ref.toArray⟩, .string ⟨(b).sku.toArray⟩, .int .i64 (b).qty, .int .i64 (b).amt, .int .i64 (b).o, .int .i64 (b).d, .int .i64 (b).c, .int .i64 (b).p, .int .i64 (b).q, vb]] W fun e w' => e = .returned (.bool (sameE a b)) ∧ Below W.heap.size W w' := by
  have S := fun w' (h : Below W.heap.size W w') => refSame_any a.p a.q b.p b.q (ha.below h ha.lt) (hb.below h hb.lt)
  obtain ⟨sa, ca, rfl, -⟩ := ha.slice
  obtain ⟨sb, cb, rfl, -⟩ := hb.slice
  have HQ := Lib.hid (sameE_eq a b)
  generalize sameE a b = z at *
  clear ha hb
  obtain ⟨k, id, ref, sku, qty, amt, o, d, c, p, q, rs⟩ := a
  obtain ⟨k', id', ref', sku', qty', amt', o', d', c', p', q', rs'⟩ := b
  simp only at S HQ ⊢
  have R1 := fun w => run_ord_eql id ref sku qty amt id' ref' sku' qty' amt' w
  have R2 := fun w => run_key_eql o d o' d' w
  generalize (decide (id = id') && decide (ref = ref') && decide (sku = sku') && decide (qty = qty') && decide (amt = amt')) = B1 at *
  generalize hB2 : (decide (o = o') && decide (d = d')) = B2 at *
  generalize sameStmt p q rs p' q' rs' = B4 at *
  have HB2 := Lib.hid hB2
  have HO := Own.start W
  clear hB2
  by_cases hk : k = k'
  rotate_left
  · have HZ := Lib.hid (HQ.out.trans (if_neg hk))
    have h0 : (k == k') = false := by simpa using hk
    have h0' : (k != k') = true := by simpa using hk
    clear hk
    go_enter Tryz.func153, Tryz.ntmps153
    go_wp2_with ((first | ((with_reducible apply wpList_loadOne HO); exact rfl; exact rfl; (repeat (with_reducible (first | exact At.head _ | apply At.tail))); exact rfl; infer_instance; exact rfl; (simp only [Act.put, zA, zB, zC])) | (((with_reducible apply wpList_boxAgg _ HO rfl); exact rfl; exact rfl; exact rfl; clear HO; intro b0 w HO; (simp only [Act.put, zA, zB, zC])))))
    go_ret
    exact ⟨by first | (rw [HZ.out]; done) | (rw [HZ.out]; rfl), HO.grown⟩
  · subst hk
    rw [if_pos rfl] at HQ
    rcases five k with rfl | rfl | rfl | rfl | ⟨k1, k2, k3, k4⟩
    · go_enter Tryz.func153, Tryz.ntmps153
      go_wp2_with (first | (first | ((with_reducible apply wpList_loadOne HO); exact rfl; exact rfl; (repeat (with_reducible (first | exact At.head _ | apply At.tail))); exact rfl; infer_instance; exact rfl; (simp only [Act.put, zA, zB, zC])) | (((with_reducible apply wpList_boxAgg _ HO rfl); exact rfl; exact rfl; exact rfl; clear HO; intro b0 w HO; (simp only [Act.put, zA, zB, zC])))) | ((with_reducible apply wpList_loadPart HO); exact rfl; exact rfl; (repeat (with_reducible (first | exact At.head _ | apply At.tail))); infer_instance; exact (Nat.le_of_ble_eq_true rfl); (simp only [List.drop_succ_cons, List.drop_zero, List.take_succ_cons, List.take_zero]; rfl); exact rfl; (simp only [Act.put, zA, zB, zC])))
      go_ret
      exact ⟨by rw [HQ.out]; rfl, HO.grown⟩
    · go_enter Tryz.func153, Tryz.ntmps153
      go_wp2_with ((first | ((with_reducible apply wpList_loadOne HO); exact rfl; exact rfl; (repeat (with_reducible (first | exact At.head _ | apply At.tail))); exact rfl; infer_instance; exact rfl; (simp only [Act.put, zA, zB, zC])) | (((with_reducible apply wpList_boxAgg _ HO rfl); exact rfl; exact rfl; exact rfl; clear HO; intro b0 w HO; (simp only [Act.put, zA, zB, zC])))))
      go_ret
      exact ⟨by rw [HQ.out, beq_dec]; rfl, HO.grown⟩
    · cases B2
      · go_enter Tryz.func153, Tryz.ntmps153
        go_wp2_with (first | (first | go_big_skip | ((with_reducible apply wpList_loadOne HO); exact rfl; exact rfl; (repeat (with_reducible (first | exact At.head _ | apply At.tail))); exact rfl; infer_instance; exact rfl; (simp only [Act.put, zA, zB, zC])) | (((with_reducible apply wpList_boxAgg _ HO rfl); exact rfl; exact rfl; exact rfl; clear HO; intro b0 w HO; (simp only [Act.put, zA, zB, zC])))) | ((with_reducible apply wpList_loadPart HO); exact rfl; exact rfl; (repeat (with_reducible (first | exact At.head _ | apply At.tail))); infer_instance; exact (Nat.le_of_ble_eq_true rfl); (simp only [List.drop_succ_cons, List.drop_zero, List.take_succ_cons, List.take_zero]; rfl); exact rfl; (simp only [Act.put, zA, zB, zC])))
        go_ret
        exact ⟨by rw [HQ.out]; rfl, HO.grown⟩
      · go_enter Tryz.func153, Tryz.ntmps153
        go_wp2_with (first | (first | ((with_reducible apply wpList_loadOne HO); exact rfl; exact rfl; (repeat (with_reducible (first | exact At.head _ | apply At.tail))); exact rfl; infer_instance; exact rfl; (simp only [Act.put, zA, zB, zC])) | (((with_reducible apply wpList_boxAgg _ HO rfl); exact rfl; exact rfl; exact rfl; clear HO; intro b0 w HO; (simp only [Act.put, zA, zB, zC])))) | ((with_reducible apply wpList_loadPart HO); exact rfl; exact rfl; (repeat (with_reducible (first | exact At.head _ | apply At.tail))); infer_instance; exact (Nat.le_of_ble_eq_true rfl); (simp only [List.drop_succ_cons, List.drop_zero, List.take_succ_cons, List.take_zero]; rfl); exact rfl; (simp only [Act.put, zA, zB, zC])))
        go_ret
        exact ⟨by rw [HQ.out, beq_dec]; rfl, HO.grown⟩
    · go_enter Tryz.func153, Tryz.ntmps153
      go_wp2_with (first | (first | ((with_reducible apply wpList_loadOne HO); exact rfl; exact rfl; (repeat (with_reducible (first | exact At.head _ | apply At.tail))); exact rfl; infer_instance; exact rfl; (simp only [Act.put, zA, zB, zC])) | (((with_reducible apply wpList_boxAgg _ HO rfl); exact rfl; exact rfl; exact rfl; clear HO; intro b0 w HO; (simp only [Act.put, zA, zB, zC])))) | ((with_reducible apply wpList_loadPart HO); exact rfl; exact rfl; (repeat (with_reducible (first | exact At.head _ | apply At.tail))); infer_instance; exact (Nat.le_of_ble_eq_true rfl); (simp only [List.drop_succ_cons, List.drop_zero, List.take_succ_cons, List.take_zero]; rfl); exact rfl; (simp only [Act.put, zA, zB, zC])) | (go_at_call 172; go_must ((with_reducible refine (S _ HO.grown).mono ?_); rintro e w ⟨rfl, hb⟩; replace HO := HO.call hb; clear hb)))
      go_ret
      exact ⟨by rw [HQ.out]; rfl, HO.grown⟩
    · have HZ := Lib.hid (show z = true by rw [HQ.out]; simp [k1, k2, k3, k4])
      have e1 : (k == 1) = false := by simpa using k1
      have e2 : (k == 2) = false := by simpa using k2
      have e3 : (k == 3) = false := by simpa using k3
      have e4 : (k == 4) = false := by simpa using k4
      clear k1 k2 k3 k4
      go_enter Tryz.func153, Tryz.ntmps153
      go_wp2_with ((first | ((with_reducible apply wpList_loadOne HO); exact rfl; exact rfl; (repeat (with_reducible (first | exact At.head _ | apply At.tail))); exact rfl; infer_instance; exact rfl; (simp only [Act.put, zA, zB, zC])) | (((with_reducible apply wpList_boxAgg _ HO rfl); exact rfl; exact rfl; exact rfl; clear HO; intro b0 w HO; (simp only [Act.put, zA, zB, zC])))))
      go_ret
      exact ⟨by first | (rw [HZ.out]; done) | (rw [HZ.out]; rfl), HO.grown⟩
end Go.Proofs.YtibabfedpdoofaaGreatDoor
namespace Go.Proofs.YtibabfedpdoofaaGreatDoor
open Go.RowKit Go.Own Go.Maps

theorem keyL_len (K : List (Int × Int)) : ∀ x ∈ K.map keyL, x.length = 2 := fun x hx => by
  obtain ⟨y, _, rfl⟩ := List.mem_map.1 hx
  rfl
theorem coAt_H {W w : World} {L : List Ent} {a : CoA} {S : CoS} {i : InA} {A : InS} (h : Own W w L) (hm : ∀ e ∈ coPs a S i A, e ∈ L) : CoAt w a S i A := Own.coAt h (hm _ (.head _)) (hm _ (.tail _ (.head _))) (hm _ (.tail _ (.tail _ (.head _))))
theorem cellH {w : World} {k n c : Nat} {q : Addr} {L : List (List Value)} (h : IsL w k (.slice (some q) n c) L) {j : Nat} (hj : j < L.length) : ∀ i u, L[j][i]? = some u → w.cell? ((q.add (j * k)).add i) = some u := by
  obtain ⟨b, cap, hb, _, _, hR⟩ := h.at (by omega)
  cases hb
  exact fun i u hu => hR.c j hj i u hu
def mdB (b : Nat) (c t : Nat) : Ent := box b (.cells #[.pointer (some ⟨c, 0, none⟩), .pointer (some ⟨t, 0, none⟩), .int .i64 0] 270)

set_option maxHeartbeats 16000000 in
set_option maxRecDepth 100000 in
theorem modOf_any {W : World} {a : CoA} {S : CoS} {i : InA} {A : InS} (h : CoAt W a S i A) (hf : (∃ p n c, i.v0 = .slice p n c) ∧ (∃ p n c, i.v1 = .slice p n c) ∧ (∃ p n c, i.v2 = .slice p n c) ∧ ∃ x, i.m = .map x) (hlen : S.P.length ≤ 100000) (hl : S.L.length ≤ 60) (hid : ∀ x ∈ S.L, inI x.1.id = true) :
    Calls Tryz.prog 182 #[.pointer (some ⟨a.c, 0, none⟩)] W fun e w' => ∃ (b : Nat) (a' : CoA) (t : Nat) (N : List Ent), e = .returned (.pointer (some ⟨b, 0, none⟩)) ∧ Own W w' (mdB b a'.c t :: (coPs a' S i A ++ N)) := by
  have HO := Own.start W
  have CP := fun w (hb : Below W.heap.size W w) => coCopy_any (h.below hb) hf hlen hl
  have AK := Lib.hid (fun (w : World) (a' : CoA) (h : CoAt w a' S i A) => asks_any h hid hl)
  clear h hf hid
  go_enter Tryz.func182, Tryz.ntmps182
  go_wp2_with (first | (go_at_call 37; go_must ((with_reducible refine (CP _ HO.grown).mono ?_); rintro e w ⟨a', rfl, HO1⟩; replace HO := HO.lift HO1; clear HO1; clear CP)) | (go_at_call 195; go_must ((with_reducible refine (wtNew_any _).mono ?_); rintro e w ⟨t, m, rfl, HO1⟩; replace HO := HO.lift HO1; clear HO1)) | (((with_reducible apply wpList_boxAgg _ HO rfl); exact rfl; exact rfl; exact rfl; clear HO; intro b1 w HO; (simp only [Act.put, zA, zB, zC]))) | (go_at_call 196; go_must ((with_reducible refine (AK.out _ a' (coAt_H HO (by intro e he; simp [he]))).mono ?_); rintro e w ⟨v8, K, rfl, hK, hin, HO1⟩; replace HO := HO.lift HO1; clear HO1; clear AK; obtain ⟨⟨p8, c8, rfl⟩, -⟩ := HO.rowForm (v := v8) (.head _); rw [List.length_map] at HO ⊢)))
  replace HO : Own W w (wtPs t m 0 (fun _ => none) ++ (row 29 2 (.slice p8 K.length c8) (K.map keyL) :: mdB b1 a'.c t :: (coPs a' S i A ++ []))) := HO.perm (by classical exact List.perm_iff_count.2 (fun x9 => by simp only [wtPs, mdB, List.count_append, List.count_cons, List.count_nil, Nat.add_zero, Nat.zero_add]; ac_rfl))
  go_loopw [17] (fun iv wr => ∃ (j n : Nat) (f : Lit → Option Value), j ≤ K.length ∧ iv = .int .i64 (j : Int) ∧ n ≤ j ∧ Own W wr (wtPs t m n f ++ (row 29 2 (.slice p8 K.length c8) (K.map keyL) :: mdB b1 a'.c t :: (coPs a' S i A ++ [])))) (fun iv _ => K.length - (intOf iv).toNat)
  case atStart => exact ⟨0, 0, _, by omega, rfl, by omega, HO⟩
  case round =>
    clear HO
    obtain ⟨j, n, f, hj, rfl, hn, HO⟩ := hrel
    by_cases hjl : j < K.length
    · have hjI : (j : Int) < (K.length : Int) := by omega
      obtain ⟨q, rfl⟩ : ∃ q, p8 = some q := by
        have H2 := HO
        unfold wtPs at H2
        simp only [List.cons_append, List.nil_append] at H2
        obtain ⟨q, c', h⟩ := (H2.rowForm (t := 29) (k := 2) (v := .slice p8 K.length c8) (A := K.map keyL) (.tail _ _ _ (.tail _ _ _ (.head _)))).2 (by rw [List.length_map]; omega)
        rw [List.length_map] at h
        cases h
        exact ⟨q, rfl⟩
      have RW := Lib.hid (fun (w' : World) (L' : List Ent) (h1 : Own W w' L') (hm : row 29 2 (.slice (some q) K.length c8) (K.map keyL) ∈ L') => cellH (isL_of_owns (keyL_len K) (h1.has _ hm)) (j := j) (by simpa using hjl))
      simp only [List.getElem_map] at RW
      obtain ⟨hk1, hk2⟩ := hin _ (List.getElem_mem hjl)
      generalize K[j] = kk at *
      obtain ⟨ko, kd⟩ := kk
      simp only [keyL] at hk1 hk2 RW
      go_upto_region 8 with (first | ((with_reducible apply wpList_loadAt HO); exact rfl; exact rfl; exact (fun w' h1 => RW.out w' _ h1 (List.mem_append_right _ (.head _))); infer_instance; exact rfl; exact rfl; (simp only [Act.put, zA, zB, zC])) | (((with_reducible apply wpList_allocAgg _ HO rfl); exact rfl; infer_instance; exact rfl; clear HO; intro b5 w HO; (simp only [Act.put, zA, zB, zC]))) | ((with_reducible apply wpList_storeAll HO); exact rfl; exact rfl; exact rfl; (repeat (with_reducible (exact At.head _))); infer_instance; exact rfl; exact rfl; exact rfl; exact rfl; clear HO; intro w HO; (simp only [Act.put])))
      unfold mdB at HO
      simp only [wtPs, List.cons_append, List.nil_append] at HO
      refine region_sched2 ([box b5 (.cells #[.int .i64 ko, .int .i64 kd] 29), box b1 (.cells #[.pointer (some ⟨a'.c, 0, none⟩), .pointer (some ⟨t, 0, none⟩), .int .i64 0] 270)]) [(0, true), (1, true), (2, true), (3, true), (4, true), (5, false)] HO (by with_reducible (repeat (first | exact List.nil_sublist _ | apply List.Sublist.cons_cons | apply List.Sublist.cons))) (by kernel_rfl) (by kernel_rfl) ?_
      clear HO
      intro w HO
      repeat (first | ((with_reducible apply wpSched_loadOne); exact rfl; exact rfl; exact rfl; (repeat (with_reducible (first | exact At.head _ | apply At.tail))); exact rfl; infer_instance; exact rfl; (simp only [Act.put, zA, zB, zC])) | ((with_reducible apply wpSched_loadAll); exact rfl; exact rfl; exact rfl; (repeat (with_reducible (exact At.head _))); infer_instance; exact rfl; exact rfl; (simp only [Act.put, zA, zB, zC])) | ((with_reducible apply wpSched_pure); exact rfl; exact rfl; (intro w'; go_simp; try with_reducible rfl); (simp only [Act.put, zA, zB, zC])))
      ((with_reducible apply wpSched_loud); exact rfl; go_wp2_with ((go_at_call 197; go_must ((with_reducible refine (due_any (t := t) (m := m) (n := n) (f := f) (M := box b5 (.cells #[.int .i64 ko, .int .i64 kd] 29) :: row 29 2 (.slice (some q) K.length c8) (K.map keyL) :: mdB b1 a'.c t :: (coPs a' S i A ++ [])) (HO.perm (by classical exact List.perm_iff_count.2 (fun x9 => by simp only [wtPs, mdB, List.count_append, List.count_cons, List.count_nil, Nat.add_zero, Nat.zero_add]; ac_rfl))) hk1 hk2 (by omega)).mono ?_); clear HO; rintro e w ⟨rfl, n', f', hn', HO⟩))))
      refine thenQ_free (by kernel_rfl) ?_
      refine wpSched_end ?_
      go_wp2_with fail
      replace HO : Own W w (wtPs t m n' f' ++ (row 29 2 (.slice (some q) K.length c8) (K.map keyL) :: mdB b1 a'.c t :: (coPs a' S i A ++ []))) := (show Own W w (box b5 (.cells #[.int .i64 ko, .int .i64 kd] 29) :: (wtPs t m n' f' ++ (row 29 2 (.slice (some q) K.length c8) (K.map keyL) :: mdB b1 a'.c t :: (coPs a' S i A ++ [])))) from HO.perm (by classical exact List.perm_iff_count.2 (fun x9 => by simp only [wtPs, mdB, List.count_append, List.count_cons, List.count_nil, Nat.add_zero, Nat.zero_add]; ac_rfl))).tail
      go_roundw
      case rel => exact ⟨j + 1, n', f', by omega, by go_num, by omega, HO⟩
      case measure => simp [intOf] <;> omega
    · obtain rfl : j = K.length := by omega
      go_wp2_with fail
      go_ret
      exact ⟨b1, a', t, wtPs t m n f ++ [row 29 2 (.slice p8 K.length c8) (K.map keyL)], rfl, HO.perm (by classical exact List.perm_iff_count.2 (fun x9 => by simp only [wtPs, mdB, coPs, List.count_append, List.count_cons, List.count_nil, Nat.add_zero, Nat.zero_add]; ac_rfl))⟩

set_option maxHeartbeats 4000000 in
set_option maxRecDepth 100000 in
theorem modNone_any {w : World} {b c t : Nat} (h : w.heap[b]? = some (.cells [.pointer (some ⟨c, 0, none⟩), .pointer (some ⟨t, 0, none⟩), .int .i64 0].toArray 270)) : Calls Tryz.prog 198 #[.pointer (some ⟨b, 0, none⟩)] w fun e w' => e = .returned (.bool false) ∧ Below w.heap.size w w' := by
  have HO := Own.start w
  have h0 := old_cell h 0 rfl
  have hlt := old_lt h
  clear h
  go_enter Tryz.func198, Tryz.ntmps198
  go_wp2_with (((with_reducible apply wpList_loadOld1 HO); exact rfl; exact rfl; exact hlt; exact h0; infer_instance; exact rfl; (simp only [Act.put, zA, zB, zC])))
  go_ret
  exact ⟨rfl, HO.grown⟩
def placedE (n : Nat) (o : OrdS) : EntS := { zeroE 1 with id := (n : Int) + 1, ref := o.ref, sku := o.sku, qty := o.qty, amt := o.amt }
set_option maxHeartbeats 8000000 in
set_option maxRecDepth 100000 in
theorem modPlace_any {w : World} {b t : Nat} {a : CoA} {S : CoS} {i : InA} {A : InS} (hb : w.heap[b]? = some (.cells [.pointer (some ⟨a.c, 0, none⟩), .pointer (some ⟨t, 0, none⟩), .int .i64 0].toArray 270)) (h : CoAt w a S i A) (hl : S.L.length ≤ 60) (o : OrdS) :
    Calls Tryz.prog 183 #[.pointer (some ⟨b, 0, none⟩), ordV o] w fun e w' => e = .returned (.agg #[.int .i64 ((placedE S.L.length o)).k, .int .i64 ((placedE S.L.length o)).id, .string ⟨((placedE S.L.length o)).ref.toArray⟩, .string ⟨((placedE S.L.length o)).sku.toArray⟩, .int .i64 ((placedE S.L.length o)).qty, .int .i64 ((placedE S.L.length o)).amt, .int .i64 ((placedE S.L.length o)).o, .int .i64 ((placedE S.L.length o)).d, .int .i64 ((placedE S.L.length o)).c, .int .i64 ((placedE S.L.length o)).p, .int .i64 ((placedE S.L.length o)).q, (.slice none 0 0)]) ∧ Below w.heap.size w w' := by
  have HO := Own.start w
  have OC := Lib.hid (fun (w' : World) (hb : Below w.heap.size w w') => coOrders_any (h.below hb))
  have N := fun (w' : World) (h' : Below w.heap.size w w') => modNone_any (w := w') (b := b) (c := a.c) (t := t) (by rw [h'.block _ (old_lt hb)]; exact hb)
  have h0 := old_cell hb 0 rfl
  have hlt := old_lt hb
  have hln : (S.L.length : Int) ≤ 60 := by omega
  clear h hb
  obtain ⟨oid, oref, osku, oq, oa⟩ := o
  unfold ordV placedE zeroE
  simp only
  go_enter Tryz.func183, Tryz.ntmps183
  go_upto_region 3 with (first | (first | ((with_reducible apply wpList_boxAgg _ HO rfl); exact rfl; exact rfl; exact rfl; clear HO; intro b1 w HO; (simp only [Act.put, zA, zB, zC])) | ((with_reducible apply wpList_allocAgg _ HO rfl); exact rfl; infer_instance; exact rfl; clear HO; intro b1 w HO; (simp only [Act.put, zA, zB, zC]))) | (go_at_call 198; go_must ((with_reducible refine (N _ HO.grown).mono ?_); rintro e w ⟨rfl, hb⟩; replace HO := HO.call hb; clear hb)))
  go_wp2_with (first | (((with_reducible apply wpList_loadAll HO); exact rfl; exact rfl; (repeat (with_reducible (first | exact At.head _ | apply At.tail))); infer_instance; exact rfl; exact rfl; (simp only [Act.put, zA, zB, zC]))) | ((with_reducible apply wpList_storeOne HO); exact rfl; exact rfl; ((simp [Act.eval]; rfl)); exact rfl; (repeat (with_reducible (first | exact At.head _ | apply At.tail))); infer_instance; exact (by simp); (simp only [List.set_cons_zero]; rfl); exact rfl; clear HO; intro w HO; (simp only [Act.put])) | ((with_reducible apply wpList_storeAll HO); exact rfl; exact rfl; exact rfl; (repeat (with_reducible (exact At.head _))); infer_instance; exact rfl; exact rfl; exact rfl; exact rfl; clear HO; intro w HO; (simp only [Act.put])) | ((with_reducible apply wpList_loadOld1 HO); exact rfl; exact rfl; exact hlt; exact h0; infer_instance; exact rfl; (simp only [Act.put, zA, zB, zC])) | (go_at_call 15; go_must ((with_reducible refine (OC.out _ HO.grown).mono ?_); rintro e w ⟨rfl, hb⟩; replace HO := HO.call hb; clear hb)))
  refine bodyPost_ret (results_one HO rfl rfl (by (repeat (with_reducible (exact At.head _)))) inferInstance rfl) rfl ?_
  exact ⟨rfl, HO.grown⟩
end Go.Proofs.YtibabfedpdoofaaGreatDoor
namespace Go.Proofs.YtibabfedpdoofaaGreatDoor
open Go.RowKit Go.Own Go.Maps

def stepC (y : HisI) : List Value := [.int .i64 y.x.k, .int .i64 y.x.o.id, .string ⟨y.x.o.ref.toArray⟩, .string ⟨y.x.o.sku.toArray⟩, .int .i64 y.x.o.qty, .int .i64 y.x.o.amt, .int .i64 y.x.a, .int .i64 y.x.b, .string ⟨y.t.toArray⟩, .slice y.kp y.kn y.kc]
/-- The entry of a line that is a Place, or a Cancel. -/
def entH (n : Nat) (x : HisS) : EntS := if x.k = 2 then { zeroE 2 with o := x.a } else placedE n x.o
theorem md_at {W w : World} {L : List Ent} {b c t : Nat} (h : Own W w L) (hm : mdB b c t ∈ L) : w.heap[b]? = some (.cells [.pointer (some ⟨c, 0, none⟩), .pointer (some ⟨t, 0, none⟩), .int .i64 0].toArray 270) := h.has _ hm
/-- A core in memory, with all that is known of it. -/
structure CoF (W : World) (a : CoA) (S : CoS) (i : InA) (A : InS) : Prop where
  at' : CoAt W a S i A
  f : (∃ p n c, i.v0 = .slice p n c) ∧ (∃ p n c, i.v1 = .slice p n c) ∧ (∃ p n c, i.v2 = .slice p n c) ∧ ∃ x, i.m = .map x
  len : S.P.length ≤ 99000
  l : S.L.length ≤ 60
  id : ∀ x ∈ S.L, inI x.1.id = true
theorem CoF.below {w w' : World} {a : CoA} {S : CoS} {i : InA} {A : InS} (h : CoF w a S i A) (hb : Below w.heap.size w w') : CoF w' a S i A := { h with at' := h.at'.below hb }

set_option maxHeartbeats 16000000 in
set_option maxRecDepth 100000 in
theorem entry_any {W : World} {r n j : Nat} {u : Option Addr} {c : Nat} {a : CoA} {S : CoS} {i : InA} {A : InS} (hr : W.heap[r]? = some (.cells [.slice u n c, .int .i64 (j : Int), .pointer (some ⟨a.c, 0, none⟩)].toArray 203)) (h : CoF W a S i A) (y : HisI) :
    Calls Tryz.prog 168 #[.pointer (some ⟨r, 0, none⟩), .agg (stepC y).toArray] W fun e w' => e = .returned (.agg #[.int .i64 ((entH S.L.length y.x)).k, .int .i64 ((entH S.L.length y.x)).id, .string ⟨((entH S.L.length y.x)).ref.toArray⟩, .string ⟨((entH S.L.length y.x)).sku.toArray⟩, .int .i64 ((entH S.L.length y.x)).qty, .int .i64 ((entH S.L.length y.x)).amt, .int .i64 ((entH S.L.length y.x)).o, .int .i64 ((entH S.L.length y.x)).d, .int .i64 ((entH S.L.length y.x)).c, .int .i64 ((entH S.L.length y.x)).p, .int .i64 ((entH S.L.length y.x)).q, (.slice none 0 0)]) ∧ Below W.heap.size W w' := by
  have HO := Own.start W
  have MO := Lib.hid (fun (w : World) (hb : Below W.heap.size W w) => modOf_any (h.below hb).at' h.f (by have := h.len; omega) h.l h.id)
  have hl := h.l
  have h2 := old_cell hr 2 rfl
  have hlt := old_lt hr
  clear h hr
  obtain ⟨⟨k, ya, yb, ⟨oid, oref, osku, oq, oa⟩, err, id, amt, so, sd⟩, t, kp, kn, kc, r0, r1, r2, dp, dn, dc⟩ := y
  unfold stepC entH
  simp only
  by_cases hk : k = 2
  · subst hk
    rw [if_pos rfl]
    unfold zeroE
    clear MO
    go_enter Tryz.func168, Tryz.ntmps168
    go_wp2_with (first | (((with_reducible apply wpList_loadOne HO); exact rfl; exact rfl; (repeat (with_reducible (first | exact At.head _ | apply At.tail))); exact rfl; infer_instance; exact rfl; (simp only [Act.put, zA, zB, zC]))) | (first | ((with_reducible apply wpList_boxAgg _ HO rfl); exact rfl; exact rfl; exact rfl; clear HO; intro b1 w HO; (simp only [Act.put, zA, zB, zC])) | ((with_reducible apply wpList_allocAgg _ HO rfl); exact rfl; infer_instance; exact rfl; clear HO; intro b1 w HO; (simp only [Act.put, zA, zB, zC]))) | ((with_reducible apply wpList_storeAll HO); exact rfl; exact rfl; exact rfl; (repeat (with_reducible (exact At.head _))); infer_instance; exact rfl; exact rfl; exact rfl; exact rfl; clear HO; intro w HO; (simp only [Act.put])))
    refine bodyPost_ret (results_one HO rfl rfl (by (repeat (with_reducible (exact At.head _)))) inferInstance rfl) rfl ?_
    exact ⟨rfl, HO.grown⟩
  · rw [if_neg hk]
    have hk2 : (k == 2) = false := by simpa using hk
    clear hk
    have PL := Lib.hid (fun (w : World) (b t' : Nat) (a' : CoA) (hb : w.heap[b]? = some (.cells [.pointer (some ⟨a'.c, 0, none⟩), .pointer (some ⟨t', 0, none⟩), .int .i64 0].toArray 270)) (h : CoAt w a' S i A) => modPlace_any hb h hl ⟨oid, oref, osku, oq, oa⟩)
    unfold ordV at PL
    simp only at PL
    go_enter Tryz.func168, Tryz.ntmps168
    go_upto_region 3 with (first | (((with_reducible apply wpList_loadOne HO); exact rfl; exact rfl; (repeat (with_reducible (first | exact At.head _ | apply At.tail))); exact rfl; infer_instance; exact rfl; (simp only [Act.put, zA, zB, zC]))) | ((have _h : Own W _ (box _ _ :: _) := HO); clear _h; (((with_reducible apply wpList_allocAgg _ HO rfl); exact rfl; infer_instance; exact rfl; clear HO; intro b4 w HO; (simp only [Act.put, zA, zB, zC])))) | (((with_reducible apply wpList_boxAgg _ HO rfl); exact rfl; exact rfl; exact rfl; clear HO; intro b3 w HO; (simp only [Act.put, zA, zB, zC]))))
    have K2 := Lib.hid (fun (w' : World) (hb : Below W.heap.size W w') => show w'.cell? ⟨r, 2, none⟩ = some (.pointer (some ⟨a.c, 0, none⟩)) by
      rw [hb.cell (p := ⟨r, 2, none⟩) hlt]; exact h2)
    have KB := Lib.hid (fun (w' : World) (hF : (box b3 (.cells [.int .i64 k, .int .i64 oid, .string ⟨oref.toArray⟩, .string ⟨osku.toArray⟩, .int .i64 oq, .int .i64 oa, .int .i64 ya, .int .i64 yb, .string ⟨t.toArray⟩, .slice kp kn kc].toArray 116)).F w') => show ∀ (j : Nat) (u : Value), [Value.int .i64 oid, .string ⟨oref.toArray⟩, .string ⟨osku.toArray⟩, .int .i64 oq, .int .i64 oa][j]? = some u → w'.cell? ((⟨b3, 1, none⟩ : Addr).add j) = some u from fun j u hu => by
      rw [addAt]
      have hj : j < 5 := (List.getElem?_eq_some_iff.1 hu).1
      refine old_cell (cs := [Value.int .i64 k, .int .i64 oid, .string ⟨oref.toArray⟩, .string ⟨osku.toArray⟩, .int .i64 oq, .int .i64 oa, .int .i64 ya, .int .i64 yb, .string ⟨t.toArray⟩, .slice kp kn kc]) hF (1 + j) ?_
      rw [Nat.add_comm, List.getElem?_cons_succ]
      match j, hj, hu with
      | 0, _, hu => exact hu
      | 1, _, hu => exact hu
      | 2, _, hu => exact hu
      | 3, _, hu => exact hu
      | 4, _, hu => exact hu)
    refine region_schedO ([box b3 (.cells #[.int .i64 k, .int .i64 oid, .string ⟨oref.toArray⟩, .string ⟨osku.toArray⟩, .int .i64 oq, .int .i64 oa, .int .i64 ya, .int .i64 yb, .string ⟨t.toArray⟩, .slice kp kn kc] 116)]) [(0, true), (1, true), (2, true), (3, true), (5, true), (6, true), (4, false), (7, false), (8, false)] HO (by with_reducible (repeat (first | exact List.nil_sublist _ | apply List.Sublist.cons_cons | apply List.Sublist.cons))) (by kernel_rfl) (by kernel_rfl) ?_
    clear HO
    intro w HO
    repeat (first | ((with_reducible apply wpHeld_loadAt1); exact rfl; exact rfl; exact rfl; exact (fun w' hw => K2.out w' (hw _ List.mem_cons_self)); infer_instance; exact rfl; (simp only [Act.put, zA, zB, zC])) | ((with_reducible apply wpHeld_loadAt); exact rfl; exact rfl; exact rfl; exact (fun w' hw => KB.out w' (hw _ (.tail _ List.mem_cons_self))); infer_instance; exact rfl; exact rfl; (simp only [Act.put, zA, zB, zC])) | ((with_reducible apply wpHeld_pure); exact rfl; exact rfl; (intro w'; go_simp; try with_reducible rfl); (simp only [Act.put, zA, zB, zC])))
    ((with_reducible apply wpHeld_loud); exact rfl; go_wp2_with ((go_at_call 182; go_must ((with_reducible refine (MO.out _ HO.grown).mono ?_); rintro e w ⟨b5, a', t', N, rfl, HO1⟩; replace HO := HO.lift HO1; clear HO1))))
    replace HO : Own W w (box b4 _ :: box b3 _ :: (mdB b5 a'.c t' :: (coPs a' S i A ++ N))) := HO.perm (by classical exact List.perm_iff_count.2 (fun x9 => by simp only [mdB, coPs, List.count_append, List.count_cons, List.count_nil, Nat.zero_add]; ac_rfl))
    refine ⟨HO.heldO (by with_reducible (repeat (first | exact List.nil_sublist _ | apply List.Sublist.cons_cons | apply List.Sublist.cons))), ?_⟩
    repeat (fail)
    ((with_reducible apply wpHeld_loud); exact rfl; go_wp2_with ((go_at_call 183; go_must ((with_reducible refine (PL.out _ b5 t' a' (md_at HO (by simp)) (coAt_H HO (by intro e he; simp [he]))).mono ?_); rintro e w ⟨rfl, hb⟩; replace HO := HO.call hb; clear hb))))
    refine ⟨HO.heldO (by with_reducible (repeat (first | exact List.nil_sublist _ | apply List.Sublist.cons_cons | apply List.Sublist.cons))), ?_⟩
    repeat (fail)
    ((with_reducible apply wpHeld_loud); exact rfl; ((with_reducible apply wpList_storeAll HO); exact rfl; exact rfl; exact rfl; (repeat (with_reducible (exact At.head _))); infer_instance; exact rfl; exact rfl; exact rfl; exact rfl; clear HO; intro w HO; (simp only [Act.put])))
    refine wpList_nil ⟨HO.heldO (by with_reducible (repeat (first | exact List.nil_sublist _ | apply List.Sublist.cons_cons | apply List.Sublist.cons))), ?_⟩
    refine wpHeld_end ?_
    go_wp2_with fail
    refine bodyPost_ret (results_one HO rfl rfl (by (repeat (with_reducible (exact At.head _)))) inferInstance rfl) rfl ?_
    exact ⟨rfl, HO.grown⟩
end Go.Proofs.YtibabfedpdoofaaGreatDoor
namespace Go.Proofs.YtibabfedpdoofaaGreatDoor
open Go.RowKit Go.Own Go.Maps

set_option maxHeartbeats 16000000 in
set_option maxRecDepth 100000 in
theorem coApp12_any {W w : World} {M : List Ent} {a : CoA} {S : CoS} {i : InA} {A : InS} {vp : Option Addr} {vn vc : Nat} (x : EntS) (hk : x.k = 1 ∨ x.k = 2) (HO : Own W w (coPs a S i A ++ M)) (hl : S.L.length ≤ 60) (h1 : x.ref.length ≤ maxLen) (h2 : x.sku.length ≤ maxLen) (ho : inI x.o = true) :
    Calls Tryz.prog 27 #[.pointer (some ⟨a.c, 0, none⟩), .agg #[.int .i64 (x).k, .int .i64 (x).id, .string ⟨(x).ref.toArray⟩, .string ⟨(x).sku.toArray⟩, .int .i64 (x).qty, .int .i64 (x).amt, .int .i64 (x).o, .int .i64 (x).d, .int .i64 (x).c, .int .i64 (x).p, .int .i64 (x).q, (.slice vp vn vc)]] w fun e w' => e = .returned (.int .i64 (applyE S A x)) ∧ ∃ v', Own W w' (coPs { a with v := v' } (applyS S A x) i A ++ M) := by
  have hpm := fun (Z x y z : Ent) (N : List Ent) => (List.perm_append_comm (l₁ := [Z]) (l₂ := [x, y, z])).append_right N
  have NN := fun (Z : Ent) (w : World) (h : Own W w (Z :: (coPs a S i A ++ M))) => coNone_any (Own.coAt h (a := a) (S := S) (i := i) (A := A) (by repeat (first | exact List.mem_cons_self | apply List.mem_cons_of_mem)) (by repeat (first | exact List.mem_cons_self | apply List.mem_cons_of_mem)) (by repeat (first | exact List.mem_cons_self | apply List.mem_cons_of_mem)))
  have PL : ∀ (Z : Ent) (w : World), Own W w (Z :: (coPs a S i A ++ M)) → Calls Tryz.prog 79 #[.pointer (some ⟨a.c, 0, none⟩), .agg #[.int .i64 x.id, .string ⟨x.ref.toArray⟩, .string ⟨x.sku.toArray⟩, .int .i64 x.qty, .int .i64 x.amt]] w fun e w' => e = .returned (.int .i64 (placeE S.L x.ord)) ∧ ∃ v', Own W w' (coPs { a with v := v' } { S with L := placeL S.L x.ord } i A ++ (Z :: M)) :=
    fun Z w h => coPlace_any x.ord (M := Z :: M) (h.perm (hpm _ _ _ _ _)) hl h1 h2
  have ST := fun (Z : Ent) (w : World) (h : Own W w (Z :: (coPs a S i A ++ M))) => coStop_any x.o (M := Z :: M) (h.perm (hpm _ _ _ _ _)) ho
  clear hpm
  rcases hk with hk | hk
  · rw [show applyE S A x = placeE S.L x.ord by unfold applyE; rw [if_pos hk]]
    rw [show applyS S A x = { S with L := placeL S.L x.ord } by unfold applyS; rw [if_pos hk]]
    clear ST
    go_enter Tryz.func27, Tryz.ntmps27
    go_wp2_with (first | (((with_reducible apply wpList_loadOne HO); exact rfl; exact rfl; (repeat (with_reducible (exact At.head _))); exact rfl; infer_instance; exact rfl; (simp only [Act.put, zA, zB, zC]))) | (((with_reducible apply wpList_boxAgg _ HO rfl); exact rfl; exact rfl; exact rfl; clear HO; intro b1 w HO; (simp only [Act.put, zA, zB, zC]))) | ((with_reducible apply wpList_loadPart HO); exact rfl; exact rfl; (repeat (with_reducible (exact At.head _))); infer_instance; exact (Nat.le_of_ble_eq_true rfl); (simp only [List.drop_succ_cons, List.drop_zero, List.take_succ_cons, List.take_zero]; rfl); exact rfl; (simp only [Act.put, zA, zB, zC])) | (go_at_call 66; go_must ((with_reducible refine (NN _ _ HO).mono ?_); rintro e w ⟨rfl, hb⟩; replace HO := HO.call hb; clear hb)) | (go_at_call 79; go_must ((with_reducible refine (PL _ _ HO).mono ?_); clear HO; rintro e w ⟨rfl, v', HO⟩)))
    go_ret
    exact ⟨rfl, v', HO.sub (by exact .cons_cons _ (.cons_cons _ (.cons_cons _ (.cons _ (List.Sublist.refl _)))))⟩
  · rw [show applyE S A x = stopE S.L x.o by unfold applyE; rw [if_neg (by omega), if_pos hk]]
    rw [show applyS S A x = { S with L := stopL S.L x.o } by unfold applyS; rw [if_neg (by omega), if_pos hk]]
    clear PL
    go_enter Tryz.func27, Tryz.ntmps27
    go_wp2_with (first | (((with_reducible apply wpList_loadOne HO); exact rfl; exact rfl; (repeat (with_reducible (exact At.head _))); exact rfl; infer_instance; exact rfl; (simp only [Act.put, zA, zB, zC]))) | (((with_reducible apply wpList_boxAgg _ HO rfl); exact rfl; exact rfl; exact rfl; clear HO; intro b1 w HO; (simp only [Act.put, zA, zB, zC]))) | (go_at_call 66; go_must ((with_reducible refine (NN _ _ HO).mono ?_); rintro e w ⟨rfl, hb⟩; replace HO := HO.call hb; clear hb)) | (go_at_call 80; go_must ((with_reducible refine (ST _ _ HO).mono ?_); clear HO; rintro e w ⟨rfl, HO⟩)))
    go_ret
    exact ⟨rfl, a.v, HO.sub (by exact .cons_cons _ (.cons_cons _ (.cons_cons _ (.cons _ (List.Sublist.refl _)))))⟩
end Go.Proofs.YtibabfedpdoofaaGreatDoor
namespace Go.Proofs.YtibabfedpdoofaaGreatDoor
open Go.RowKit Go.Own Go.Maps

def rpB (r : Nat) (u : Option Addr) (n c j k : Nat) : Ent := box r (.cells #[.slice u n c, .int .i64 (j : Int), .pointer (some ⟨k, 0, none⟩)] 203)

set_option maxHeartbeats 16000000 in
set_option maxRecDepth 100000 in
theorem nextEnd_any {W w : World} {M : List Ent} {r n c k : Nat} {u : Option Addr} (HO : Own W w (rpB r u n c n k :: M)) : Calls Tryz.prog 149 #[.pointer (some ⟨r, 0, none⟩)] w fun e w' => e = .returned (.bool false) ∧ Own W w' (rpB r u n c n k :: M) := by
  unfold rpB at HO ⊢
  go_enter Tryz.func149, Tryz.ntmps149
  go_upto_region 1 with fail
  refine region_sched ([box r (.cells #[.slice u n c, .int .i64 (n : Int), .pointer (some ⟨k, 0, none⟩)] 203)]) [(0, true), (1, true), (2, true), (3, true), (4, true), (5, true), (6, true), (7, true), (8, true), (9, true)] HO (by with_reducible (repeat (first | exact List.nil_sublist _ | apply List.Sublist.cons_cons))) (by kernel_rfl) (by kernel_rfl) ?_
  clear HO
  intro w HO
  repeat (first | ((with_reducible apply wpHeld_loadOne); exact rfl; exact rfl; exact rfl; (repeat (with_reducible (exact At.head _))); exact rfl; infer_instance; exact rfl; (simp only [Act.put, zA, zB, zC])) | ((with_reducible apply wpHeld_pure); exact rfl; exact rfl; (intro w'; go_simp; try with_reducible rfl); (simp only [Act.put, zA, zB, zC])))
  refine wpHeld_end ?_
  go_wp2_with fail
  go_ret
  exact ⟨rfl, HO⟩

set_option maxHeartbeats 16000000 in
set_option maxRecDepth 100000 in
theorem next_any' {W w : World} {M : List Ent} {r c j : Nat} {u : Option Addr} {es : List EntI} {a : CoA} {S : CoS} {i : InA} {A : InS} (hE : IsEnts W (.slice u es.length c) es) (hj : j < es.length) (hle : es.length ≤ 1000)
    (HO : Own W w (rpB r u es.length c j a.c :: (coPs a S i A ++ (inPs i A ++ M)))) (hA : InOk A) (hok : CoOk S) (hlen : S.P.length ≤ 99000) (hL : LaidE W) :
    Calls Tryz.prog 149 #[.pointer (some ⟨r, 0, none⟩)] w fun e w' => e = .returned (.bool true) ∧ ∃ u' v' i', Own W w' (rpB r u es.length c (j + 1) a.c :: (coPs { a with u := u', v := v' } (applyS S A es[j].x) i' (applyI A es[j].x) ++ (inPs i' (applyI A es[j].x) ++ M))) := by
  have hent := fun M => hE.ent (List.getElem_mem hj) M
  obtain ⟨q, rfl, hst⟩ := oldAt hE.l rfl (by simpa using hj)
  have AP := Lib.hid (fun (w : World) (h : Own W w (rpB r (some q) es.length c j a.c :: (coPs a S i A ++ (inPs i A ++ M)))) => coApply_any (M := rpB r (some q) es.length c j a.c :: M) es[j].x (h.perm (by have h7 := fun (Z a b c d e f g : Ent) (N : List Ent) => (List.perm_append_comm (l₁ := [Z]) (l₂ := [a, b, c, d, e, f, g])).append_right N; exact h7 _ _ _ _ _ _ _ _ _)) (hent _) hA hok hlen hL)
  generalize applyE S A es[j].x = e0 at *
  generalize applyS S A es[j].x = S1 at *
  generalize applyI A es[j].x = A1 at *
  generalize es[j] = y at *
  generalize hn : es.length = n at *
  have hjI : (j : Int) < (n : Int) := by omega
  have hne : ((j : Int) == (n : Int)) = false := by rw [beq_eq_false_iff_ne]; omega
  replace hst := Lib.hid hst
  clear hE hent hj hA hok hlen
  obtain ⟨⟨x1, x2, x3, x4, x5, x6, x7, x8, x9, x10, x11, x12⟩, yv⟩ := y
  unfold entC at hst
  simp only at hst AP
  unfold rpB at HO AP ⊢
  go_enter Tryz.func149, Tryz.ntmps149
  go_upto_region 1 with fail
  refine region_sched ([box r (.cells #[.slice (some q) n c, .int .i64 (j : Int), .pointer (some ⟨a.c, 0, none⟩)] 203)]) [(0, true), (1, true), (2, true), (3, true), (4, true), (5, true), (6, true), (7, true), (8, true), (9, true)] HO (by with_reducible (repeat (first | exact List.nil_sublist _ | apply List.Sublist.cons_cons))) (by kernel_rfl) (by kernel_rfl) ?_
  clear HO
  intro w HO
  repeat (first | ((with_reducible apply wpHeld_loadOne); exact rfl; exact rfl; exact rfl; (repeat (with_reducible (exact At.head _))); exact rfl; infer_instance; exact rfl; (simp only [Act.put, zA, zB, zC])) | ((with_reducible apply wpHeld_pure); exact rfl; exact rfl; (intro w'; go_simp; try with_reducible rfl); (simp only [Act.put, zA, zB, zC])))
  refine wpHeld_end ?_
  go_upto_region 3 with fail
  refine region_schedO ([box r (.cells #[.slice (some q) n c, .int .i64 (j : Int), .pointer (some ⟨a.c, 0, none⟩)] 203)]) [(0, true), (1, true), (2, true), (3, true), (4, true), (5, true), (6, true), (7, true), (8, true), (9, true), (10, true), (11, true), (12, true), (13, true), (14, false)] HO (by with_reducible (repeat (first | exact List.nil_sublist _ | apply List.Sublist.cons_cons))) (by kernel_rfl) (by kernel_rfl) ?_
  clear HO
  intro w HO
  repeat (first | ((with_reducible apply wpHeld_loadOne); exact rfl; exact rfl; exact rfl; (repeat (with_reducible (first | exact At.head _ | apply At.tail))); exact rfl; infer_instance; exact rfl; (simp only [Act.put, zA, zB, zC])) | ((with_reducible apply wpHeld_loadAt); exact rfl; exact rfl; exact rfl; exact (fun w' hw => hst.out w' (hw _ List.mem_cons_self)); infer_instance; exact rfl; exact rfl; (simp only [Act.put, zA, zB, zC])) | ((with_reducible apply wpHeld_pure); exact rfl; exact rfl; (intro w'; go_simp; try with_reducible rfl); (simp only [Act.put, zA, zB, zC])))
  ((with_reducible apply wpHeld_loud); exact rfl; go_wp2_with ((go_at_call 27; go_must ((with_reducible refine (AP.out _ HO).mono ?_); clear HO; rintro e w ⟨rfl, u', v', i', -, HO⟩))))
  replace HO : Own W w (box r (.cells #[.slice (some q) n c, .int .i64 (j : Int), .pointer (some ⟨a.c, 0, none⟩)] 203) :: (coPs { a with u := u', v := v' } S1 i' A1 ++ (inPs i' A1 ++ M))) := HO.perm (by have h7 := fun (Z a b c d e f g : Ent) (N : List Ent) => (List.perm_append_comm (l₁ := [Z]) (l₂ := [a, b, c, d, e, f, g])).append_right N; exact (h7 _ _ _ _ _ _ _ _ _).symm)
  refine ⟨HO.heldO (by with_reducible (repeat (first | exact List.nil_sublist _ | apply List.Sublist.cons_cons))), ?_⟩
  refine wpHeld_end ?_
  go_wp2_with (first | (((with_reducible apply wpList_loadOne HO); exact rfl; exact rfl; (repeat (with_reducible (exact At.head _))); exact rfl; infer_instance; exact rfl; (simp only [Act.put, zA, zB, zC]))) | ((with_reducible apply wpList_storeOne HO); exact rfl; exact rfl; ((simp [Act.eval]; rfl)); exact rfl; (repeat (with_reducible (exact At.head _))); infer_instance; exact (by simp); (simp only [List.set_cons_succ, List.set_cons_zero]; rfl); exact rfl; clear HO; intro w HO; (simp only [Act.put])))
  go_ret
  exact ⟨rfl, u', v', i', HO⟩
end Go.Proofs.YtibabfedpdoofaaGreatDoor
namespace Go.Proofs.YtibabfedpdoofaaGreatDoor
open Go.RowKit Go.Own Go.Maps

def zeroO : OrdS := ⟨0, [], [], 0, 0⟩
def zeroD : D6 := ⟨0, 0, 0, 0, 0, 0, false⟩
def lookH (S : CoS) (a : Int) : OrdS × D6 × Int := match ordAt S.L a with
  | some y => (y.1, y.2, 0)
  | none => (zeroO, zeroD, 4)
theorem ordR_look (S : CoS) (a : Int) : ordR (ordAt S.L a) = .tuple #[.agg (sagaL ((lookH S a).1, (lookH S a).2.1)).toArray, .int .i64 (lookH S a).2.2] := by
  unfold lookH
  rcases ordAt S.L a with _ | y <;> rfl
/-- Whether a line that changes nothing is told so. -/
def toldH (S : CoS) (A : InS) (x : HisS) : Bool :=
  if x.k = 3 then (x.err == (lookH S x.a).2.2) && sagaEqH x.so x.sd (lookH S x.a).1 (lookH S x.a).2.1
  else if x.k = 4 then (x.err == 0) && (x.amt == bal S.P x.a x.b)
  else (x.id == 0) && (applyE S A (entH S.L.length x) == x.err)

set_option maxHeartbeats 16000000 in
set_option maxRecDepth 100000 in
theorem toldLook_any {W : World} {r n c j : Nat} {u : Option Addr} {a : CoA} {S : CoS} {i : InA} {A : InS} (hr : W.heap[r]? = some (.cells [.slice u n c, .int .i64 (j : Int), .pointer (some ⟨a.c, 0, none⟩)].toArray 203)) (h : CoF W a S i A) (y : HisI) (hk : y.x.k = 3) (hxa : inI y.x.a = true) :
    Calls Tryz.prog 150 #[.pointer (some ⟨r, 0, none⟩), .agg (hisC y).toArray] W fun e w' => e = .returned (.bool (toldH S A y.x)) ∧ Below W.heap.size W w' := by
  have HO := Own.start W
  have OR := Lib.hid (fun (w : World) (hb : Below W.heap.size W w) => ordR_look S y.x.a ▸ coOrder_any (h.below hb).at' hxa)
  rw [show toldH S A y.x = ((y.x.err == (lookH S y.x.a).2.2) && sagaEqH y.x.so y.x.sd (lookH S y.x.a).1 (lookH S y.x.a).2.1) by unfold toldH; rw [if_pos hk]]
  have h2 := old_cell hr 2 rfl
  have hlt := old_lt hr
  clear h hr hxa
  obtain ⟨⟨k, ya, yb, ⟨oid, oref, osku, oq, oa⟩, err, id, amt, so, sd⟩, t, kp, kn, kc, r0, r1, r2, dp, dn, dc⟩ := y
  simp only at hk OR
  subst hk
  have RQ := fun w => run_sagaP_eql so (lookH S ya).1 sd (lookH S ya).2.1 w
  simp only at RQ ⊢
  generalize sagaEqH so sd (lookH S ya).1 (lookH S ya).2.1 = B at *
  generalize lookH S ya = lk at *
  obtain ⟨lo, ld, le⟩ := lk
  unfold hisC
  simp only [sagaL] at OR RQ ⊢
  have K2 := Lib.hid (fun (w' : World) (hb : Below W.heap.size W w') => show w'.cell? ⟨r, 2, none⟩ = some (.pointer (some ⟨a.c, 0, none⟩)) by
    rw [hb.cell (p := ⟨r, 2, none⟩) hlt]; exact h2)
  go_enter Tryz.func150, Tryz.ntmps150
  go_upto_region 4 with (first | (((with_reducible apply wpList_loadOne HO); exact rfl; exact rfl; (repeat (with_reducible (first | exact At.head _ | apply At.tail))); exact rfl; infer_instance; exact rfl; (simp only [Act.put, zA, zB, zC]))) | ((have _h : Own W _ (box _ _ :: _) := HO); clear _h; (((with_reducible apply wpList_allocAgg _ HO rfl); exact rfl; infer_instance; exact rfl; clear HO; intro b4 w HO; (simp only [Act.put, zA, zB, zC])))) | (((with_reducible apply wpList_boxAgg _ HO rfl); exact rfl; exact rfl; exact rfl; clear HO; intro b3 w HO; (simp only [Act.put, zA, zB, zC]))) | ((with_reducible apply wpList_storeAll HO); exact rfl; exact rfl; exact rfl; (repeat (with_reducible (exact At.head _))); infer_instance; exact rfl; exact rfl; exact rfl; exact rfl; clear HO; intro w HO; (simp only [Act.put])) | ((with_reducible apply wpList_loadPart HO); exact rfl; exact rfl; (repeat (with_reducible (exact At.head _))); infer_instance; exact (Nat.le_of_ble_eq_true rfl); (simp only [List.drop_succ_cons, List.drop_zero, List.take_succ_cons, List.take_zero]; rfl); exact rfl; (simp only [Act.put, zA, zB, zC])))
  refine region_treeO ([box b3 (.cells #[.int .i64 3, .int .i64 oid, .string ⟨oref.toArray⟩, .string ⟨osku.toArray⟩, .int .i64 oq, .int .i64 oa, .int .i64 ya, .int .i64 yb, .string ⟨t.toArray⟩, .slice kp kn kc, .int .i64 err, .int .i64 r0, .int .i64 r1, .int .i64 r2, .int .i64 id, .int .i64 amt, .int .i64 so.id, .string ⟨so.ref.toArray⟩, .string ⟨so.sku.toArray⟩, .int .i64 so.qty, .int .i64 so.amt, .int .i64 sd.a, .int .i64 sd.b, .int .i64 sd.c, .int .i64 sd.d, .int .i64 sd.e, .int .i64 sd.f, .bool sd.x, .slice dp dn dc] 123)]) [(0, true), (1, true), (2, true), (3, true), (4, true), (5, true), (6, true), (7, false), (8, true), (9, true), (10, true), (11, false), (12, false), (13, true)] (.fork [(0, true), (1, true), (2, true), (3, true), (4, true), (5, true), (6, true)] 7 11 (.fin [(8, true), (9, true), (10, true), (11, false), (12, false), (13, true)]) (.fin [(7, false), (8, true), (9, true), (10, true), (12, false), (13, true)])) HO (by with_reducible (repeat (first | exact List.nil_sublist _ | apply List.Sublist.cons_cons | apply List.Sublist.cons))) (by kernel_rfl) (by kernel_rfl) ?_
  clear HO
  intro w HO
  refine wpS_fork ?_
  repeat (first | ((with_reducible apply wpSched_loadAt1); exact rfl; exact rfl; exact rfl; exact (fun w' hw => K2.out w' (hw _ List.mem_cons_self)); infer_instance; exact rfl; (simp only [Act.put, zA, zB, zC])) | ((with_reducible apply wpSched_loadOne); exact rfl; exact rfl; exact rfl; (repeat (with_reducible (first | exact At.head _ | apply At.tail))); exact rfl; infer_instance; exact rfl; (simp only [Act.put, zA, zB, zC])) | ((with_reducible apply wpSched_pure); exact rfl; exact rfl; (intro w'; go_simp; try with_reducible rfl); (simp only [Act.put, zA, zB, zC])))
  refine fork_end rfl rfl ?_ ?_
  · go_wp2_with ((go_at_call 36; go_must ((with_reducible refine (OR.out _ HO.grown).mono ?_); rintro e w ⟨rfl, hb⟩; replace HO := HO.call hb; clear hb)))
    refine thenQ_keep (HO.heldO (by with_reducible (repeat (first | exact List.nil_sublist _ | apply List.Sublist.cons_cons | apply List.Sublist.cons)))) ?_
    refine wpS_fin ?_
    repeat ((with_reducible apply wpSched_pure); exact rfl; exact rfl; (intro w'; go_simp; try with_reducible rfl); (simp only [Act.put, zA, zB, zC]))
    ((with_reducible apply wpSched_loud); exact rfl; (((with_reducible apply wpList_allocAgg _ HO rfl); exact rfl; infer_instance; exact rfl; clear HO; intro b6 w HO; (simp only [Act.put, zA, zB, zC]))))
    refine wpList_nil (thenQ_keep (HO.heldO (by with_reducible (repeat (first | exact List.nil_sublist _ | apply List.Sublist.cons_cons | apply List.Sublist.cons)))) ?_)
    ((with_reducible apply wpSched_loud); exact rfl; ((with_reducible apply wpList_storeAll HO); exact rfl; exact rfl; exact rfl; (repeat (with_reducible (exact At.head _))); infer_instance; exact rfl; exact rfl; exact rfl; exact rfl; clear HO; intro w HO; (simp only [Act.put])))
    refine wpList_nil (thenQ_keep (HO.heldO (by with_reducible (repeat (first | exact List.nil_sublist _ | apply List.Sublist.cons_cons | apply List.Sublist.cons)))) ?_)
    repeat ((with_reducible apply wpSched_pure); exact rfl; exact rfl; (intro w'; go_simp; try with_reducible rfl); (simp only [Act.put, zA, zB, zC]))
    refine wpSched_end ?_
    cases he : (err == le)
    · go_wp2_with (first | go_big_skip | (((with_reducible apply wpList_loadOne HO); exact rfl; exact rfl; (repeat (with_reducible (first | exact At.head _ | apply At.tail))); exact rfl; infer_instance; exact rfl; (simp only [Act.put, zA, zB, zC]))))
      go_ret
      exact ⟨by simp [he], HO.grown⟩
    · cases B
      · go_wp2_with (first | (first | ((with_reducible apply wpList_loadAll HO); exact rfl; exact rfl; (repeat (with_reducible (first | exact At.head _ | apply At.tail))); infer_instance; exact rfl; exact rfl; (simp only [Act.put, zA, zB, zC])) | ((with_reducible apply wpList_loadOne HO); exact rfl; exact rfl; (repeat (with_reducible (first | exact At.head _ | apply At.tail))); exact rfl; infer_instance; exact rfl; (simp only [Act.put, zA, zB, zC]))) | ((with_reducible apply wpList_loadPart HO); exact rfl; exact rfl; (repeat (with_reducible (first | exact At.head _ | apply At.tail))); infer_instance; exact (Nat.le_of_ble_eq_true rfl); (simp only [List.drop_succ_cons, List.drop_zero, List.take_succ_cons, List.take_zero]; rfl); exact rfl; (simp only [Act.put, zA, zB, zC])))
        go_ret
        exact ⟨by simp [he], HO.grown⟩
      · go_wp2_with (first | (first | ((with_reducible apply wpList_loadAll HO); exact rfl; exact rfl; (repeat (with_reducible (first | exact At.head _ | apply At.tail))); infer_instance; exact rfl; exact rfl; (simp only [Act.put, zA, zB, zC])) | ((with_reducible apply wpList_loadOne HO); exact rfl; exact rfl; (repeat (with_reducible (first | exact At.head _ | apply At.tail))); exact rfl; infer_instance; exact rfl; (simp only [Act.put, zA, zB, zC]))) | ((with_reducible apply wpList_loadPart HO); exact rfl; exact rfl; (repeat (with_reducible (first | exact At.head _ | apply At.tail))); infer_instance; exact (Nat.le_of_ble_eq_true rfl); (simp only [List.drop_succ_cons, List.drop_zero, List.take_succ_cons, List.take_zero]; rfl); exact rfl; (simp only [Act.put, zA, zB, zC])))
        go_ret
        exact ⟨by simp [he], HO.grown⟩
  · (((with_reducible apply wpList_allocAgg _ HO rfl); exact rfl; infer_instance; exact rfl; clear HO; intro b6 w HO; (simp only [Act.put, zA, zB, zC])))
    refine wpList_nil (thenQ_keep (HO.heldO (by with_reducible (repeat (first | exact List.nil_sublist _ | apply List.Sublist.cons_cons | apply List.Sublist.cons)))) ?_)
    refine wpS_fin ?_
    ((with_reducible apply wpSched_loud); exact rfl; go_wp2_with ((go_at_call 36; go_must ((with_reducible refine (OR.out _ HO.grown).mono ?_); rintro e w ⟨rfl, hb⟩; replace HO := HO.call hb; clear hb))))
    refine thenQ_keep (HO.heldO (by with_reducible (repeat (first | exact List.nil_sublist _ | apply List.Sublist.cons_cons | apply List.Sublist.cons)))) ?_
    repeat ((with_reducible apply wpSched_pure); exact rfl; exact rfl; (intro w'; go_simp; try with_reducible rfl); (simp only [Act.put, zA, zB, zC]))
    ((with_reducible apply wpSched_loud); exact rfl; ((with_reducible apply wpList_storeAll HO); exact rfl; exact rfl; exact rfl; (repeat (with_reducible (exact At.head _))); infer_instance; exact rfl; exact rfl; exact rfl; exact rfl; clear HO; intro w HO; (simp only [Act.put])))
    refine wpList_nil (thenQ_keep (HO.heldO (by with_reducible (repeat (first | exact List.nil_sublist _ | apply List.Sublist.cons_cons | apply List.Sublist.cons)))) ?_)
    repeat ((with_reducible apply wpSched_pure); exact rfl; exact rfl; (intro w'; go_simp; try with_reducible rfl); (simp only [Act.put, zA, zB, zC]))
    refine wpSched_end ?_
    cases he : (err == le)
    · go_wp2_with (first | go_big_skip | (((with_reducible apply wpList_loadOne HO); exact rfl; exact rfl; (repeat (with_reducible (first | exact At.head _ | apply At.tail))); exact rfl; infer_instance; exact rfl; (simp only [Act.put, zA, zB, zC]))))
      go_ret
      exact ⟨by simp [he], HO.grown⟩
    · cases B
      · go_wp2_with (first | (first | ((with_reducible apply wpList_loadAll HO); exact rfl; exact rfl; (repeat (with_reducible (first | exact At.head _ | apply At.tail))); infer_instance; exact rfl; exact rfl; (simp only [Act.put, zA, zB, zC])) | ((with_reducible apply wpList_loadOne HO); exact rfl; exact rfl; (repeat (with_reducible (first | exact At.head _ | apply At.tail))); exact rfl; infer_instance; exact rfl; (simp only [Act.put, zA, zB, zC]))) | ((with_reducible apply wpList_loadPart HO); exact rfl; exact rfl; (repeat (with_reducible (first | exact At.head _ | apply At.tail))); infer_instance; exact (Nat.le_of_ble_eq_true rfl); (simp only [List.drop_succ_cons, List.drop_zero, List.take_succ_cons, List.take_zero]; rfl); exact rfl; (simp only [Act.put, zA, zB, zC])))
        go_ret
        exact ⟨by simp [he], HO.grown⟩
      · go_wp2_with (first | (first | ((with_reducible apply wpList_loadAll HO); exact rfl; exact rfl; (repeat (with_reducible (first | exact At.head _ | apply At.tail))); infer_instance; exact rfl; exact rfl; (simp only [Act.put, zA, zB, zC])) | ((with_reducible apply wpList_loadOne HO); exact rfl; exact rfl; (repeat (with_reducible (first | exact At.head _ | apply At.tail))); exact rfl; infer_instance; exact rfl; (simp only [Act.put, zA, zB, zC]))) | ((with_reducible apply wpList_loadPart HO); exact rfl; exact rfl; (repeat (with_reducible (first | exact At.head _ | apply At.tail))); infer_instance; exact (Nat.le_of_ble_eq_true rfl); (simp only [List.drop_succ_cons, List.drop_zero, List.take_succ_cons, List.take_zero]; rfl); exact rfl; (simp only [Act.put, zA, zB, zC])))
        go_ret
        exact ⟨by simp [he], HO.grown⟩

set_option maxHeartbeats 16000000 in
set_option maxRecDepth 100000 in
theorem toldBal_any {W : World} {r n c j : Nat} {u : Option Addr} {a : CoA} {S : CoS} {i : InA} {A : InS} (hr : W.heap[r]? = some (.cells [.slice u n c, .int .i64 (j : Int), .pointer (some ⟨a.c, 0, none⟩)].toArray 203)) (h : CoF W a S i A) (y : HisI) (hk : y.x.k = 4) (hxa : inI y.x.a = true) (hxb : inI y.x.b = true) :
    Calls Tryz.prog 150 #[.pointer (some ⟨r, 0, none⟩), .agg (hisC y).toArray] W fun e w' => e = .returned (.bool (toldH S A y.x)) ∧ Below W.heap.size W w' := by
  have HO := Own.start W
  have BL := Lib.hid (fun (w : World) (hb : Below W.heap.size W w) => coBal_any (h.below hb).at' hxa hxb)
  rw [show toldH S A y.x = ((y.x.err == 0) && (y.x.amt == bal S.P y.x.a y.x.b)) by unfold toldH; rw [if_neg (by omega), if_pos hk]]
  have h2 := old_cell hr 2 rfl
  have hlt := old_lt hr
  clear h hr hxa hxb
  obtain ⟨⟨k, ya, yb, ⟨oid, oref, osku, oq, oa⟩, err, id, amt, so, sd⟩, t, kp, kn, kc, r0, r1, r2, dp, dn, dc⟩ := y
  simp only at hk BL ⊢
  subst hk
  generalize bal S.P ya yb = bl at *
  unfold hisC
  have K2 := Lib.hid (fun (w' : World) (hb : Below W.heap.size W w') => show w'.cell? ⟨r, 2, none⟩ = some (.pointer (some ⟨a.c, 0, none⟩)) by
    rw [hb.cell (p := ⟨r, 2, none⟩) hlt]; exact h2)
  cases he : (err == 0)
  · go_enter Tryz.func150, Tryz.ntmps150
    go_upto_region 7 with (first | (((with_reducible apply wpList_loadOne HO); exact rfl; exact rfl; (repeat (with_reducible (first | exact At.head _ | apply At.tail))); exact rfl; infer_instance; exact rfl; (simp only [Act.put, zA, zB, zC]))) | ((have _h : Own W _ (box _ _ :: _) := HO); clear _h; (((with_reducible apply wpList_allocAgg _ HO rfl); exact rfl; infer_instance; exact rfl; clear HO; intro b4 w HO; (simp only [Act.put, zA, zB, zC])))) | (((with_reducible apply wpList_boxAgg _ HO rfl); exact rfl; exact rfl; exact rfl; clear HO; intro b3 w HO; (simp only [Act.put, zA, zB, zC]))) | ((with_reducible apply wpList_storeAll HO); exact rfl; exact rfl; exact rfl; (repeat (with_reducible (exact At.head _))); infer_instance; exact rfl; exact rfl; exact rfl; exact rfl; clear HO; intro w HO; (simp only [Act.put])) | ((with_reducible apply wpList_loadPart HO); exact rfl; exact rfl; (repeat (with_reducible (exact At.head _))); infer_instance; exact (Nat.le_of_ble_eq_true rfl); (simp only [List.drop_succ_cons, List.drop_zero, List.take_succ_cons, List.take_zero]; rfl); exact rfl; (simp only [Act.put, zA, zB, zC])))
    refine region_own HO (by kernel_rfl) (by kernel_rfl) ?_
    clear HO
    intro F HF
    repeat (first | (first | go_big_quiet_skip | (((with_reducible apply wpQuiet_loadOne HF); exact rfl; exact rfl; (repeat (with_reducible (exact At.head _))); exact rfl; infer_instance; exact rfl; (simp only [Act.put, zA, zB, zC])))) | go_big_quiet_step (fail))
    refine wpQuiet_nil ?_
    intro x
    have HO := HF.own x
    clear HF
    generalize F x = w at *
    clear x F
    go_wp2_with fail
    go_ret
    exact ⟨by simp, HO.grown⟩
  · go_enter Tryz.func150, Tryz.ntmps150
    go_upto_region 7 with (first | (((with_reducible apply wpList_loadOne HO); exact rfl; exact rfl; (repeat (with_reducible (first | exact At.head _ | apply At.tail))); exact rfl; infer_instance; exact rfl; (simp only [Act.put, zA, zB, zC]))) | ((have _h : Own W _ (box _ _ :: _) := HO); clear _h; (((with_reducible apply wpList_allocAgg _ HO rfl); exact rfl; infer_instance; exact rfl; clear HO; intro b4 w HO; (simp only [Act.put, zA, zB, zC])))) | (((with_reducible apply wpList_boxAgg _ HO rfl); exact rfl; exact rfl; exact rfl; clear HO; intro b3 w HO; (simp only [Act.put, zA, zB, zC]))) | ((with_reducible apply wpList_storeAll HO); exact rfl; exact rfl; exact rfl; (repeat (with_reducible (exact At.head _))); infer_instance; exact rfl; exact rfl; exact rfl; exact rfl; clear HO; intro w HO; (simp only [Act.put])) | ((with_reducible apply wpList_loadPart HO); exact rfl; exact rfl; (repeat (with_reducible (exact At.head _))); infer_instance; exact (Nat.le_of_ble_eq_true rfl); (simp only [List.drop_succ_cons, List.drop_zero, List.take_succ_cons, List.take_zero]; rfl); exact rfl; (simp only [Act.put, zA, zB, zC])))
    refine region_schedO ([box b4 (.cells #[.int .i64 err, .int .i64 r0, .int .i64 r1, .int .i64 r2, .int .i64 id, .int .i64 amt, .int .i64 so.id, .string ⟨so.ref.toArray⟩, .string ⟨so.sku.toArray⟩, .int .i64 so.qty, .int .i64 so.amt, .int .i64 sd.a, .int .i64 sd.b, .int .i64 sd.c, .int .i64 sd.d, .int .i64 sd.e, .int .i64 sd.f, .bool sd.x, .slice dp dn dc] 121), box b3 (.cells #[.int .i64 4, .int .i64 oid, .string ⟨oref.toArray⟩, .string ⟨osku.toArray⟩, .int .i64 oq, .int .i64 oa, .int .i64 ya, .int .i64 yb, .string ⟨t.toArray⟩, .slice kp kn kc, .int .i64 err, .int .i64 r0, .int .i64 r1, .int .i64 r2, .int .i64 id, .int .i64 amt, .int .i64 so.id, .string ⟨so.ref.toArray⟩, .string ⟨so.sku.toArray⟩, .int .i64 so.qty, .int .i64 so.amt, .int .i64 sd.a, .int .i64 sd.b, .int .i64 sd.c, .int .i64 sd.d, .int .i64 sd.e, .int .i64 sd.f, .bool sd.x, .slice dp dn dc] 123)]) [(0, true), (1, true), (2, true), (3, true), (4, true), (5, true), (6, true), (7, true), (8, true), (9, true), (10, true), (11, true), (12, true), (13, true), (14, true), (15, true), (16, false), (17, true), (18, true), (19, true)] HO (by with_reducible (repeat (first | exact List.nil_sublist _ | apply List.Sublist.cons_cons))) (by kernel_rfl) (by kernel_rfl) ?_
    clear HO
    intro w HO
    repeat (first | ((with_reducible apply wpHeld_loadAt1); exact rfl; exact rfl; exact rfl; exact (fun w' hw => K2.out w' (hw _ List.mem_cons_self)); infer_instance; exact rfl; (simp only [Act.put, zA, zB, zC])) | ((with_reducible apply wpHeld_loadOne); exact rfl; exact rfl; exact rfl; (repeat (with_reducible (first | exact At.head _ | apply At.tail))); exact rfl; infer_instance; exact rfl; (simp only [Act.put, zA, zB, zC])) | ((with_reducible apply wpHeld_pure); exact rfl; exact rfl; (intro w'; go_simp; try with_reducible rfl); (simp only [Act.put, zA, zB, zC])))
    ((with_reducible apply wpHeld_loud); exact rfl; go_wp2_with ((go_at_call 50; go_must ((with_reducible refine (BL.out _ HO.grown).mono ?_); rintro e w ⟨rfl, hb⟩; replace HO := HO.call hb; clear hb))))
    refine ⟨HO.heldO (by with_reducible (repeat (first | exact List.nil_sublist _ | apply List.Sublist.cons_cons))), ?_⟩
    repeat ((with_reducible apply wpHeld_pure); exact rfl; exact rfl; (intro w'; go_simp; try with_reducible rfl); (simp only [Act.put, zA, zB, zC]))
    refine wpHeld_end ?_
    go_wp2_with fail
    go_ret
    exact ⟨by simp, HO.grown⟩
end Go.Proofs.YtibabfedpdoofaaGreatDoor
namespace Go.Proofs.YtibabfedpdoofaaGreatDoor
open Go.RowKit Go.Own Go.Maps

def chgH (x : HisS) : Bool := (x.err == 0) && (x.k == 1 || x.k == 2)
def stAt (es : List EntS) (j : Nat) : CoS × InS := coreOf (es.take j)
/-- Whether an entry is that of a line that was answered so. -/
def chgdE (S : CoS) (A : InS) (e : EntS) (x : HisS) : Bool := sameE e (entH S.L.length x) && (applyE S A (entH S.L.length x) == 0) && (!(x.k == 1) || (x.id == (entH S.L.length x).id))
def chgdH (es : List EntS) (j : Nat) (x : HisS) : Bool := match es[j]? with
  | some e => chgdE (stAt es j).1 (stAt es j).2 e x
  | none => false
def fitsB (es : List EntS) (j : Nat) (x : HisS) : Bool := if chgH x = true then chgdH es j x else toldH (stAt es j).1 (stAt es j).2 x
def goesH (es : List EntS) (x : HisS) : Nat → Nat → Option Nat
  | 0, j => if fitsB es j x = true then some (if chgH x = true then j + 1 else j) else none
  | m + 1, j => if fitsB es j x = true then some (if chgH x = true then j + 1 else j) else goesH es x m (j + 1)
def checkH (es : List EntS) : List HisS → Nat → Nat → Int
  | [], _, _ => -1
  | x :: l, i, j => if takesH x = true then (match goesH es x (es.length - j) j with | some j' => checkH es l (i + 1) j' | none => (i : Int)) else checkH es l (i + 1) j
theorem chgdH_at {es : List EntS} {j : Nat} (h : j < es.length) (x : HisS) : chgdH es j x = chgdE (stAt es j).1 (stAt es j).2 es[j] x := by
  unfold chgdH
  rw [List.getElem?_eq_getElem h]
theorem chgdH_end {es : List EntS} (x : HisS) : chgdH es es.length x = false := by
  unfold chgdH
  rw [List.getElem?_eq_none (Nat.le_refl _)]
theorem goesH_yes {es : List EntS} {x : HisS} {j : Nat} (m : Nat) (h : fitsB es j x = true) : goesH es x m j = some (if chgH x = true then j + 1 else j) := by
  cases m <;> (unfold goesH; rw [if_pos h])
theorem goesH_no {es : List EntS} {x : HisS} {j : Nat} (hj : j < es.length) (h : fitsB es j x = false) : goesH es x (es.length - j) j = goesH es x (es.length - (j + 1)) (j + 1) := by
  rw [show es.length - j = (es.length - (j + 1)) + 1 by omega, goesH, if_neg (by rw [h]; simp)]
theorem goesH_end {es : List EntS} {x : HisS} (h : fitsB es es.length x = false) : goesH es x (es.length - es.length) es.length = none := by
  rw [Nat.sub_self, goesH, if_neg (by rw [h]; simp)]
theorem takes_kind {x : HisS} (h : takesH x = true) : x.k = 1 ∨ x.k = 2 ∨ x.k = 3 ∨ x.k = 4 := by
  unfold takesH at h
  simp only [Bool.and_eq_true, Bool.or_eq_true, beq_iff_eq] at h
  omega
theorem ofH_of {x : HisS} (h : takesH x = true) : ofH x = x := by
  unfold ofH
  rcases takes_kind h with hk | hk | hk | hk <;> (obtain ⟨k, a, b, o, err, id, amt, so, sd⟩ := x; simp only at hk; subst hk; rfl)
theorem check_of (es : List EntS) : ∀ (l : List HisS) (i j : Nat), checkH es (l.map ofH) i j = checkH es l i j
  | [], _, _ => rfl
  | x :: l, i, j => by
    rw [List.map_cons, checkH, checkH, takes_of]
    by_cases h : takesH x = true
    · rw [if_pos h, if_pos h, ofH_of h]
      cases goesH es x (es.length - j) j with
      | none => rfl
      | some j' => exact check_of es l (i + 1) j'
    · rw [if_neg h, if_neg h]
      exact check_of es l (i + 1) j
theorem checkH_skip {es : List EntS} {l : List HisS} {k j : Nat} (hk : k < l.length) (h : takesH l[k] = false) : checkH es (l.drop k) k j = checkH es (l.drop (k + 1)) (k + 1) j := by
  rw [List.drop_eq_getElem_cons hk, checkH, if_neg (by rw [h]; simp)]
theorem checkH_goes {es : List EntS} {l : List HisS} {k j j' : Nat} (hk : k < l.length) (h : takesH l[k] = true) (hg : goesH es l[k] (es.length - j) j = some j') : checkH es (l.drop k) k j = checkH es (l.drop (k + 1)) (k + 1) j' := by
  rw [List.drop_eq_getElem_cons hk, checkH, if_pos h, hg]
theorem checkH_none {es : List EntS} {l : List HisS} {k j : Nat} (hk : k < l.length) (h : takesH l[k] = true) (hg : goesH es l[k] (es.length - j) j = none) : checkH es (l.drop k) k j = (k : Int) := by
  rw [List.drop_eq_getElem_cons hk, checkH, if_pos h, hg]
theorem checkH_end (es : List EntS) (l : List HisS) (k j : Nat) : checkH es (l.drop l.length) k j = -1 := by
  rw [List.drop_length, checkH]
end Go.Proofs.YtibabfedpdoofaaGreatDoor
namespace Go.Own
open Go.RowKit
theorem IsL.take {w : World} {k n c m : Nat} {sp : Option Addr} {L : List (List Value)} (h : IsL w k (.slice sp n c) L) (hm : m ≤ n) : IsL w k (.slice sp m c) (L.take m) := by
  cases h with
  | none sp sc hn =>
    obtain rfl : m = 0 := by omega
    exact .none _ _ hn
  | some a cap L hlen hcap h0 h =>
    by_cases h9 : m = 0
    · subst h9
      exact .none _ _ (fun e => by cases e)
    · have hl : (L.take m).length = m := by rw [List.length_take]; omega
      have key : IsL w k (.slice (Option.some a) (L.take m).length c) (L.take m) := .some a c _ (by omega) hcap (by omega) ⟨h.lt, fun i hi j v hv => by
        rw [hl] at hi
        rw [List.getElem_take] at hv
        exact h.c i (by omega) j v hv⟩
      rwa [hl] at key
theorem IsL.drop {w : World} {k n c m : Nat} {a : Addr} {L : List (List Value)} (h : IsL w k (.slice (Option.some a) n c) L) (hm : m < n) : IsL w k (.slice (Option.some (a.add (m * k))) (n - m) (c - m)) (L.drop m) := by
  cases h with
  | none sp sc hn => omega
  | some a cap L hlen hcap h0 h =>
    have hl : (L.drop m).length = L.length - m := by rw [List.length_drop]
    have key : IsL w k (.slice (Option.some (a.add (m * k))) (L.drop m).length (c - m)) (L.drop m) := .some _ _ _ (by omega) (by omega) (by omega) ⟨by rw [lBlock]; exact h.lt, fun i hi j v hv => by
      rw [hl] at hi
      rw [List.getElem_drop] at hv
      have h1 := h.c (m + i) (by omega) j v hv
      rwa [Nat.add_mul, lAdd] at h1⟩
    rwa [hl] at key
end Go.Own
namespace Go.Proofs.YtibabfedpdoofaaGreatDoor
open Go.RowKit Go.Own Go.Maps

structure LineOk (y : HisI) : Prop where
  a : inI y.x.a = true
  b : inI y.x.b = true
  ref : y.x.o.ref.length ≤ maxLen
  sku : y.x.o.sku.length ≤ maxLen
  sref : y.x.so.ref.length ≤ maxLen
structure IsLines (W : World) (v : Value) (ys : List HisI) : Prop where
  l : IsL W 29 v (ys.map hisC)
  r : ∀ y ∈ ys, LineOk y
theorem IsLines.below {W w : World} {v : Value} {ys : List HisI} (h : IsLines W v ys) (hb : Below W.heap.size W w) : IsLines w v ys := ⟨h.l.below hb h.l.lt, h.r⟩
theorem hisC_len (ys : List HisI) : ∀ l ∈ ys.map hisC, l.length = 29 := fun l hl => by
  obtain ⟨y, _, rfl⟩ := List.mem_map.1 hl
  rfl
end Go.Proofs.YtibabfedpdoofaaGreatDoor
namespace Go.Proofs.YtibabfedpdoofaaGreatDoor
open Go.RowKit Go.Own Go.Maps

def ansC (y : HisI) : List Value := (hisC y).drop 10
theorem step_cells {w' : World} {b : Nat} {T : TypeId} (y : HisI) (hF : w'.heap[b]? = some (.cells (hisC y).toArray T)) : ∀ (j : Nat) (u : Value), (stepC y)[j]? = some u → w'.cell? ((⟨b, 0, none⟩ : Addr).add j) = some u := fun j u hu => by
  rw [addAt]
  refine old_cell hF (0 + j) ?_
  rw [Nat.zero_add, show hisC y = stepC y ++ ansC y from rfl, List.getElem?_append_left (List.getElem?_eq_some_iff.1 hu).1]
  exact hu
theorem entH_facts (n : Nat) (x : HisS) (h1 : x.o.ref.length ≤ maxLen) (h2 : x.o.sku.length ≤ maxLen) (h3 : inI x.a = true) : ((entH n x).k = 1 ∨ (entH n x).k = 2) ∧ (entH n x).ref.length ≤ maxLen ∧ (entH n x).sku.length ≤ maxLen ∧ inI (entH n x).o = true ∧ (entH n x).rs = [] := by
  unfold entH
  split
  · exact ⟨.inr rfl, by simp [zeroE], by simp [zeroE], h3, rfl⟩
  · exact ⟨.inl rfl, h1, h2, (by decide : inI 0 = true), rfl⟩
theorem perm8 (a' : CoA) (S : CoS) (i : InA) (A : InS) (Z Y : Ent) (N : List Ent) : (coPs a' S i A ++ (Z :: Y :: N)).Perm (Z :: Y :: (coPs a' S i A ++ N)) := by
  have h1 := List.perm_append_comm_assoc (coPs a' S i A) [Z, Y] N
  simpa using h1
set_option maxHeartbeats 16000000 in
set_option maxRecDepth 100000 in
theorem toldChg_any {W : World} {r n c j : Nat} {u : Option Addr} {a : CoA} {S : CoS} {i : InA} {A : InS} (hr : W.heap[r]? = some (.cells [.slice u n c, .int .i64 (j : Int), .pointer (some ⟨a.c, 0, none⟩)].toArray 203)) (h : CoF W a S i A) (y : HisI) (hy : LineOk y) (hk3 : y.x.k ≠ 3) (hk4 : y.x.k ≠ 4) :
    Calls Tryz.prog 150 #[.pointer (some ⟨r, 0, none⟩), .agg (hisC y).toArray] W fun e w' => e = .returned (.bool (toldH S A y.x)) ∧ Below W.heap.size W w' := by
  have HO := Own.start W
  rw [show toldH S A y.x = ((y.x.id == 0) && (applyE S A (entH S.L.length y.x) == y.x.err)) by unfold toldH; rw [if_neg hk3, if_neg hk4]]
  obtain ⟨f1, f2, f3, f4, f5⟩ := entH_facts S.L.length y.x hy.ref hy.sku hy.a
  have CP := Lib.hid (fun (w : World) (hb : Below W.heap.size W w) => coCopy_any (h.below hb).at' h.f (by have := h.len; omega) h.l)
  have EN := Lib.hid (fun (w : World) (hb : Below W.heap.size W w) => entry_any (r := r) (n := n) (j := j) (u := u) (c := c) (W := w) (by rw [hb.block _ (old_lt hr)]; exact hr) (h.below hb) y)
  have AP := Lib.hid (fun (w : World) (a' : CoA) (M : List Ent) (HO : Own W w (coPs a' S i A ++ M)) => coApp12_any (vp := none) (vn := 0) (vc := 0) (entH S.L.length y.x) f1 HO h.l f2 f3 f4)
  generalize entH S.L.length y.x = Y at *
  generalize applyE S A Y = ev at *
  generalize applyS S A Y = S1 at *
  have hk3' : (y.x.k == 3) = false := by simpa using hk3
  have hk4' : (y.x.k == 4) = false := by simpa using hk4
  have K2 := Lib.hid (fun (w' : World) (hb : Below W.heap.size W w') => show w'.cell? ⟨r, 2, none⟩ = some (.pointer (some ⟨a.c, 0, none⟩)) by
    rw [hb.cell (p := ⟨r, 2, none⟩) (old_lt hr)]; exact old_cell hr 2 rfl)
  clear f1 f2 f3 f4 f5 hk3 hk4 h hr hy
  have SC := fun (w' : World) (b : Nat) (hF : w'.heap[b]? = some (.cells (hisC y).toArray 123)) => step_cells y hF
  obtain ⟨ek, eid, eref, esku, eq, ea, eo, ed, ec, ep, es', ers⟩ := Y
  obtain ⟨⟨k, ya, yb, ⟨oid, oref, osku, oq, oa⟩, err, id, amt, so, sd⟩, t, kp, kn, kc, r0, r1, r2, dp, dn, dc⟩ := y
  simp only [stepC, hisC] at hk3' hk4' EN SC ⊢
  replace SC := Lib.hid SC
  cases he : (id == 0)
  · clear EN CP AP SC
    go_enter Tryz.func150, Tryz.ntmps150
    go_upto_region 8 with (first | (((with_reducible apply wpList_loadOne HO); exact rfl; exact rfl; (repeat (with_reducible (first | exact At.head _ | apply At.tail))); exact rfl; infer_instance; exact rfl; (simp only [Act.put, zA, zB, zC]))) | ((have _h : Own W _ (box _ _ :: _) := HO); clear _h; (((with_reducible apply wpList_allocAgg _ HO rfl); exact rfl; infer_instance; exact rfl; clear HO; intro b4 w HO; (simp only [Act.put, zA, zB, zC])))) | (((with_reducible apply wpList_boxAgg _ HO rfl); exact rfl; exact rfl; exact rfl; clear HO; intro b3 w HO; (simp only [Act.put, zA, zB, zC]))) | ((with_reducible apply wpList_storeAll HO); exact rfl; exact rfl; exact rfl; (repeat (with_reducible (exact At.head _))); infer_instance; exact rfl; exact rfl; exact rfl; exact rfl; clear HO; intro w HO; (simp only [Act.put])) | ((with_reducible apply wpList_loadPart HO); exact rfl; exact rfl; (repeat (with_reducible (exact At.head _))); infer_instance; exact (Nat.le_of_ble_eq_true rfl); (simp only [List.drop_succ_cons, List.drop_zero, List.take_succ_cons, List.take_zero]; rfl); exact rfl; (simp only [Act.put, zA, zB, zC])))
    refine region_own HO (by kernel_rfl) (by kernel_rfl) ?_
    clear HO
    intro F HF
    repeat (first | (first | go_big_quiet_skip | (((with_reducible apply wpQuiet_loadOne HF); exact rfl; exact rfl; (repeat (with_reducible (exact At.head _))); exact rfl; infer_instance; exact rfl; (simp only [Act.put, zA, zB, zC])))) | go_big_quiet_step (fail))
    refine wpQuiet_nil ?_
    intro x
    have HO := HF.own x
    clear HF
    generalize F x = w at *
    clear x F
    go_wp2_with fail
    go_ret
    exact ⟨by simp, HO.grown⟩
  · go_enter Tryz.func150, Tryz.ntmps150
    go_upto_region 8 with (first | (((with_reducible apply wpList_loadOne HO); exact rfl; exact rfl; (repeat (with_reducible (first | exact At.head _ | apply At.tail))); exact rfl; infer_instance; exact rfl; (simp only [Act.put, zA, zB, zC]))) | ((have _h : Own W _ (box _ _ :: _) := HO); clear _h; (((with_reducible apply wpList_allocAgg _ HO rfl); exact rfl; infer_instance; exact rfl; clear HO; intro b4 w HO; (simp only [Act.put, zA, zB, zC])))) | (((with_reducible apply wpList_boxAgg _ HO rfl); exact rfl; exact rfl; exact rfl; clear HO; intro b3 w HO; (simp only [Act.put, zA, zB, zC]))) | ((with_reducible apply wpList_storeAll HO); exact rfl; exact rfl; exact rfl; (repeat (with_reducible (exact At.head _))); infer_instance; exact rfl; exact rfl; exact rfl; exact rfl; clear HO; intro w HO; (simp only [Act.put])) | ((with_reducible apply wpList_loadPart HO); exact rfl; exact rfl; (repeat (with_reducible (exact At.head _))); infer_instance; exact (Nat.le_of_ble_eq_true rfl); (simp only [List.drop_succ_cons, List.drop_zero, List.take_succ_cons, List.take_zero]; rfl); exact rfl; (simp only [Act.put, zA, zB, zC])))
    refine region_schedO ([box b4 (.cells #[.int .i64 err, .int .i64 r0, .int .i64 r1, .int .i64 r2, .int .i64 id, .int .i64 amt, .int .i64 so.id, .string ⟨so.ref.toArray⟩, .string ⟨so.sku.toArray⟩, .int .i64 so.qty, .int .i64 so.amt, .int .i64 sd.a, .int .i64 sd.b, .int .i64 sd.c, .int .i64 sd.d, .int .i64 sd.e, .int .i64 sd.f, .bool sd.x, .slice dp dn dc] 121), box b3 (.cells #[.int .i64 k, .int .i64 oid, .string ⟨oref.toArray⟩, .string ⟨osku.toArray⟩, .int .i64 oq, .int .i64 oa, .int .i64 ya, .int .i64 yb, .string ⟨t.toArray⟩, .slice kp kn kc, .int .i64 err, .int .i64 r0, .int .i64 r1, .int .i64 r2, .int .i64 id, .int .i64 amt, .int .i64 so.id, .string ⟨so.ref.toArray⟩, .string ⟨so.sku.toArray⟩, .int .i64 so.qty, .int .i64 so.amt, .int .i64 sd.a, .int .i64 sd.b, .int .i64 sd.c, .int .i64 sd.d, .int .i64 sd.e, .int .i64 sd.f, .bool sd.x, .slice dp dn dc] 123)]) [(0, true), (1, true), (2, true), (3, true), (4, true), (5, true), (6, true), (7, true), (9, true), (10, true), (11, true), (14, true), (15, true), (8, false), (12, false), (13, false), (16, true), (17, true), (18, true)] HO (by with_reducible (repeat (first | exact List.nil_sublist _ | apply List.Sublist.cons_cons))) (by kernel_rfl) (by kernel_rfl) ?_
    clear HO
    intro w HO
    repeat (first | ((with_reducible apply wpHeld_loadAt1); exact rfl; exact rfl; exact rfl; exact (fun w' hw => K2.out w' (hw _ List.mem_cons_self)); infer_instance; exact rfl; (simp only [Act.put, zA, zB, zC])) | ((with_reducible apply wpHeld_loadOne); exact rfl; exact rfl; exact rfl; (repeat (with_reducible (first | exact At.head _ | apply At.tail))); exact rfl; infer_instance; exact rfl; (simp only [Act.put, zA, zB, zC])) | ((with_reducible apply wpHeld_loadAt); exact rfl; exact rfl; exact rfl; exact (fun w' hw => SC.out w' b3 (hw _ (.tail _ (.tail _ List.mem_cons_self)))); infer_instance; exact rfl; exact rfl; (simp only [Act.put, zA, zB, zC])) | ((with_reducible apply wpHeld_pure); exact rfl; exact rfl; (intro w'; go_simp; try with_reducible rfl); (simp only [Act.put, zA, zB, zC])))
    ((with_reducible apply wpHeld_loud); exact rfl; go_wp2_with ((go_at_call 37; go_must ((with_reducible refine (CP.out _ HO.grown).mono ?_); rintro e w ⟨a', rfl, HO1⟩; replace HO := HO.lift HO1; clear HO1))))
    replace HO := HO.perm (perm8 _ _ _ _ _ _ _)
    refine ⟨HO.heldO (by with_reducible (repeat (first | exact List.nil_sublist _ | apply List.Sublist.cons_cons))), ?_⟩
    repeat ((with_reducible apply wpHeld_pure); exact rfl; exact rfl; (intro w'; go_simp; try with_reducible rfl); (simp only [Act.put, zA, zB, zC]))
    ((with_reducible apply wpHeld_loud); exact rfl; go_wp2_with ((go_at_call 168; go_must ((with_reducible refine (EN.out _ HO.grown).mono ?_); rintro e w ⟨rfl, hb⟩; replace HO := HO.call hb; clear hb))))
    refine ⟨HO.heldO (by with_reducible (repeat (first | exact List.nil_sublist _ | apply List.Sublist.cons_cons))), ?_⟩
    repeat ((with_reducible apply wpHeld_pure); exact rfl; exact rfl; (intro w'; go_simp; try with_reducible rfl); (simp only [Act.put, zA, zB, zC]))
    replace HO := HO.perm (perm8 _ _ _ _ _ _ _).symm
    ((with_reducible apply wpHeld_loud); exact rfl; go_wp2_with ((go_at_call 27; go_must ((with_reducible refine (AP.out _ _ _ HO).mono ?_); clear HO; rintro e w ⟨rfl, v', HO⟩))))
    replace HO := HO.perm (perm8 _ _ _ _ _ _ _)
    refine ⟨HO.heldO (by with_reducible (repeat (first | exact List.nil_sublist _ | apply List.Sublist.cons_cons))), ?_⟩
    repeat ((with_reducible apply wpHeld_pure); exact rfl; exact rfl; (intro w'; go_simp; try with_reducible rfl); (simp only [Act.put, zA, zB, zC]))
    refine wpHeld_end ?_
    go_wp2_with fail
    go_ret
    exact ⟨by simp, HO.grown⟩

theorem told_any {W : World} {r n c j : Nat} {u : Option Addr} {a : CoA} {S : CoS} {i : InA} {A : InS} (hr : W.heap[r]? = some (.cells [.slice u n c, .int .i64 (j : Int), .pointer (some ⟨a.c, 0, none⟩)].toArray 203)) (h : CoF W a S i A) (y : HisI) (hy : LineOk y) :
    Calls Tryz.prog 150 #[.pointer (some ⟨r, 0, none⟩), .agg (hisC y).toArray] W fun e w' => e = .returned (.bool (toldH S A y.x)) ∧ Below W.heap.size W w' := by
  by_cases h3 : y.x.k = 3
  · exact toldLook_any hr h y h3 hy.a
  · by_cases h4 : y.x.k = 4
    · exact toldBal_any hr h y h4 hy.a hy.b
    · exact toldChg_any hr h y hy h3 h4
end Go.Proofs.YtibabfedpdoofaaGreatDoor
namespace Go.Proofs.YtibabfedpdoofaaGreatDoor
open Go.RowKit Go.Own Go.Maps

set_option maxHeartbeats 16000000 in
set_option maxRecDepth 100000 in
theorem changedEnd_any {W : World} {r n c : Nat} {u : Option Addr} {a : CoA} {S : CoS} {i : InA} {A : InS} (hr : W.heap[r]? = some (.cells [.slice u n c, .int .i64 (n : Int), .pointer (some ⟨a.c, 0, none⟩)].toArray 203)) (h : CoF W a S i A) (y : HisI) (hy : LineOk y) :
    Calls Tryz.prog 148 #[.pointer (some ⟨r, 0, none⟩), .agg (hisC y).toArray] W fun e w' => e = .returned (.bool false) ∧ Below W.heap.size W w' := by
  have HO := Own.start W
  obtain ⟨f1, f2, f3, f4, f5⟩ := entH_facts S.L.length y.x hy.ref hy.sku hy.a
  have CP := Lib.hid (fun (w : World) (hb : Below W.heap.size W w) => coCopy_any (h.below hb).at' h.f (by have := h.len; omega) h.l)
  have EN := Lib.hid (fun (w : World) (hb : Below W.heap.size W w) => entry_any (r := r) (n := n) (j := n) (u := u) (c := c) (W := w) (by rw [hb.block _ (old_lt hr)]; exact hr) (h.below hb) y)
  have AP := Lib.hid (fun (w : World) (a' : CoA) (M : List Ent) (HO : Own W w (coPs a' S i A ++ M)) => coApp12_any (vp := none) (vn := 0) (vc := 0) (entH S.L.length y.x) f1 HO h.l f2 f3 f4)
  clear CP AP f1 f2 f3 f4 f5
  generalize entH S.L.length y.x = Y at *
  have K0 := Lib.hid (fun (w' : World) (hb : Below W.heap.size W w') => show w'.cell? ⟨r, 0, none⟩ = some (.slice u n c) by
    rw [hb.cell (p := ⟨r, 0, none⟩) (old_lt hr)]; exact old_cell hr 0 rfl)
  have K1 := Lib.hid (fun (w' : World) (hb : Below W.heap.size W w') => show w'.cell? ⟨r, 1, none⟩ = some (.int .i64 (n : Int)) by
    rw [hb.cell (p := ⟨r, 1, none⟩) (old_lt hr)]; exact old_cell hr 1 rfl)
  clear h hr hy
  obtain ⟨ek, eid, eref, esku, eq, ea, eo, ed, ec, ep, es', ers⟩ := Y
  obtain ⟨⟨k, ya, yb, ⟨oid, oref, osku, oq, oa⟩, err, id, amt, so, sd⟩, t, kp, kn, kc, r0, r1, r2, dp, dn, dc⟩ := y
  simp only [stepC, hisC] at EN ⊢
  go_enter Tryz.func148, Tryz.ntmps148
  go_upto_region 2 with (first | ((have _h : Own W _ (box _ _ :: _) := HO); clear _h; (((with_reducible apply wpList_allocAgg _ HO rfl); exact rfl; infer_instance; exact rfl; clear HO; intro b5 w HO; (simp only [Act.put, zA, zB, zC])))) | (((with_reducible apply wpList_boxAgg _ HO rfl); exact rfl; exact rfl; exact rfl; clear HO; intro b3 w HO; (simp only [Act.put, zA, zB, zC]))) | ((with_reducible apply wpList_storeAll HO); exact rfl; exact rfl; exact rfl; (repeat (with_reducible (exact At.head _))); infer_instance; exact rfl; exact rfl; exact rfl; exact rfl; clear HO; intro w HO; (simp only [Act.put])) | ((with_reducible apply wpList_loadPart HO); exact rfl; exact rfl; (repeat (with_reducible (exact At.head _))); infer_instance; exact (Nat.le_of_ble_eq_true rfl); (simp only [List.drop_zero, List.take_succ_cons, List.take_zero]; rfl); exact rfl; (simp only [Act.put, zA, zB, zC])) | (go_at_call 168; go_must ((with_reducible refine (EN.out _ HO.grown).mono ?_); rintro e w ⟨rfl, hb⟩; replace HO := HO.call hb; clear hb)))
  refine region_own HO (by kernel_rfl) (by kernel_rfl) ?_
  clear HO
  intro F HF
  repeat (first | (first | go_big_quiet_skip | ((with_reducible apply wpQuiet_loadAt1 HF); exact rfl; exact rfl; exact (fun w' h1 => K0.out w' h1.grown); infer_instance; exact rfl; (simp only [Act.put, zA, zB, zC])) | ((with_reducible apply wpQuiet_loadAt1 HF); exact rfl; exact rfl; exact (fun w' h1 => K1.out w' h1.grown); infer_instance; exact rfl; (simp only [Act.put, zA, zB, zC]))) | go_big_quiet_step (fail))
  refine wpQuiet_nil ?_
  intro x
  have HO := HF.own x
  clear HF
  generalize F x = w at *
  clear x F
  go_wp2_with fail
  go_ret
  exact ⟨rfl, HO.grown⟩

set_option maxHeartbeats 16000000 in
set_option maxRecDepth 100000 in
theorem changed_any {W : World} {r c j : Nat} {u : Option Addr} {es : List EntI} {a : CoA} {S : CoS} {i : InA} {A : InS} (hE : IsEnts W (.slice u es.length c) es) (hj : j < es.length) (hr : W.heap[r]? = some (.cells [.slice u es.length c, .int .i64 (j : Int), .pointer (some ⟨a.c, 0, none⟩)].toArray 203)) (h : CoF W a S i A) (y : HisI) (hy : LineOk y) :
    Calls Tryz.prog 148 #[.pointer (some ⟨r, 0, none⟩), .agg (hisC y).toArray] W fun e w' => e = .returned (.bool (chgdE S A es[j].x y.x)) ∧ Below W.heap.size W w' := by
  have HO := Own.start W
  obtain ⟨f1, f2, f3, f4, f5⟩ := entH_facts S.L.length y.x hy.ref hy.sku hy.a
  have CP := Lib.hid (fun (w : World) (hb : Below W.heap.size W w) => coCopy_any (h.below hb).at' h.f (by have := h.len; omega) h.l)
  have EN := Lib.hid (fun (w : World) (hb : Below W.heap.size W w) => entry_any (r := r) (n := es.length) (j := j) (u := u) (c := c) (W := w) (by rw [hb.block _ (old_lt hr)]; exact hr) (h.below hb) y)
  have AP := Lib.hid (fun (w : World) (a' : CoA) (M : List Ent) (HO : Own W w (coPs a' S i A ++ M)) => coApp12_any (vp := none) (vn := 0) (vc := 0) (entH S.L.length y.x) f1 HO h.l f2 f3 f4)
  have SM := Lib.hid (fun (w : World) (hb : Below W.heap.size W w) => entSame_any es[j].x (entH S.L.length y.x) (((hE.r _ (List.getElem_mem hj)).1).below hb ((hE.r _ (List.getElem_mem hj)).1).lt) (vb := .slice none 0 0) (by rw [f5]; exact .none _ _ (fun _ => rfl)))
  obtain ⟨q, rfl, hst⟩ := oldAt hE.l rfl (by simpa using hj)
  replace hst := Lib.hid hst
  have hjI : (j : Int) < (es.length : Int) := by omega
  have hne : ((j : Int) == (es.length : Int)) = false := by rw [beq_eq_false_iff_ne]; omega
  have K0 := Lib.hid (fun (w' : World) (hb : Below W.heap.size W w') => show w'.cell? ⟨r, 0, none⟩ = some (.slice (some q) es.length c) by
    rw [hb.cell (p := ⟨r, 0, none⟩) (old_lt hr)]; exact old_cell hr 0 rfl)
  have K1 := Lib.hid (fun (w' : World) (hb : Below W.heap.size W w') => show w'.cell? ⟨r, 1, none⟩ = some (.int .i64 (j : Int)) by
    rw [hb.cell (p := ⟨r, 1, none⟩) (old_lt hr)]; exact old_cell hr 1 rfl)
  have K2 := Lib.hid (fun (w' : World) (hb : Below W.heap.size W w') => show w'.cell? ⟨r, 2, none⟩ = some (.pointer (some ⟨a.c, 0, none⟩)) by
    rw [hb.cell (p := ⟨r, 2, none⟩) (old_lt hr)]; exact old_cell hr 2 rfl)
  rw [show chgdE S A es[j].x y.x = (sameE es[j].x (entH S.L.length y.x) && (applyE S A (entH S.L.length y.x) == 0) && (!(y.x.k == 1) || (y.x.id == (entH S.L.length y.x).id))) from rfl]
  generalize sameE es[j].x (entH S.L.length y.x) = B1 at *
  generalize entH S.L.length y.x = Y at *
  generalize applyE S A Y = ev at *
  generalize applyS S A Y = S1 at *
  clear f1 f2 f3 f4 f5 h hr hy hE
  generalize es[j] = z at *
  clear hj
  generalize es.length = n at *
  obtain ⟨⟨x1, x2, x3, x4, x5, x6, x7, x8, x9, x10, x11, x12⟩, yv⟩ := z
  unfold entC at hst
  simp only at hst SM
  obtain ⟨ek, eid, eref, esku, eq, ea, eo, ed, ec, ep, es', ers⟩ := Y
  obtain ⟨⟨k, ya, yb, ⟨oid, oref, osku, oq, oa⟩, err, id, amt, so, sd⟩, t, kp, kn, kc, r0, r1, r2, dp, dn, dc⟩ := y
  simp only [stepC, hisC] at EN ⊢
  simp only at SM AP
  cases B1 with
  | false =>
    clear AP CP
    go_enter Tryz.func148, Tryz.ntmps148
    go_upto_region 2 with (first | ((have _h : Own W _ (box _ _ :: _) := HO); clear _h; (((with_reducible apply wpList_allocAgg _ HO rfl); exact rfl; infer_instance; exact rfl; clear HO; intro b5 w HO; (simp only [Act.put, zA, zB, zC])))) | (((with_reducible apply wpList_boxAgg _ HO rfl); exact rfl; exact rfl; exact rfl; clear HO; intro b3 w HO; (simp only [Act.put, zA, zB, zC]))) | ((with_reducible apply wpList_storeAll HO); exact rfl; exact rfl; exact rfl; (repeat (with_reducible (exact At.head _))); infer_instance; exact rfl; exact rfl; exact rfl; exact rfl; clear HO; intro w HO; (simp only [Act.put])) | ((with_reducible apply wpList_loadPart HO); exact rfl; exact rfl; (repeat (with_reducible (exact At.head _))); infer_instance; exact (Nat.le_of_ble_eq_true rfl); (simp only [List.drop_zero, List.take_succ_cons, List.take_zero]; rfl); exact rfl; (simp only [Act.put, zA, zB, zC])) | (go_at_call 168; go_must ((with_reducible refine (EN.out _ HO.grown).mono ?_); rintro e w ⟨rfl, hb⟩; replace HO := HO.call hb; clear hb)))
    refine region_schedO ([box b5 (.cells #[.int .i64 ek, .int .i64 eid, .string ⟨eref.toArray⟩, .string ⟨esku.toArray⟩, .int .i64 eq, .int .i64 ea, .int .i64 eo, .int .i64 ed, .int .i64 ec, .int .i64 ep, .int .i64 es', .slice none 0 0] 34)]) [(0, true), (1, true), (2, true), (3, true), (4, true), (5, true), (6, true), (7, true), (8, true), (9, true), (10, true), (11, true), (12, true), (13, true), (14, true), (15, true), (16, true), (17, true), (18, true), (19, true), (20, true), (21, true), (22, false), (23, true), (24, true), (25, true), (26, true), (27, true), (28, true), (29, true), (30, true), (31, true), (32, true), (33, true), (34, true)] HO (by with_reducible (repeat (first | exact List.nil_sublist _ | apply List.Sublist.cons_cons))) (by kernel_rfl) (by kernel_rfl) ?_
    clear HO
    intro w HO
    repeat (first | ((with_reducible apply wpHeld_loadAt1); exact rfl; exact rfl; exact rfl; exact (fun w' hw => K0.out w' (hw _ List.mem_cons_self)); infer_instance; exact rfl; (simp only [Act.put, zA, zB, zC])) | ((with_reducible apply wpHeld_loadAt1); exact rfl; exact rfl; exact rfl; exact (fun w' hw => K1.out w' (hw _ List.mem_cons_self)); infer_instance; exact rfl; (simp only [Act.put, zA, zB, zC])) | ((with_reducible apply wpHeld_loadAll); exact rfl; exact rfl; exact rfl; (repeat (with_reducible (first | exact At.head _ | apply At.tail))); infer_instance; exact rfl; exact rfl; (simp only [Act.put, zA, zB, zC])) | ((with_reducible apply wpHeld_loadAt); exact rfl; exact rfl; exact rfl; exact (fun w' hw => hst.out w' (hw _ List.mem_cons_self)); infer_instance; exact rfl; exact rfl; (simp only [Act.put, zA, zB, zC])) | ((with_reducible apply wpHeld_pure); exact rfl; exact rfl; (intro w'; go_simp; try with_reducible rfl); (simp only [Act.put, zA, zB, zC])))
    ((with_reducible apply wpHeld_loud); exact rfl; go_wp2_with ((go_at_call 169; go_must ((with_reducible refine (SM.out _ HO.grown).mono ?_); rintro e w ⟨rfl, hb⟩; replace HO := HO.call hb; clear hb))))
    refine ⟨HO.heldO (by with_reducible (repeat (first | exact List.nil_sublist _ | apply List.Sublist.cons_cons))), ?_⟩
    repeat (first | ((with_reducible apply wpHeld_skip); exact rfl; exact rfl; (simp only [Act.put, zA, zB, zC])) | ((with_reducible apply wpHeld_pure); exact rfl; exact rfl; (intro w'; go_simp; try with_reducible rfl); (simp only [Act.put, zA, zB, zC])))
    refine wpHeld_end ?_
    go_wp2_with fail
    go_ret
    exact ⟨by simp, HO.grown⟩
  | true =>
    cases he : (ev == 0)
    all_goals
      have hne' : (ev != 0) = !(ev == 0) := rfl
      rw [he] at hne'
      simp only [Bool.not_false, Bool.not_true] at hne'
      go_enter Tryz.func148, Tryz.ntmps148
      go_upto_region 2 with (first | ((have _h : Own W _ (box _ _ :: _) := HO); clear _h; (((with_reducible apply wpList_allocAgg _ HO rfl); exact rfl; infer_instance; exact rfl; clear HO; intro b5 w HO; (simp only [Act.put, zA, zB, zC])))) | (((with_reducible apply wpList_boxAgg _ HO rfl); exact rfl; exact rfl; exact rfl; clear HO; intro b3 w HO; (simp only [Act.put, zA, zB, zC]))) | ((with_reducible apply wpList_storeAll HO); exact rfl; exact rfl; exact rfl; (repeat (with_reducible (exact At.head _))); infer_instance; exact rfl; exact rfl; exact rfl; exact rfl; clear HO; intro w HO; (simp only [Act.put])) | ((with_reducible apply wpList_loadPart HO); exact rfl; exact rfl; (repeat (with_reducible (exact At.head _))); infer_instance; exact (Nat.le_of_ble_eq_true rfl); (simp only [List.drop_zero, List.take_succ_cons, List.take_zero]; rfl); exact rfl; (simp only [Act.put, zA, zB, zC])) | (go_at_call 168; go_must ((with_reducible refine (EN.out _ HO.grown).mono ?_); rintro e w ⟨rfl, hb⟩; replace HO := HO.call hb; clear hb)))
      refine region_schedO ([box b5 (.cells #[.int .i64 ek, .int .i64 eid, .string ⟨eref.toArray⟩, .string ⟨esku.toArray⟩, .int .i64 eq, .int .i64 ea, .int .i64 eo, .int .i64 ed, .int .i64 ec, .int .i64 ep, .int .i64 es', .slice none 0 0] 34), box b3 (.cells #[.int .i64 k, .int .i64 oid, .string ⟨oref.toArray⟩, .string ⟨osku.toArray⟩, .int .i64 oq, .int .i64 oa, .int .i64 ya, .int .i64 yb, .string ⟨t.toArray⟩, .slice kp kn kc, .int .i64 err, .int .i64 r0, .int .i64 r1, .int .i64 r2, .int .i64 id, .int .i64 amt, .int .i64 so.id, .string ⟨so.ref.toArray⟩, .string ⟨so.sku.toArray⟩, .int .i64 so.qty, .int .i64 so.amt, .int .i64 sd.a, .int .i64 sd.b, .int .i64 sd.c, .int .i64 sd.d, .int .i64 sd.e, .int .i64 sd.f, .bool sd.x, .slice dp dn dc] 123)]) [(0, true), (1, true), (2, true), (3, true), (4, true), (5, true), (6, true), (7, true), (8, true), (9, true), (10, true), (11, true), (12, true), (13, true), (14, true), (15, true), (16, true), (17, true), (18, true), (19, true), (20, true), (21, true), (22, false), (23, true), (24, true), (25, true), (26, true), (27, true), (28, true), (29, true), (31, true), (30, false), (32, false), (33, true), (34, true)] HO (by with_reducible (repeat (first | exact List.nil_sublist _ | apply List.Sublist.cons_cons))) (by kernel_rfl) (by kernel_rfl) ?_
      clear HO
      intro w HO
      repeat (first | ((with_reducible apply wpHeld_loadAt1); exact rfl; exact rfl; exact rfl; exact (fun w' hw => K0.out w' (hw _ List.mem_cons_self)); infer_instance; exact rfl; (simp only [Act.put, zA, zB, zC])) | ((with_reducible apply wpHeld_loadAt1); exact rfl; exact rfl; exact rfl; exact (fun w' hw => K1.out w' (hw _ List.mem_cons_self)); infer_instance; exact rfl; (simp only [Act.put, zA, zB, zC])) | ((with_reducible apply wpHeld_loadAll); exact rfl; exact rfl; exact rfl; (repeat (with_reducible (first | exact At.head _ | apply At.tail))); infer_instance; exact rfl; exact rfl; (simp only [Act.put, zA, zB, zC])) | ((with_reducible apply wpHeld_loadAt); exact rfl; exact rfl; exact rfl; exact (fun w' hw => hst.out w' (hw _ List.mem_cons_self)); infer_instance; exact rfl; exact rfl; (simp only [Act.put, zA, zB, zC])) | ((with_reducible apply wpHeld_pure); exact rfl; exact rfl; (intro w'; go_simp; try with_reducible rfl); (simp only [Act.put, zA, zB, zC])))
      ((with_reducible apply wpHeld_loud); exact rfl; go_wp2_with ((go_at_call 169; go_must ((with_reducible refine (SM.out _ HO.grown).mono ?_); rintro e w ⟨rfl, hb⟩; replace HO := HO.call hb; clear hb))))
      refine ⟨HO.heldO (by with_reducible (repeat (first | exact List.nil_sublist _ | apply List.Sublist.cons_cons))), ?_⟩
      repeat (first | ((with_reducible apply wpHeld_loadAt1); exact rfl; exact rfl; exact rfl; exact (fun w' hw => K2.out w' (hw _ List.mem_cons_self)); infer_instance; exact rfl; (simp only [Act.put, zA, zB, zC])) | ((with_reducible apply wpHeld_loadAll); exact rfl; exact rfl; exact rfl; (repeat (with_reducible (first | exact At.head _ | apply At.tail))); infer_instance; exact rfl; exact rfl; (simp only [Act.put, zA, zB, zC])) | ((with_reducible apply wpHeld_pure); exact rfl; exact rfl; (intro w'; go_simp; try with_reducible rfl); (simp only [Act.put, zA, zB, zC])))
      ((with_reducible apply wpHeld_loud); exact rfl; go_wp2_with ((go_at_call 37; go_must ((with_reducible refine (CP.out _ HO.grown).mono ?_); rintro e w ⟨a', rfl, HO1⟩; replace HO := HO.lift HO1; clear HO1))))
      replace HO := HO.perm (perm8 _ _ _ _ _ _ _)
      refine ⟨HO.heldO (by with_reducible (repeat (first | exact List.nil_sublist _ | apply List.Sublist.cons_cons))), ?_⟩
      repeat (fail)
      replace HO := HO.perm (perm8 _ _ _ _ _ _ _).symm
      ((with_reducible apply wpHeld_loud); exact rfl; go_wp2_with ((go_at_call 27; go_must ((with_reducible refine (AP.out _ _ _ HO).mono ?_); clear HO; rintro e w ⟨rfl, v', HO⟩))))
      replace HO := HO.perm (perm8 _ _ _ _ _ _ _)
      refine ⟨HO.heldO (by with_reducible (repeat (first | exact List.nil_sublist _ | apply List.Sublist.cons_cons))), ?_⟩
      repeat ((with_reducible apply wpHeld_pure); exact rfl; exact rfl; (intro w'; go_simp; try with_reducible rfl); (simp only [Act.put, zA, zB, zC]))
      refine wpHeld_end ?_
    · go_wp2_with fail
      go_ret
      exact ⟨by simp, HO.grown⟩
    · cases hk1 : (k == 1)
      · have hk1' : (k != 1) = true := by rw [bne, hk1]; rfl
        go_wp2_with (first | go_big_skip | (((with_reducible apply wpList_loadOne HO); exact rfl; exact rfl; (repeat (with_reducible (first | exact At.head _ | apply At.tail))); exact rfl; infer_instance; exact rfl; (simp only [Act.put, zA, zB, zC]))))
        go_ret
        exact ⟨by simp [hk1], HO.grown⟩
      · have hk1' : (k != 1) = false := by rw [bne, hk1]; rfl
        go_wp2_with ((((with_reducible apply wpList_loadOne HO); exact rfl; exact rfl; (repeat (with_reducible (first | exact At.head _ | apply At.tail))); exact rfl; infer_instance; exact rfl; (simp only [Act.put, zA, zB, zC]))))
        go_ret
        exact ⟨by simp [hk1], HO.grown⟩
end Go.Proofs.YtibabfedpdoofaaGreatDoor

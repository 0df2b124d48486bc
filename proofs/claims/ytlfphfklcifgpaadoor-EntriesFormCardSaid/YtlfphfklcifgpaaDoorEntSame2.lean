/-
  Whether two entries are the same, by walking both texts: the second half; conditions: the rows lie in memory.
-/
import Derived.Test.YtlfphfklcifgpaaDoorEntSame
namespace Go.Proofs.YtlfphfklcifgpaaDoor
open Go.RowKit Go.Own

theorem beq_dec (a b : Int) : (a == b) = decide (a = b) := by rw [Bool.eq_iff_iff]; simp

set_option maxHeartbeats 4000000 in
set_option maxRecDepth 100000 in
theorem entSame_any {W : World} {va vb : Value} (a b : EntS) (ha : IsRows W va a.rs) (hb : IsRows W vb b.rs) :
    Calls Tryd.prog 42 #[.agg #[.int .i64 (a).k, .int .i64 (a).id, .string ⟨(a).ref.toArray⟩, .string ⟨(a).sku.toArray⟩, .int .i64 (a).qty, .int .i64 (a).amt, .int .i64 (a).o, .int .i64 (a).d, .int .i64 (a).c, .int .i64 (a).p, .int .i64 (a).q, va], .agg #[.int .i64 (b).k, .int .i64 (b).id, .string ⟨(b).ref.toArray⟩, .string ⟨(b).sku.toArray⟩, .int .i64 (b).qty, .int .i64 (b).amt, .int .i64 (b).o, .int .i64 (b).d, .int .i64 (b).c, .int .i64 (b).p, .int .i64 (b).q, vb]] W fun e w' => e = .returned (.bool (sameE a b)) ∧ Below W.heap.size W w' := by
  have PA := fun w' (h : Below W.heap.size W w') => plain_any a (ha.below h ha.lt)
  have PB := fun w' (h : Below W.heap.size W w') => plain_any b (hb.below h hb.lt)
  have hpa := plainV_rows ha
  have hpb := plainV_rows hb
  obtain ⟨sa, ca, rfl, -⟩ := ha.slice
  obtain ⟨sb, cb, rfl, -⟩ := hb.slice
  obtain ⟨sx, cx, hx, -⟩ := hpa.slice
  obtain ⟨sy, cy, hy, -⟩ := hpb.slice
  rw [hx] at PA hpa
  rw [hy] at PB hpb
  have S := fun w' (h : Below W.heap.size W w') => rowsSame_any (plainE a).p (plainE a).q (plainE b).p (plainE b).q (hpa.below h hpa.lt) (hpb.below h hpb.lt)
  have HQ := Lib.hid (show sameE a b = (((plainE a).k == (plainE b).k) && ordEq (plainE a) (plainE b) && (decide ((plainE a).o = (plainE b).o) && decide ((plainE a).d = (plainE b).d)) && ((plainE a).c == (plainE b).c) &&
    sameStmt (plainE a).p (plainE a).q (plainE a).rs (plainE b).p (plainE b).q (plainE b).rs) by rw [beq_dec, beq_dec, plainE_k, plainE_k]; rfl)
  generalize sameE a b = z at *
  generalize plainE a = x at *
  generalize plainE b = y at *
  obtain ⟨k, id, ref, sku, qty, amt, o, d, c, p, q, rs⟩ := x
  obtain ⟨k', id', ref', sku', qty', amt', o', d', c', p', q', rs'⟩ := y
  obtain ⟨ka, ida, refa, skua, qtya, amta, oa, da, cca, pa, qa, rsa⟩ := a
  obtain ⟨kb, idb, refb, skub, qtyb, amtb, ob, db, ccb, pb, qb, rsb⟩ := b
  simp only [ordEq] at PA PB S HQ ⊢
  have R1 := fun w => run_ord_eql id ref sku qty amt id' ref' sku' qty' amt' w
  have R2 := fun w => run_key_eql o d o' d' w
  generalize (decide (id = id') && decide (ref = ref') && decide (sku = sku') && decide (qty = qty') && decide (amt = amt')) = B1 at *
  generalize (decide (o = o') && decide (d = d')) = B2 at *
  generalize sameStmt p q rs p' q' rs' = B4 at *
  have HO := Own.start W
  clear ha hb hpa hpb hx hy
  go_enter Tryd.func42, Tryd.ntmps42
  go_wp2_with (first | ((have _h : Own W _ (box _ _ :: _) := HO); clear _h; ((with_reducible apply wpList_boxAgg _ HO rfl); exact rfl; exact rfl; exact rfl; clear HO; intro b3 w HO; (simp only [Act.put, List.setIfInBounds_toArray, List.set_cons_succ, List.set_cons_zero]))) | ((with_reducible apply wpList_boxAgg _ HO rfl); exact rfl; exact rfl; exact rfl; clear HO; intro b2 w HO; (simp only [Act.put, List.setIfInBounds_toArray, List.set_cons_succ, List.set_cons_zero])))
  refine region_sched2 ([box b3 (.cells #[.int .i64 kb, .int .i64 idb, .string ⟨refb.toArray⟩, .string ⟨skub.toArray⟩, .int .i64 qtyb, .int .i64 amtb, .int .i64 ob, .int .i64 db, .int .i64 ccb, .int .i64 pb, .int .i64 qb, .slice sb rsb.length cb] 78), box b2 (.cells #[.int .i64 ka, .int .i64 ida, .string ⟨refa.toArray⟩, .string ⟨skua.toArray⟩, .int .i64 qtya, .int .i64 amta, .int .i64 oa, .int .i64 da, .int .i64 cca, .int .i64 pa, .int .i64 qa, .slice sa rsa.length ca] 78)]) [(0, true), (2, true), (1, false), (3, false), (4, false), (5, false)] HO (by with_reducible (repeat (first | exact List.nil_sublist _ | apply List.Sublist.cons_cons | apply List.Sublist.cons))) (by kernel_rfl) (by kernel_rfl) ?_
  clear HO
  intro w HO
  repeat (first | ((with_reducible apply wpSched_loadAll); exact rfl; exact rfl; exact rfl; (repeat (with_reducible (first | exact At.head _ | apply At.tail))); infer_instance; exact rfl; exact rfl; (simp only [Act.put, List.setIfInBounds_toArray, List.set_cons_succ, List.set_cons_zero])) | ((with_reducible apply wpSched_pure); exact rfl; exact rfl; (intro w'; go_simp; try with_reducible rfl); (simp only [Act.put, List.setIfInBounds_toArray, List.set_cons_succ, List.set_cons_zero])))
  ((with_reducible apply wpSched_loud); exact rfl; go_wp2_with ((go_at_call 73; go_must ((with_reducible refine (PA _ HO.grown).mono ?_); rintro e w ⟨rfl, hb⟩; replace HO := HO.call hb; clear hb))))
  refine thenQ_keep (HO.held (by with_reducible (repeat (first | exact List.nil_sublist _ | apply List.Sublist.cons_cons | apply List.Sublist.cons)))) ?_
  ((with_reducible apply wpSched_loud); exact rfl; go_wp2_with ((go_at_call 73; go_must ((with_reducible refine (PB _ HO.grown).mono ?_); rintro e w ⟨rfl, hb⟩; replace HO := HO.call hb; clear hb))))
  refine thenQ_keep (HO.held (by with_reducible (repeat (first | exact List.nil_sublist _ | apply List.Sublist.cons_cons | apply List.Sublist.cons)))) ?_
  ((with_reducible apply wpSched_loud); exact rfl; ((with_reducible apply wpList_storeAll HO); exact rfl; exact rfl; exact rfl; (repeat (with_reducible (first | exact At.head _ | apply At.tail))); infer_instance; exact rfl; exact rfl; exact rfl; exact rfl; clear HO; intro w HO; (simp only [Act.put])))
  refine wpList_nil (thenQ_free (by kernel_rfl) ?_)
  ((with_reducible apply wpSched_loud); exact rfl; ((with_reducible apply wpList_storeAll HO); exact rfl; exact rfl; exact rfl; (repeat (with_reducible (first | exact At.head _ | apply At.tail))); infer_instance; exact rfl; exact rfl; exact rfl; exact rfl; clear HO; intro w HO; (simp only [Act.put])))
  refine wpList_nil (thenQ_free (by kernel_rfl) ?_)
  refine wpSched_end ?_
  clear PA PB
  cases h0 : (k == k')
  · go_wp2_with (first | (first | go_big_skip | ((with_reducible apply wpList_loadAll HO); exact rfl; exact rfl; (repeat (with_reducible (first | exact At.head _ | apply At.tail))); infer_instance; exact rfl; exact rfl; (simp only [Act.put, List.setIfInBounds_toArray, List.set_cons_succ, List.set_cons_zero])) | ((with_reducible apply wpList_loadOne HO); exact rfl; exact rfl; (repeat (with_reducible (first | exact At.head _ | apply At.tail))); exact rfl; infer_instance; exact rfl; (simp only [Act.put, List.setIfInBounds_toArray, List.set_cons_succ, List.set_cons_zero]))) | ((with_reducible apply wpList_loadPart HO); exact rfl; exact rfl; (repeat (with_reducible (first | exact At.head _ | apply At.tail))); infer_instance; exact (Nat.le_of_ble_eq_true rfl); (simp only [List.drop_succ_cons, List.drop_zero, List.take_succ_cons, List.take_zero]; rfl); exact rfl; (simp only [Act.put, List.setIfInBounds_toArray, List.set_cons_succ, List.set_cons_zero])))
    go_ret
    exact ⟨by rw [HQ.out, h0]; rfl, HO.grown⟩
  · cases B1
    · go_wp2_with (first | (first | go_big_skip | ((with_reducible apply wpList_loadAll HO); exact rfl; exact rfl; (repeat (with_reducible (first | exact At.head _ | apply At.tail))); infer_instance; exact rfl; exact rfl; (simp only [Act.put, List.setIfInBounds_toArray, List.set_cons_succ, List.set_cons_zero])) | ((with_reducible apply wpList_loadOne HO); exact rfl; exact rfl; (repeat (with_reducible (first | exact At.head _ | apply At.tail))); exact rfl; infer_instance; exact rfl; (simp only [Act.put, List.setIfInBounds_toArray, List.set_cons_succ, List.set_cons_zero]))) | ((with_reducible apply wpList_loadPart HO); exact rfl; exact rfl; (repeat (with_reducible (first | exact At.head _ | apply At.tail))); infer_instance; exact (Nat.le_of_ble_eq_true rfl); (simp only [List.drop_succ_cons, List.drop_zero, List.take_succ_cons, List.take_zero]; rfl); exact rfl; (simp only [Act.put, List.setIfInBounds_toArray, List.set_cons_succ, List.set_cons_zero])))
      go_ret
      exact ⟨by rw [HQ.out, h0]; rfl, HO.grown⟩
    · cases B2
      · go_wp2_with (first | (first | go_big_skip | ((with_reducible apply wpList_loadAll HO); exact rfl; exact rfl; (repeat (with_reducible (first | exact At.head _ | apply At.tail))); infer_instance; exact rfl; exact rfl; (simp only [Act.put, List.setIfInBounds_toArray, List.set_cons_succ, List.set_cons_zero])) | ((with_reducible apply wpList_loadOne HO); exact rfl; exact rfl; (repeat (with_reducible (first | exact At.head _ | apply At.tail))); exact rfl; infer_instance; exact rfl; (simp only [Act.put, List.setIfInBounds_toArray, List.set_cons_succ, List.set_cons_zero]))) | ((with_reducible apply wpList_loadPart HO); exact rfl; exact rfl; (repeat (with_reducible (first | exact At.head _ | apply At.tail))); infer_instance; exact (Nat.le_of_ble_eq_true rfl); (simp only [List.drop_succ_cons, List.drop_zero, List.take_succ_cons, List.take_zero]; rfl); exact rfl; (simp only [Act.put, List.setIfInBounds_toArray, List.set_cons_succ, List.set_cons_zero])))
        go_ret
        exact ⟨by rw [HQ.out, h0]; rfl, HO.grown⟩
      · cases h3 : (c == c')
        · go_wp2_with (first | (first | go_big_skip | ((with_reducible apply wpList_loadAll HO); exact rfl; exact rfl; (repeat (with_reducible (first | exact At.head _ | apply At.tail))); infer_instance; exact rfl; exact rfl; (simp only [Act.put, List.setIfInBounds_toArray, List.set_cons_succ, List.set_cons_zero])) | ((with_reducible apply wpList_loadOne HO); exact rfl; exact rfl; (repeat (with_reducible (first | exact At.head _ | apply At.tail))); exact rfl; infer_instance; exact rfl; (simp only [Act.put, List.setIfInBounds_toArray, List.set_cons_succ, List.set_cons_zero]))) | ((with_reducible apply wpList_loadPart HO); exact rfl; exact rfl; (repeat (with_reducible (first | exact At.head _ | apply At.tail))); infer_instance; exact (Nat.le_of_ble_eq_true rfl); (simp only [List.drop_succ_cons, List.drop_zero, List.take_succ_cons, List.take_zero]; rfl); exact rfl; (simp only [Act.put, List.setIfInBounds_toArray, List.set_cons_succ, List.set_cons_zero])))
          go_ret
          exact ⟨by rw [HQ.out, h0, h3]; rfl, HO.grown⟩
        · go_wp2_with (first | (first | go_big_skip | ((with_reducible apply wpList_loadAll HO); exact rfl; exact rfl; (repeat (with_reducible (first | exact At.head _ | apply At.tail))); infer_instance; exact rfl; exact rfl; (simp only [Act.put, List.setIfInBounds_toArray, List.set_cons_succ, List.set_cons_zero])) | ((with_reducible apply wpList_loadOne HO); exact rfl; exact rfl; (repeat (with_reducible (first | exact At.head _ | apply At.tail))); exact rfl; infer_instance; exact rfl; (simp only [Act.put, List.setIfInBounds_toArray, List.set_cons_succ, List.set_cons_zero]))) | ((with_reducible apply wpList_loadPart HO); exact rfl; exact rfl; (repeat (with_reducible (first | exact At.head _ | apply At.tail))); infer_instance; exact (Nat.le_of_ble_eq_true rfl); (simp only [List.drop_succ_cons, List.drop_zero, List.take_succ_cons, List.take_zero]; rfl); exact rfl; (simp only [Act.put, List.setIfInBounds_toArray, List.set_cons_succ, List.set_cons_zero])) | (go_at_call 45; go_must ((with_reducible refine (S _ HO.grown).mono ?_); rintro e w ⟨rfl, hb⟩; replace HO := HO.call hb; clear hb)))
          go_ret
          exact ⟨by rw [HQ.out, h0, h3]; rfl, HO.grown⟩
/-- The same, seen from the kind. -/
theorem sameE_eq (a b : EntS) : sameE a b = if a.k = b.k then (if a.k = 1 then decide (a.id = b.id) && decide (a.ref = b.ref) && decide (a.sku = b.sku) && decide (a.qty = b.qty) && decide (a.amt = b.amt) else if a.k = 2 then decide (a.o = b.o) else
    if a.k = 3 then decide (a.o = b.o) && decide (a.d = b.d) && decide (a.c = b.c) else if a.k = 4 then sameStmt a.p a.q a.rs b.p b.q b.rs else true) else false := by
  obtain ⟨k, id, ref, sku, qty, amt, o, d, c, p, q, rs⟩ := a
  obtain ⟨k', id', ref', sku', qty', amt', o', d', c', p', q', rs'⟩ := b
  have e0 : sameStmt 0 0 [] 0 0 [] = true := rfl
  by_cases hk : k = k'
  · subst hk
    rcases five k with rfl | rfl | rfl | rfl | ⟨h1, h2, h3, h4⟩
    · simp [sameE, ordEq, plainE, zeroE, e0]
    · simp [sameE, ordEq, plainE, zeroE, e0]
    · simp [sameE, ordEq, plainE, zeroE, e0]
    · simp [sameE, ordEq, plainE, zeroE]
    · simp [sameE, ordEq, plainE, zeroE, e0, h1, h2, h3, h4]
  · simp [sameE, hk]
theorem sameE_self (a : EntS) : sameE a a = true := by
  simp [sameE, ordEq, sameStmt_iff.2 ⟨rfl, rfl, rfl⟩]

set_option maxHeartbeats 4000000 in
set_option maxRecDepth 100000 in
theorem refEntSame_any {W : World} {va vb : Value} (a b : EntS) (ha : IsRows W va a.rs) (hb : IsRows W vb b.rs) :
    Calls Tryd.prog 41 #[.agg #[.int .i64 (a).k, .int .i64 (a).id, .string ⟨(a).ref.toArray⟩, .string ⟨(a).sku.toArray⟩, .int .i64 (a).qty, .int .i64 (a).amt, .int .i64 (a).o, .int .i64 (a).d, .int .i64 (a).c, .int .i64 (a).p, .int .i64 (a).q, va], .agg #[.int .i64 (b).k, .int .i64 (b).id, .string ⟨(b).ref.toArray⟩, .string ⟨(b).sku.toArray⟩, .int .i64 (b).qty, .int .i64 (b).amt, .int .i64 (b).o, .int .i64 (b).d, .int .i64 (b).c, .int .i64 (b).p, .int .i64 (b).q, vb]] W fun e w' => e = .returned (.bool (sameE a b)) ∧ Below W.heap.size W w' := by
  have S := fun w' (h : Below W.heap.size W w') => refSame_any a.p a.q b.p b.q (ha.below h ha.lt) (hb.below h hb.lt)
  obtain ⟨sa, ca, rfl, -⟩ := ha.slice
  obtain ⟨sb, cb, rfl, -⟩ := hb.slice
  have HQ := Lib.hid (sameE_eq a b)
  generalize sameE a b = z at *
  clear ha hb
  obtain ⟨k, id, ref, sku, qty, amt, o, d, c, p, q, rs⟩ := a
  obtain ⟨k', id', ref', sku', qty', amt', o', d', c', p', q', rs'⟩ := b
  simp only at S HQ ⊢
  have R1 := fun w => run_ord_eql id ref sku qty amt id' ref' sku' qty' amt' w
  have R2 := fun w => run_key_eql o d o' d' w
  generalize (decide (id = id') && decide (ref = ref') && decide (sku = sku') && decide (qty = qty') && decide (amt = amt')) = B1 at *
  generalize hB2 : (decide (o = o') && decide (d = d')) = B2 at *
  generalize sameStmt p q rs p' q' rs' = B4 at *
  have HB2 := Lib.hid hB2
  have HO := Own.start W
  clear hB2
  by_cases hk : k = k'
  rotate_left
  · have HZ := Lib.hid (HQ.out.trans (if_neg hk))
    have h0 : (k == k') = false := by simpa using hk
    have h0' : (k != k') = true := by simpa using hk
    clear hk
    go_enter Tryd.func41, Tryd.ntmps41
    go_wp2_with (first | (first | go_big_skip | ((with_reducible apply wpList_loadAll HO); exact rfl; exact rfl; (repeat (with_reducible (first | exact At.head _ | apply At.tail))); infer_instance; exact rfl; exact rfl; (simp only [Act.put, List.setIfInBounds_toArray, List.set_cons_succ, List.set_cons_zero])) | ((with_reducible apply wpList_loadOne HO); exact rfl; exact rfl; (repeat (with_reducible (first | exact At.head _ | apply At.tail))); exact rfl; infer_instance; exact rfl; (simp only [Act.put, List.setIfInBounds_toArray, List.set_cons_succ, List.set_cons_zero])) | ((with_reducible apply wpList_storeAll HO); exact rfl; exact rfl; exact rfl; (repeat (with_reducible (first | exact At.head _ | apply At.tail))); infer_instance; exact rfl; exact rfl; exact rfl; exact rfl; clear HO; intro w HO; (simp only [Act.put])) | (first | ((with_reducible apply wpList_boxAgg _ HO rfl); exact rfl; exact rfl; exact rfl; clear HO; intro b0 w HO; (simp only [Act.put, List.setIfInBounds_toArray, List.set_cons_succ, List.set_cons_zero])) | ((with_reducible apply wpList_allocAgg _ HO rfl); exact rfl; infer_instance; exact rfl; clear HO; intro b0 w HO; (simp only [Act.put, List.setIfInBounds_toArray, List.set_cons_succ, List.set_cons_zero])))) | ((with_reducible apply wpList_loadPart HO); exact rfl; exact rfl; (repeat (with_reducible (first | exact At.head _ | apply At.tail))); infer_instance; exact (Nat.le_of_ble_eq_true rfl); (simp only [List.drop_succ_cons, List.drop_zero, List.take_succ_cons, List.take_zero]; rfl); exact rfl; (simp only [Act.put, List.setIfInBounds_toArray, List.set_cons_succ, List.set_cons_zero])))
    go_ret
    exact ⟨by first | (rw [HZ.out]; done) | (rw [HZ.out]; rfl), HO.grown⟩
  · subst hk
    rw [if_pos rfl] at HQ
    rcases five k with rfl | rfl | rfl | rfl | ⟨k1, k2, k3, k4⟩
    · go_enter Tryd.func41, Tryd.ntmps41
      go_wp2_with (first | (first | go_big_skip | ((with_reducible apply wpList_loadAll HO); exact rfl; exact rfl; (repeat (with_reducible (first | exact At.head _ | apply At.tail))); infer_instance; exact rfl; exact rfl; (simp only [Act.put, List.setIfInBounds_toArray, List.set_cons_succ, List.set_cons_zero])) | ((with_reducible apply wpList_loadOne HO); exact rfl; exact rfl; (repeat (with_reducible (first | exact At.head _ | apply At.tail))); exact rfl; infer_instance; exact rfl; (simp only [Act.put, List.setIfInBounds_toArray, List.set_cons_succ, List.set_cons_zero])) | ((with_reducible apply wpList_storeAll HO); exact rfl; exact rfl; exact rfl; (repeat (with_reducible (first | exact At.head _ | apply At.tail))); infer_instance; exact rfl; exact rfl; exact rfl; exact rfl; clear HO; intro w HO; (simp only [Act.put])) | (first | ((with_reducible apply wpList_boxAgg _ HO rfl); exact rfl; exact rfl; exact rfl; clear HO; intro b0 w HO; (simp only [Act.put, List.setIfInBounds_toArray, List.set_cons_succ, List.set_cons_zero])) | ((with_reducible apply wpList_allocAgg _ HO rfl); exact rfl; infer_instance; exact rfl; clear HO; intro b0 w HO; (simp only [Act.put, List.setIfInBounds_toArray, List.set_cons_succ, List.set_cons_zero])))) | ((with_reducible apply wpList_loadPart HO); exact rfl; exact rfl; (repeat (with_reducible (first | exact At.head _ | apply At.tail))); infer_instance; exact (Nat.le_of_ble_eq_true rfl); (simp only [List.drop_succ_cons, List.drop_zero, List.take_succ_cons, List.take_zero]; rfl); exact rfl; (simp only [Act.put, List.setIfInBounds_toArray, List.set_cons_succ, List.set_cons_zero])))
      go_ret
      exact ⟨by rw [HQ.out]; rfl, HO.grown⟩
    · go_enter Tryd.func41, Tryd.ntmps41
      go_wp2_with (first | (first | go_big_skip | ((with_reducible apply wpList_loadAll HO); exact rfl; exact rfl; (repeat (with_reducible (first | exact At.head _ | apply At.tail))); infer_instance; exact rfl; exact rfl; (simp only [Act.put, List.setIfInBounds_toArray, List.set_cons_succ, List.set_cons_zero])) | ((with_reducible apply wpList_loadOne HO); exact rfl; exact rfl; (repeat (with_reducible (first | exact At.head _ | apply At.tail))); exact rfl; infer_instance; exact rfl; (simp only [Act.put, List.setIfInBounds_toArray, List.set_cons_succ, List.set_cons_zero])) | ((with_reducible apply wpList_storeAll HO); exact rfl; exact rfl; exact rfl; (repeat (with_reducible (first | exact At.head _ | apply At.tail))); infer_instance; exact rfl; exact rfl; exact rfl; exact rfl; clear HO; intro w HO; (simp only [Act.put])) | (first | ((with_reducible apply wpList_boxAgg _ HO rfl); exact rfl; exact rfl; exact rfl; clear HO; intro b0 w HO; (simp only [Act.put, List.setIfInBounds_toArray, List.set_cons_succ, List.set_cons_zero])) | ((with_reducible apply wpList_allocAgg _ HO rfl); exact rfl; infer_instance; exact rfl; clear HO; intro b0 w HO; (simp only [Act.put, List.setIfInBounds_toArray, List.set_cons_succ, List.set_cons_zero])))) | ((with_reducible apply wpList_loadPart HO); exact rfl; exact rfl; (repeat (with_reducible (first | exact At.head _ | apply At.tail))); infer_instance; exact (Nat.le_of_ble_eq_true rfl); (simp only [List.drop_succ_cons, List.drop_zero, List.take_succ_cons, List.take_zero]; rfl); exact rfl; (simp only [Act.put, List.setIfInBounds_toArray, List.set_cons_succ, List.set_cons_zero])))
      go_ret
      exact ⟨by rw [HQ.out, beq_dec]; rfl, HO.grown⟩
    · cases B2
      · go_enter Tryd.func41, Tryd.ntmps41
        go_wp2_with (first | (first | go_big_skip | ((with_reducible apply wpList_loadAll HO); exact rfl; exact rfl; (repeat (with_reducible (first | exact At.head _ | apply At.tail))); infer_instance; exact rfl; exact rfl; (simp only [Act.put, List.setIfInBounds_toArray, List.set_cons_succ, List.set_cons_zero])) | ((with_reducible apply wpList_loadOne HO); exact rfl; exact rfl; (repeat (with_reducible (first | exact At.head _ | apply At.tail))); exact rfl; infer_instance; exact rfl; (simp only [Act.put, List.setIfInBounds_toArray, List.set_cons_succ, List.set_cons_zero])) | ((with_reducible apply wpList_storeAll HO); exact rfl; exact rfl; exact rfl; (repeat (with_reducible (first | exact At.head _ | apply At.tail))); infer_instance; exact rfl; exact rfl; exact rfl; exact rfl; clear HO; intro w HO; (simp only [Act.put])) | (first | ((with_reducible apply wpList_boxAgg _ HO rfl); exact rfl; exact rfl; exact rfl; clear HO; intro b0 w HO; (simp only [Act.put, List.setIfInBounds_toArray, List.set_cons_succ, List.set_cons_zero])) | ((with_reducible apply wpList_allocAgg _ HO rfl); exact rfl; infer_instance; exact rfl; clear HO; intro b0 w HO; (simp only [Act.put, List.setIfInBounds_toArray, List.set_cons_succ, List.set_cons_zero])))) | ((with_reducible apply wpList_loadPart HO); exact rfl; exact rfl; (repeat (with_reducible (first | exact At.head _ | apply At.tail))); infer_instance; exact (Nat.le_of_ble_eq_true rfl); (simp only [List.drop_succ_cons, List.drop_zero, List.take_succ_cons, List.take_zero]; rfl); exact rfl; (simp only [Act.put, List.setIfInBounds_toArray, List.set_cons_succ, List.set_cons_zero])))
        go_ret
        exact ⟨by rw [HQ.out]; rfl, HO.grown⟩
      · go_enter Tryd.func41, Tryd.ntmps41
        go_wp2_with (first | (first | go_big_skip | ((with_reducible apply wpList_loadAll HO); exact rfl; exact rfl; (repeat (with_reducible (first | exact At.head _ | apply At.tail))); infer_instance; exact rfl; exact rfl; (simp only [Act.put, List.setIfInBounds_toArray, List.set_cons_succ, List.set_cons_zero])) | ((with_reducible apply wpList_loadOne HO); exact rfl; exact rfl; (repeat (with_reducible (first | exact At.head _ | apply At.tail))); exact rfl; infer_instance; exact rfl; (simp only [Act.put, List.setIfInBounds_toArray, List.set_cons_succ, List.set_cons_zero])) | ((with_reducible apply wpList_storeAll HO); exact rfl; exact rfl; exact rfl; (repeat (with_reducible (first | exact At.head _ | apply At.tail))); infer_instance; exact rfl; exact rfl; exact rfl; exact rfl; clear HO; intro w HO; (simp only [Act.put])) | (first | ((with_reducible apply wpList_boxAgg _ HO rfl); exact rfl; exact rfl; exact rfl; clear HO; intro b0 w HO; (simp only [Act.put, List.setIfInBounds_toArray, List.set_cons_succ, List.set_cons_zero])) | ((with_reducible apply wpList_allocAgg _ HO rfl); exact rfl; infer_instance; exact rfl; clear HO; intro b0 w HO; (simp only [Act.put, List.setIfInBounds_toArray, List.set_cons_succ, List.set_cons_zero])))) | ((with_reducible apply wpList_loadPart HO); exact rfl; exact rfl; (repeat (with_reducible (first | exact At.head _ | apply At.tail))); infer_instance; exact (Nat.le_of_ble_eq_true rfl); (simp only [List.drop_succ_cons, List.drop_zero, List.take_succ_cons, List.take_zero]; rfl); exact rfl; (simp only [Act.put, List.setIfInBounds_toArray, List.set_cons_succ, List.set_cons_zero])))
        go_ret
        exact ⟨by rw [HQ.out, beq_dec]; rfl, HO.grown⟩
    · go_enter Tryd.func41, Tryd.ntmps41
      go_wp2_with (first | (first | go_big_skip | ((with_reducible apply wpList_loadAll HO); exact rfl; exact rfl; (repeat (with_reducible (first | exact At.head _ | apply At.tail))); infer_instance; exact rfl; exact rfl; (simp only [Act.put, List.setIfInBounds_toArray, List.set_cons_succ, List.set_cons_zero])) | ((with_reducible apply wpList_loadOne HO); exact rfl; exact rfl; (repeat (with_reducible (first | exact At.head _ | apply At.tail))); exact rfl; infer_instance; exact rfl; (simp only [Act.put, List.setIfInBounds_toArray, List.set_cons_succ, List.set_cons_zero])) | ((with_reducible apply wpList_storeAll HO); exact rfl; exact rfl; exact rfl; (repeat (with_reducible (first | exact At.head _ | apply At.tail))); infer_instance; exact rfl; exact rfl; exact rfl; exact rfl; clear HO; intro w HO; (simp only [Act.put])) | (first | ((with_reducible apply wpList_boxAgg _ HO rfl); exact rfl; exact rfl; exact rfl; clear HO; intro b0 w HO; (simp only [Act.put, List.setIfInBounds_toArray, List.set_cons_succ, List.set_cons_zero])) | ((with_reducible apply wpList_allocAgg _ HO rfl); exact rfl; infer_instance; exact rfl; clear HO; intro b0 w HO; (simp only [Act.put, List.setIfInBounds_toArray, List.set_cons_succ, List.set_cons_zero])))) | ((with_reducible apply wpList_loadPart HO); exact rfl; exact rfl; (repeat (with_reducible (first | exact At.head _ | apply At.tail))); infer_instance; exact (Nat.le_of_ble_eq_true rfl); (simp only [List.drop_succ_cons, List.drop_zero, List.take_succ_cons, List.take_zero]; rfl); exact rfl; (simp only [Act.put, List.setIfInBounds_toArray, List.set_cons_succ, List.set_cons_zero])) | (go_at_call 23; go_must ((with_reducible refine (S _ HO.grown).mono ?_); rintro e w ⟨rfl, hb⟩; replace HO := HO.call hb; clear hb)))
      go_ret
      exact ⟨by rw [HQ.out]; rfl, HO.grown⟩
    · have HZ := Lib.hid (show z = true by rw [HQ.out]; simp [k1, k2, k3, k4])
      have e1 : (k == 1) = false := by simpa using k1
      have e2 : (k == 2) = false := by simpa using k2
      have e3 : (k == 3) = false := by simpa using k3
      have e4 : (k == 4) = false := by simpa using k4
      clear k1 k2 k3 k4
      go_enter Tryd.func41, Tryd.ntmps41
      go_wp2_with (first | (first | go_big_skip | ((with_reducible apply wpList_loadAll HO); exact rfl; exact rfl; (repeat (with_reducible (first | exact At.head _ | apply At.tail))); infer_instance; exact rfl; exact rfl; (simp only [Act.put, List.setIfInBounds_toArray, List.set_cons_succ, List.set_cons_zero])) | ((with_reducible apply wpList_loadOne HO); exact rfl; exact rfl; (repeat (with_reducible (first | exact At.head _ | apply At.tail))); exact rfl; infer_instance; exact rfl; (simp only [Act.put, List.setIfInBounds_toArray, List.set_cons_succ, List.set_cons_zero])) | ((with_reducible apply wpList_storeAll HO); exact rfl; exact rfl; exact rfl; (repeat (with_reducible (first | exact At.head _ | apply At.tail))); infer_instance; exact rfl; exact rfl; exact rfl; exact rfl; clear HO; intro w HO; (simp only [Act.put])) | (first | ((with_reducible apply wpList_boxAgg _ HO rfl); exact rfl; exact rfl; exact rfl; clear HO; intro b0 w HO; (simp only [Act.put, List.setIfInBounds_toArray, List.set_cons_succ, List.set_cons_zero])) | ((with_reducible apply wpList_allocAgg _ HO rfl); exact rfl; infer_instance; exact rfl; clear HO; intro b0 w HO; (simp only [Act.put, List.setIfInBounds_toArray, List.set_cons_succ, List.set_cons_zero])))) | ((with_reducible apply wpList_loadPart HO); exact rfl; exact rfl; (repeat (with_reducible (first | exact At.head _ | apply At.tail))); infer_instance; exact (Nat.le_of_ble_eq_true rfl); (simp only [List.drop_succ_cons, List.drop_zero, List.take_succ_cons, List.take_zero]; rfl); exact rfl; (simp only [Act.put, List.setIfInBounds_toArray, List.set_cons_succ, List.set_cons_zero])))
      go_ret
      exact ⟨by first | (rw [HZ.out]; done) | (rw [HZ.out]; rfl), HO.grown⟩
end Go.Proofs.YtlfphfklcifgpaaDoor

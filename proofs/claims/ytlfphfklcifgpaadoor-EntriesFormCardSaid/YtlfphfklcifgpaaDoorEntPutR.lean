/-
  An entry's bytes, by walking the document's text; conditions: the rows lie in memory, texts no longer than memory bears.
-/
import Derived.Test.YtlfphfklcifgpaaDoorEntPut
import Derived.Test.YtlfphfklcifgpaaDoorRefBits
namespace Go.Proofs.YtlfphfklcifgpaaDoor
open Go.RowKit Go.Own

theorem number_any20 (n : Nat) (w : World) (h : n < 9223372036854775808) : Calls Tryd.prog 62 #[.int .i64 n] w fun e w' => e = .returned (.string ⟨(varF 10 n).toArray⟩) ∧ Below w.heap.size w w' := by
  have e1 := wrap_u64 n (by omega)
  have V := fun w => refVar_ten n w (by omega)
  have HO := Own.start w
  go_enter Tryd.func62, Tryd.ntmps62
  go_wp2_with (first | (first | go_big_skip | ((with_reducible apply wpList_loadAll HO); exact rfl; exact rfl; (repeat (with_reducible (first | exact At.head _ | apply At.tail))); infer_instance; exact rfl; exact rfl; (simp only [Act.put, List.setIfInBounds_toArray, List.set_cons_succ, List.set_cons_zero])) | ((with_reducible apply wpList_loadOne HO); exact rfl; exact rfl; (repeat (with_reducible (first | exact At.head _ | apply At.tail))); exact rfl; infer_instance; exact rfl; (simp only [Act.put, List.setIfInBounds_toArray, List.set_cons_succ, List.set_cons_zero]))) | (go_at_call 84; go_must ((with_reducible refine (V _).mono ?_); rintro e w ⟨rfl, hb⟩; replace HO := HO.call hb; clear hb)))
  go_ret
  exact ⟨rfl, HO.grown⟩

set_option maxHeartbeats 4000000 in
set_option maxRecDepth 100000 in
theorem refEntPut_any {W : World} {v : Value} (x : EntS) (h : IsRows W v x.rs) (h1 : x.ref.length ≤ maxLen) (h2 : x.sku.length ≤ maxLen) :
    Calls Tryd.prog 36 #[.agg #[.int .i64 (x).k, .int .i64 (x).id, .string ⟨(x).ref.toArray⟩, .string ⟨(x).sku.toArray⟩, .int .i64 (x).qty, .int .i64 (x).amt, .int .i64 (x).o, .int .i64 (x).d, .int .i64 (x).c, .int .i64 (x).p, .int .i64 (x).q, v]] W fun e w' => e = .returned (.tuple #[.string ⟨(putE x).toArray⟩, .int .i64 (checkE x)]) ∧ Below W.heap.size W w' := by
  have C := fun w' (hb : Below W.heap.size W w') => refEntCheck_any x (h.below hb h.lt) h1 h2
  by_cases hc : checkE x = 0
  rotate_left
  · have HQ := Lib.hid (show putE x = [] by rw [putE, if_neg hc])
    obtain ⟨k, id, ref, sku, qty, amt, o, d, c, p, q, rs⟩ := x
    simp only at h C ⊢
    obtain ⟨sp, sc, rfl, -⟩ := h.slice
    generalize checkE ⟨k, id, ref, sku, qty, amt, o, d, c, p, q, rs⟩ = e at *
    have e1 : (e == 0) = false := by simpa using hc
    have e2 : (e != 0) = true := by simpa using hc
    have HO := Own.start W
    clear hc h h1 h2
    go_enter Tryd.func36, Tryd.ntmps36
    go_wp2_with (first | (first | go_big_skip | ((with_reducible apply wpList_loadAll HO); exact rfl; exact rfl; (repeat (with_reducible (first | exact At.head _ | apply At.tail))); infer_instance; exact rfl; exact rfl; (simp only [Act.put, List.setIfInBounds_toArray, List.set_cons_succ, List.set_cons_zero])) | ((with_reducible apply wpList_loadOne HO); exact rfl; exact rfl; (repeat (with_reducible (first | exact At.head _ | apply At.tail))); exact rfl; infer_instance; exact rfl; (simp only [Act.put, List.setIfInBounds_toArray, List.set_cons_succ, List.set_cons_zero])) | ((with_reducible apply wpList_storeAll HO); exact rfl; exact rfl; exact rfl; (repeat (with_reducible (first | exact At.head _ | apply At.tail))); infer_instance; exact rfl; exact rfl; exact rfl; exact rfl; clear HO; intro w HO; (simp only [Act.put])) | (first | ((with_reducible apply wpList_boxAgg _ HO rfl); exact rfl; exact rfl; exact rfl; clear HO; intro b0 w HO; (simp only [Act.put, List.setIfInBounds_toArray, List.set_cons_succ, List.set_cons_zero])) | ((with_reducible apply wpList_allocAgg _ HO rfl); exact rfl; infer_instance; exact rfl; clear HO; intro b0 w HO; (simp only [Act.put, List.setIfInBounds_toArray, List.set_cons_succ, List.set_cons_zero])))) | ((with_reducible apply wpList_loadPart HO); exact rfl; exact rfl; (repeat (with_reducible (first | exact At.head _ | apply At.tail))); infer_instance; exact (Nat.le_of_ble_eq_true rfl); (simp only [List.drop_succ_cons, List.drop_zero, List.take_succ_cons, List.take_zero]; rfl); exact rfl; (simp only [Act.put, List.setIfInBounds_toArray, List.set_cons_succ, List.set_cons_zero])) | (go_at_call 40; go_must ((with_reducible refine (C _ HO.grown).mono ?_); rintro e w ⟨rfl, hb⟩; replace HO := HO.call hb; clear hb)))
    refine bodyPost_ret (v := .tuple #[.string ⟨#[]⟩, .int .i64 e]) ?_ rfl ?_
    · (simp only [results, Tryd.results36]; go_simp)
    exact ⟨by first | (rw [HQ.out]; done) | (rw [HQ.out]; rfl), HO.grown⟩
  · have HC := Lib.hid hc
    have hp := putE_ok hc
    have hb := bodyE_len hc
    obtain ⟨k, id, ref, sku, qty, amt, o, d, c, p, q, rs⟩ := x
    simp only at h h1 h2 C ⊢
    rw [hc] at C
    obtain ⟨sp, sc, rfl, -⟩ := h.slice
    have O := fun w => refPutOrd_any id ref sku qty amt w h1 h2
    have S := fun w' (hb : Below W.heap.size W w') => refPutStmt_any p q (h.below hb h.lt) 
    have HO := Own.start W
    clear h h1 h2
    have hk : k = 1 ∨ k = 2 ∨ k = 3 ∨ k = 4 := by
      rcases five k with h | h | h | h | ⟨a, b, c, d⟩
      · exact .inl h
      · exact .inr (.inl h)
      · exact .inr (.inr (.inl h))
      · exact .inr (.inr (.inr h))
      · simp [checkE, a, b, c, d] at hc
    rcases hk with rfl | rfl | rfl | rfl
    · have HQ := Lib.hid hp
      have V : ∀ w, Calls Tryd.prog 62 #[.int .i64 1] w fun e w' => e = .returned (.string ⟨(varF 10 1).toArray⟩) ∧ Below w.heap.size w w' := fun w => number_any20 1 w (by decide)
      have l1 := varF_len 10 1
      have l2 := putOrd_len id ref sku qty amt
      clear hp hc hb
      go_enter Tryd.func36, Tryd.ntmps36
      go_wp2_with (first | (first | go_big_skip | ((with_reducible apply wpList_loadAll HO); exact rfl; exact rfl; (repeat (with_reducible (first | exact At.head _ | apply At.tail))); infer_instance; exact rfl; exact rfl; (simp only [Act.put, List.setIfInBounds_toArray, List.set_cons_succ, List.set_cons_zero])) | ((with_reducible apply wpList_loadOne HO); exact rfl; exact rfl; (repeat (with_reducible (first | exact At.head _ | apply At.tail))); exact rfl; infer_instance; exact rfl; (simp only [Act.put, List.setIfInBounds_toArray, List.set_cons_succ, List.set_cons_zero])) | ((with_reducible apply wpList_storeAll HO); exact rfl; exact rfl; exact rfl; (repeat (with_reducible (first | exact At.head _ | apply At.tail))); infer_instance; exact rfl; exact rfl; exact rfl; exact rfl; clear HO; intro w HO; (simp only [Act.put])) | (first | ((with_reducible apply wpList_boxAgg _ HO rfl); exact rfl; exact rfl; exact rfl; clear HO; intro b0 w HO; (simp only [Act.put, List.setIfInBounds_toArray, List.set_cons_succ, List.set_cons_zero])) | ((with_reducible apply wpList_allocAgg _ HO rfl); exact rfl; infer_instance; exact rfl; clear HO; intro b0 w HO; (simp only [Act.put, List.setIfInBounds_toArray, List.set_cons_succ, List.set_cons_zero])))) | ((with_reducible apply wpList_loadPart HO); exact rfl; exact rfl; (repeat (with_reducible (first | exact At.head _ | apply At.tail))); infer_instance; exact (Nat.le_of_ble_eq_true rfl); (simp only [List.drop_succ_cons, List.drop_zero, List.take_succ_cons, List.take_zero]; rfl); exact rfl; (simp only [Act.put, List.setIfInBounds_toArray, List.set_cons_succ, List.set_cons_zero])) | (go_at_call 40; go_must ((with_reducible refine (C _ HO.grown).mono ?_); rintro e w ⟨rfl, hb⟩; replace HO := HO.call hb; clear hb)) | (go_at_call 62; go_must ((with_reducible refine (V _).mono ?_); rintro e w ⟨rfl, hb⟩; replace HO := HO.call hb; clear hb)) | (go_at_call 63; go_must ((with_reducible refine (O _).mono ?_); rintro e w ⟨rfl, hb⟩; replace HO := HO.call hb; clear hb)))
      refine bodyPost_ret (v := .tuple #[.string ⟨(varF 10 1 ++ putOrd id ref sku qty amt).toArray⟩, .int .i64 0]) ?_ rfl ?_
      · (simp only [results, Tryd.results36]; go_simp)
      exact ⟨by rw [HQ.out, HC.out]; rfl, HO.grown⟩
    · have HQ := Lib.hid hp
      have hko : keyOk o 0 = true := by
        cases hk : keyOk o 0
        · simp [checkE, hk] at hc
        · rfl
      have hb2 := keyOk_in hko
      obtain ⟨n, rfl⟩ := Int.eq_ofNat_of_zero_le (show 0 ≤ o by omega)
      have e1 := wrap_u64 n (by omega)
      have V : ∀ w, Calls Tryd.prog 62 #[.int .i64 2] w fun e w' => e = .returned (.string ⟨(varF 10 2).toArray⟩) ∧ Below w.heap.size w w' := fun w => number_any20 2 w (by decide)
      have V1 := fun w => number_any20 n w (by omega)
      have l1 := varF_len 10 2
      have l2 := varF_len 10 n
      clear hp hc hko hb
      go_enter Tryd.func36, Tryd.ntmps36
      go_wp2_with (first | (first | go_big_skip | ((with_reducible apply wpList_loadAll HO); exact rfl; exact rfl; (repeat (with_reducible (first | exact At.head _ | apply At.tail))); infer_instance; exact rfl; exact rfl; (simp only [Act.put, List.setIfInBounds_toArray, List.set_cons_succ, List.set_cons_zero])) | ((with_reducible apply wpList_loadOne HO); exact rfl; exact rfl; (repeat (with_reducible (first | exact At.head _ | apply At.tail))); exact rfl; infer_instance; exact rfl; (simp only [Act.put, List.setIfInBounds_toArray, List.set_cons_succ, List.set_cons_zero])) | ((with_reducible apply wpList_storeAll HO); exact rfl; exact rfl; exact rfl; (repeat (with_reducible (first | exact At.head _ | apply At.tail))); infer_instance; exact rfl; exact rfl; exact rfl; exact rfl; clear HO; intro w HO; (simp only [Act.put])) | (first | ((with_reducible apply wpList_boxAgg _ HO rfl); exact rfl; exact rfl; exact rfl; clear HO; intro b0 w HO; (simp only [Act.put, List.setIfInBounds_toArray, List.set_cons_succ, List.set_cons_zero])) | ((with_reducible apply wpList_allocAgg _ HO rfl); exact rfl; infer_instance; exact rfl; clear HO; intro b0 w HO; (simp only [Act.put, List.setIfInBounds_toArray, List.set_cons_succ, List.set_cons_zero])))) | ((with_reducible apply wpList_loadPart HO); exact rfl; exact rfl; (repeat (with_reducible (first | exact At.head _ | apply At.tail))); infer_instance; exact (Nat.le_of_ble_eq_true rfl); (simp only [List.drop_succ_cons, List.drop_zero, List.take_succ_cons, List.take_zero]; rfl); exact rfl; (simp only [Act.put, List.setIfInBounds_toArray, List.set_cons_succ, List.set_cons_zero])) | (go_at_call 40; go_must ((with_reducible refine (C _ HO.grown).mono ?_); rintro e w ⟨rfl, hb⟩; replace HO := HO.call hb; clear hb)) | (go_at_call 62; first | ((with_reducible refine (V _).mono ?_); (rintro e w ⟨rfl, hb⟩; replace HO := HO.call hb; clear hb)) | ((with_reducible refine (V1 _).mono ?_); (rintro e w ⟨rfl, hb⟩; replace HO := HO.call hb; clear hb))))
      refine bodyPost_ret (v := .tuple #[.string ⟨(varF 10 2 ++ varF 10 n).toArray⟩, .int .i64 0]) ?_ rfl ?_
      · (simp only [results, Tryd.results36]; go_simp)
      exact ⟨by rw [HQ.out, HC.out]; rfl, HO.grown⟩
    · have HQ := Lib.hid hp
      have hko : keyOk o d = true := by
        cases hk : keyOk o d
        · simp [checkE, hk] at hc
        · rfl
      have hcc : c = 1 ∨ c = 2 := by have h := hc; simp [checkE, hko] at h; omega
      have hb2 := keyOk_in hko
      obtain ⟨n, rfl⟩ := Int.eq_ofNat_of_zero_le (show 0 ≤ o by omega)
      obtain ⟨m, rfl⟩ := Int.eq_ofNat_of_zero_le (show 0 ≤ d by omega)
      obtain ⟨i, rfl⟩ := Int.eq_ofNat_of_zero_le (show 0 ≤ c by omega)
      have e1 := wrap_u64 n (by omega)
      have e2 := wrap_u64 m (by omega)
      have e3 := wrap_u64 i (by omega)
      have V : ∀ w, Calls Tryd.prog 62 #[.int .i64 3] w fun e w' => e = .returned (.string ⟨(varF 10 3).toArray⟩) ∧ Below w.heap.size w w' := fun w => number_any20 3 w (by decide)
      have V1 := fun w => number_any20 n w (by omega)
      have V2 := fun w => number_any20 m w (by omega)
      have V3 := fun w => number_any20 i w (by omega)
      have l1 := varF_len 10 3
      have l2 := varF_len 10 n
      have l3 := varF_len 10 m
      have l4 := varF_len 10 i
      clear hp hc hko hcc hb
      go_enter Tryd.func36, Tryd.ntmps36
      go_wp2_with (first | (first | go_big_skip | ((with_reducible apply wpList_loadAll HO); exact rfl; exact rfl; (repeat (with_reducible (first | exact At.head _ | apply At.tail))); infer_instance; exact rfl; exact rfl; (simp only [Act.put, List.setIfInBounds_toArray, List.set_cons_succ, List.set_cons_zero])) | ((with_reducible apply wpList_loadOne HO); exact rfl; exact rfl; (repeat (with_reducible (first | exact At.head _ | apply At.tail))); exact rfl; infer_instance; exact rfl; (simp only [Act.put, List.setIfInBounds_toArray, List.set_cons_succ, List.set_cons_zero])) | ((with_reducible apply wpList_storeAll HO); exact rfl; exact rfl; exact rfl; (repeat (with_reducible (first | exact At.head _ | apply At.tail))); infer_instance; exact rfl; exact rfl; exact rfl; exact rfl; clear HO; intro w HO; (simp only [Act.put])) | (first | ((with_reducible apply wpList_boxAgg _ HO rfl); exact rfl; exact rfl; exact rfl; clear HO; intro b0 w HO; (simp only [Act.put, List.setIfInBounds_toArray, List.set_cons_succ, List.set_cons_zero])) | ((with_reducible apply wpList_allocAgg _ HO rfl); exact rfl; infer_instance; exact rfl; clear HO; intro b0 w HO; (simp only [Act.put, List.setIfInBounds_toArray, List.set_cons_succ, List.set_cons_zero])))) | ((with_reducible apply wpList_loadPart HO); exact rfl; exact rfl; (repeat (with_reducible (first | exact At.head _ | apply At.tail))); infer_instance; exact (Nat.le_of_ble_eq_true rfl); (simp only [List.drop_succ_cons, List.drop_zero, List.take_succ_cons, List.take_zero]; rfl); exact rfl; (simp only [Act.put, List.setIfInBounds_toArray, List.set_cons_succ, List.set_cons_zero])) | (go_at_call 40; go_must ((with_reducible refine (C _ HO.grown).mono ?_); rintro e w ⟨rfl, hb⟩; replace HO := HO.call hb; clear hb)) | (go_at_call 62; go_must ((with_reducible refine (V _).mono ?_); rintro e w ⟨rfl, hb⟩; replace HO := HO.call hb; clear hb)))
      refine region_own HO (by kernel_rfl) (by kernel_rfl) ?_
      clear HO
      intro F HF
      repeat (first | (first | go_big_quiet_skip | ((with_reducible apply wpQuiet_loadAll HF); exact rfl; exact rfl; (repeat (with_reducible (first | exact At.head _ | apply At.tail))); infer_instance; exact rfl; exact rfl; (simp only [Act.put, List.setIfInBounds_toArray, List.set_cons_succ, List.set_cons_zero])) | ((with_reducible apply wpQuiet_loadOne HF); exact rfl; exact rfl; (repeat (with_reducible (first | exact At.head _ | apply At.tail))); exact rfl; infer_instance; exact rfl; (simp only [Act.put, List.setIfInBounds_toArray, List.set_cons_succ, List.set_cons_zero])) | ((with_reducible apply wpQuiet_loadPart HF); exact rfl; exact rfl; (repeat (with_reducible (first | exact At.head _ | apply At.tail))); infer_instance; exact (Nat.le_of_ble_eq_true rfl); (simp only [List.drop_succ_cons, List.drop_zero, List.take_succ_cons, List.take_zero]; rfl); exact rfl; (simp only [Act.put, List.setIfInBounds_toArray, List.set_cons_succ, List.set_cons_zero]))) | go_big_quiet_step ((go_at_call 62; first | (with_reducible exact calls_fam HF (V1 _)) | (with_reducible exact calls_fam HF (V2 _)) | (with_reducible exact calls_fam HF (V3 _)))))
      refine wpQuiet_nil ?_
      intro x
      have HO := HF.own x
      clear HF
      generalize F x = w at *
      clear x F
      go_wp2_with fail
      refine bodyPost_ret (v := .tuple #[.string ⟨(varF 10 3 ++ (varF 10 n ++ (varF 10 m ++ varF 10 i))).toArray⟩, .int .i64 0]) ?_ rfl ?_
      · (simp only [results, Tryd.results36]; go_simp)
      exact ⟨by rw [HQ.out, HC.out]; rfl, HO.grown⟩
    · have HQ := Lib.hid hp
      have V : ∀ w, Calls Tryd.prog 62 #[.int .i64 4] w fun e w' => e = .returned (.string ⟨(varF 10 4).toArray⟩) ∧ Below w.heap.size w w' := fun w => number_any20 4 w (by decide)
      have l1 := varF_len 10 4
      have l2 := putStmt_len p q rs
      clear hp hc hb
      go_enter Tryd.func36, Tryd.ntmps36
      go_wp2_with (first | (first | go_big_skip | ((with_reducible apply wpList_loadAll HO); exact rfl; exact rfl; (repeat (with_reducible (first | exact At.head _ | apply At.tail))); infer_instance; exact rfl; exact rfl; (simp only [Act.put, List.setIfInBounds_toArray, List.set_cons_succ, List.set_cons_zero])) | ((with_reducible apply wpList_loadOne HO); exact rfl; exact rfl; (repeat (with_reducible (first | exact At.head _ | apply At.tail))); exact rfl; infer_instance; exact rfl; (simp only [Act.put, List.setIfInBounds_toArray, List.set_cons_succ, List.set_cons_zero])) | ((with_reducible apply wpList_storeAll HO); exact rfl; exact rfl; exact rfl; (repeat (with_reducible (first | exact At.head _ | apply At.tail))); infer_instance; exact rfl; exact rfl; exact rfl; exact rfl; clear HO; intro w HO; (simp only [Act.put])) | (first | ((with_reducible apply wpList_boxAgg _ HO rfl); exact rfl; exact rfl; exact rfl; clear HO; intro b0 w HO; (simp only [Act.put, List.setIfInBounds_toArray, List.set_cons_succ, List.set_cons_zero])) | ((with_reducible apply wpList_allocAgg _ HO rfl); exact rfl; infer_instance; exact rfl; clear HO; intro b0 w HO; (simp only [Act.put, List.setIfInBounds_toArray, List.set_cons_succ, List.set_cons_zero])))) | ((with_reducible apply wpList_loadPart HO); exact rfl; exact rfl; (repeat (with_reducible (first | exact At.head _ | apply At.tail))); infer_instance; exact (Nat.le_of_ble_eq_true rfl); (simp only [List.drop_succ_cons, List.drop_zero, List.take_succ_cons, List.take_zero]; rfl); exact rfl; (simp only [Act.put, List.setIfInBounds_toArray, List.set_cons_succ, List.set_cons_zero])) | (go_at_call 40; go_must ((with_reducible refine (C _ HO.grown).mono ?_); rintro e w ⟨rfl, hb⟩; replace HO := HO.call hb; clear hb)) | (go_at_call 62; go_must ((with_reducible refine (V _).mono ?_); rintro e w ⟨rfl, hb⟩; replace HO := HO.call hb; clear hb)) | (go_at_call 64; go_must ((with_reducible refine (S _ HO.grown).mono ?_); rintro e w ⟨rfl, hb⟩; replace HO := HO.call hb; clear hb)))
      refine bodyPost_ret (v := .tuple #[.string ⟨(varF 10 4 ++ putStmt p q rs).toArray⟩, .int .i64 0]) ?_ rfl ?_
      · (simp only [results, Tryd.results36]; go_simp)
      exact ⟨by rw [HQ.out, HC.out]; rfl, HO.grown⟩
end Go.Proofs.YtlfphfklcifgpaaDoor

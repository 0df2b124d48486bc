/-
  Whether a saga may be, by walking the document's text; conditions: texts no longer than memory bears.
-/
import Derived.Test.YtlfphfklcifgpaaSagaAll
import Derived.Test.YtlfphfklcifgpaaSagaDr
namespace Go.Proofs.Ytlfphfklcifgpaa
open Go.RowKit Go.Own

theorem take_has {A : List D6} {t : D6} {k : Nat} (hk : k < A.length) (h : t ∉ A.take k) : (t ∈ A.take (k + 1)) ↔ A[k] = t := by
  rw [List.take_succ_eq_append_getElem hk]
  simp only [List.mem_append, h, false_or, List.mem_singleton]
  exact eq_comm
set_option maxHeartbeats 16000000 in
set_option maxRecDepth 100000 in
theorem refValid_any (o : OrdS) (s : D6) (W : World) (h1 : o.ref.length ≤ maxLen) (h2 : o.sku.length ≤ maxLen) :
    Calls Try.prog 17 #[sagaV o s] W fun e w' => e = .returned (.bool (validS o s)) ∧ Below W.heap.size W w' := by
  have CK := fun w => refOrdCheck_any o.id o.ref o.sku o.qty o.amt w h1 h2
  have G := fun w => refBegin_any o w
  simp only [sagaV_cs, ordV] at G ⊢
  by_cases hk : ordCheck o.id o.ref o.sku o.qty o.amt = 0
  rotate_left
  · have HQ := Lib.hid (show validS o s = false by simp [validS, hk])
    generalize ordCheck o.id o.ref o.sku o.qty o.amt = q at *
    have hkn : (q != 0) = true := by simpa using hk
    clear hk
    simp only [sagaCs]
    go_enter Try.func17, Try.ntmps17
    have HO := Own.start W
    go_wp2_with (first | ((with_reducible apply wpList_loadPart HO); exact rfl; exact rfl; (repeat (with_reducible (first | exact At.head _ | apply At.tail))); infer_instance; exact (Nat.le_of_ble_eq_true rfl); (simp only [List.drop_succ_cons, List.drop_zero, List.take_succ_cons, List.take_zero]; rfl); exact rfl; (simp only [Act.put, List.setIfInBounds_toArray, List.set_cons_succ, List.set_cons_zero])) | (first | go_big_skip | ((with_reducible apply wpList_loadAll HO); exact rfl; exact rfl; (repeat (with_reducible (first | exact At.head _ | apply At.tail))); infer_instance; exact rfl; exact rfl; (simp only [Act.put, List.setIfInBounds_toArray, List.set_cons_succ, List.set_cons_zero])) | ((with_reducible apply wpList_loadOne HO); exact rfl; exact rfl; (repeat (with_reducible (first | exact At.head _ | apply At.tail))); exact rfl; infer_instance; exact rfl; (simp only [Act.put, List.setIfInBounds_toArray, List.set_cons_succ, List.set_cons_zero])) | ((with_reducible apply wpList_storeAll HO); exact rfl; exact rfl; exact rfl; (repeat (with_reducible (first | exact At.head _ | apply At.tail))); infer_instance; exact rfl; exact rfl; exact rfl; exact rfl; clear HO; intro w HO; (simp only [Act.put, List.setIfInBounds_toArray, List.set_cons_succ, List.set_cons_zero])) | (first | ((with_reducible apply wpList_boxAgg _ HO rfl); exact rfl; exact rfl; exact rfl; clear HO; intro b1 w HO; (simp only [Act.put, List.setIfInBounds_toArray, List.set_cons_succ, List.set_cons_zero])) | ((with_reducible apply wpList_allocAgg _ HO rfl); exact rfl; infer_instance; exact rfl; clear HO; intro b1 w HO; (simp only [Act.put, List.setIfInBounds_toArray, List.set_cons_succ, List.set_cons_zero])))) | (go_at_call 26; go_must ((with_reducible refine (CK _).mono ?_); rintro e w ⟨rfl, hb⟩; replace HO := HO.call hb; clear hb)))
    go_ret
    exact ⟨by rw [HQ.out]; rfl, HO.grown⟩
  have HQ := Lib.hid (show validS o s = decide (s ∈ allI 19) by simp [validS, hk, allI_RL])
  rw [hk] at CK
  clear hk
  obtain ⟨A, hA⟩ : ∃ A : List D6, A = allI 19 := ⟨_, rfl⟩
  have hlen : A.length = 19 := by rw [hA]; exact allI_end
  rw [← hA] at HQ
  have HA := Lib.hid hA
  have HN := Lib.hid hlen
  have HL := Lib.hid (csLen o A)
  clear hA hlen
  unfold sagaCs
  go_enter Try.func17, Try.ntmps17
  have HO := Own.start W
  go_wp2_with (first | ((with_reducible apply wpList_loadPart HO); exact rfl; exact rfl; (repeat (with_reducible (first | exact At.head _ | apply At.tail))); infer_instance; exact (Nat.le_of_ble_eq_true rfl); (simp only [List.drop_succ_cons, List.drop_zero, List.take_succ_cons, List.take_zero]; rfl); exact rfl; (simp only [Act.put, List.setIfInBounds_toArray, List.set_cons_succ, List.set_cons_zero])) | (first | go_big_skip | ((with_reducible apply wpList_loadAll HO); exact rfl; exact rfl; (repeat (with_reducible (first | exact At.head _ | apply At.tail))); infer_instance; exact rfl; exact rfl; (simp only [Act.put, List.setIfInBounds_toArray, List.set_cons_succ, List.set_cons_zero])) | ((with_reducible apply wpList_loadOne HO); exact rfl; exact rfl; (repeat (with_reducible (first | exact At.head _ | apply At.tail))); exact rfl; infer_instance; exact rfl; (simp only [Act.put, List.setIfInBounds_toArray, List.set_cons_succ, List.set_cons_zero])) | ((with_reducible apply wpList_storeAll HO); exact rfl; exact rfl; exact rfl; (repeat (with_reducible (first | exact At.head _ | apply At.tail))); infer_instance; exact rfl; exact rfl; exact rfl; exact rfl; clear HO; intro w HO; (simp only [Act.put, List.setIfInBounds_toArray, List.set_cons_succ, List.set_cons_zero])) | (first | ((with_reducible apply wpList_boxAgg _ HO rfl); exact rfl; exact rfl; exact rfl; clear HO; intro b1 w HO; (simp only [Act.put, List.setIfInBounds_toArray, List.set_cons_succ, List.set_cons_zero])) | ((with_reducible apply wpList_allocAgg _ HO rfl); exact rfl; infer_instance; exact rfl; clear HO; intro b1 w HO; (simp only [Act.put, List.setIfInBounds_toArray, List.set_cons_succ, List.set_cons_zero])))) | (first | ((with_reducible apply wpList_lit1 HO); exact rfl; infer_instance; infer_instance; exact rfl; exact rfl; exact (by decide); exact rfl; clear HO; intro b2 w HO; (simp only [Act.put, List.setIfInBounds_toArray, List.set_cons_succ, List.set_cons_zero])) | ((with_reducible apply wpList_lit1c HO); exact rfl; infer_instance; infer_instance; (first | (simp [Act.eval]; rfl) | exact rfl); exact rfl; exact rfl; clear HO; intro b2 w HO; (simp only [Act.put, List.setIfInBounds_toArray, List.set_cons_succ, List.set_cons_zero]))) | (go_at_call 26; go_must ((with_reducible refine (CK _).mono ?_); rintro e w ⟨rfl, hb⟩; replace HO := HO.call hb; clear hb)) | (go_at_call 20; go_must ((with_reducible refine (G _).mono ?_); rintro e w ⟨rfl, hb⟩; replace HO := HO.call hb; clear hb)) | (go_at_call 27; go_must (refine (refAll_any o (HO.litRow (A := [sagaCs o beginD]) (k := 12) (by intro l hl; rw [List.mem_singleton.1 hl]; rfl) rfl (by simp) (Nat.le_of_ble_eq_true rfl))).mono ?_; clear HO; rintro e w ⟨v2, rfl, HO⟩; rw [← HA.out] at HO)))
  obtain ⟨q, c, rfl⟩ := (HO.rowForm (.head _)).2 (by rw [List.length_map, HN.out]; decide)
  rw [List.length_map, HN.out] at HO ⊢
  go_loopw [4] (fun i wr => ∃ k : Nat, k ≤ 19 ∧ i = .int .i64 (k : Int) ∧ s ∉ A.take k ∧ Own W wr [row 34 12 (.slice (some q) 19 c) (A.map (sagaCs o)), box b1 (.cells (sagaCs o s).toArray 34)]) (fun i _ => 19 - (intOf i).toNat)
  case atStart => exact ⟨0, by omega, rfl, by simp, HO⟩
  case round =>
    clear HO
    obtain ⟨k, hk, rfl, hin, HO⟩ := hrel
    by_cases hk19 : k = 19
    · subst hk19
      have HX := Lib.hid (show validS o s = false by rw [HQ.out]; rw [List.take_of_length_le (Nat.le_of_eq HN.out)] at hin; simp [hin])
      clear hin
      go_wp2_with fail
      go_ret
      exact ⟨by rw [HX.out]; rfl, HO.grown⟩
    · have hk' : (k : Int) < 19 := by omega
      have hkA : k < A.length := by rw [HN.out]; omega
      have HB := Lib.hid (cs_get (o := o) (List.getElem?_eq_getElem hkA))
      have HT := Lib.hid (take_has hkA hin)
      have HM := Lib.hid (List.getElem_mem hkA)
      clear hk19
      generalize A[k] = z at *
      clear hkA
      go_wp2_with fail
      refine region_own HO (by kernel_rfl) (by kernel_rfl) ?_
      clear HO
      intro F HF
      repeat (first | (first | go_big_quiet_skip | ((with_reducible apply wpQuiet_loadAll HF); exact rfl; exact rfl; (repeat (with_reducible (first | exact At.head _ | apply At.tail))); infer_instance; exact rfl; exact rfl; (simp only [Act.put, List.setIfInBounds_toArray, List.set_cons_succ, List.set_cons_zero])) | ((with_reducible apply wpQuiet_loadOne HF); exact rfl; exact rfl; (repeat (with_reducible (first | exact At.head _ | apply At.tail))); exact rfl; infer_instance; exact rfl; (simp only [Act.put, List.setIfInBounds_toArray, List.set_cons_succ, List.set_cons_zero])) | ((with_reducible apply wpQuiet_loadPart HF); exact rfl; exact rfl; (repeat (with_reducible (first | exact At.head _ | apply At.tail))); infer_instance; exact (Nat.le_of_ble_eq_true rfl); (simp only [List.drop_succ_cons, List.drop_zero, List.take_succ_cons, List.take_zero]; rfl); exact rfl; (simp only [Act.put, List.setIfInBounds_toArray, List.set_cons_succ, List.set_cons_zero]))) | ((with_reducible apply wpQuiet_loadRow HF); exact rfl; exact rfl; (repeat (with_reducible (first | exact At.head _ | apply At.tail))); exact (HL).out; exact (HB).out; infer_instance; exact rfl; exact rfl; (simp only [Act.put, List.setIfInBounds_toArray, List.set_cons_succ, List.set_cons_zero])) | ((with_reducible apply wpQuiet_pure); exact run_op_eql o o z s rfl rfl rfl; exact rfl; (simp only [Act.put, List.setIfInBounds_toArray, List.set_cons_succ, List.set_cons_zero])) | go_big_quiet_step (fail))
      refine wpQuiet_nil ?_
      intro x
      have HO := HF.own x
      clear HF
      generalize F x = w at *
      clear x F
      rw [sagaEqB_same]
      by_cases hz : z = s
      · have hb : decide (z = s) = true := by simpa using hz
        have HX := Lib.hid (show validS o s = true by rw [HQ.out]; simpa [← hz] using HM.out)
        rw [hb]
        clear hz hin hb
        go_wp2_with fail
        go_ret
        exact ⟨by rw [HX.out]; rfl, HO.grown⟩
      · have hb : decide (z = s) = false := by simpa using hz
        have HX := Lib.hid (show s ∉ A.take (k + 1) from fun h => hz (HT.out.1 h))
        rw [hb]
        clear hz hin hb
        go_wp2_with fail
        go_roundw
        case rel => exact ⟨k + 1, by omega, by go_num, HX.out, HO⟩
        case measure => simp [intOf] <;> omega
end Go.Proofs.Ytlfphfklcifgpaa

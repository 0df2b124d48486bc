/-
  What the document's intake says of a deed, and of an order; whether both are alike, by walking the texts; conditions: the rows lie in memory. (Printed by wip/mkintref.py.)
-/
import Derived.Test.YtlfphfklcifgpaaDoorIntNew
namespace Go.Proofs.YtlfphfklcifgpaaDoor
open Go.RowKit Go.Own Go.Maps

theorem find_step {α : Type} {f : α → Bool} {l : List α} {j : Nat} (hj : j < l.length) (h : (l.take j).find? f = none) : (f l[j] = true → l.find? f = some l[j]) ∧ (f l[j] = false → (l.take (j + 1)).find? f = none) := by
  constructor
  · intro hf
    have h2 : (l.take j ++ l.drop j).find? f = some l[j] := by rw [List.find?_append, h, List.drop_eq_getElem_cons hj, List.find?_cons, hf]; rfl
    rwa [List.take_append_drop] at h2
  · intro hf
    rw [List.take_succ_eq_append_getElem hj, List.find?_append, h]
    simp [hf]

set_option maxHeartbeats 8000000 in
set_option maxRecDepth 100000 in
theorem refRow_any {W : World} {v0 v1 v2 : Value} (A : InS) (o d : Int) (h0 : IsRows W v0 A.r0) (h1 : IsRows W v1 A.r1) (h2 : IsRows W v2 A.r2) :
    Calls Tryd.prog 20 #[.agg #[.int .i64 (A).p0, .int .i64 (A).q0, v0, .int .i64 (A).p1, .int .i64 (A).q1, v1, .int .i64 (A).p2, .int .i64 (A).q2, v2], .agg #[.int .i64 o, .int .i64 d]] W fun e w' => e = .returned (.tuple #[rowT (rowOf A o d), .bool (rowOf A o d).isSome]) ∧ Below W.heap.size W w' := by
  have K := fun w => refKeyCheck_any o d w
  have PA := fun w => refParty_any d w
  have HO := Own.start W
  cases hk : keyOk o d
  · have HQ := Lib.hid (show rowOf A o d = none by simp [rowOf, hk])
    rw [hk] at K
    obtain ⟨s0, c0, rfl, -⟩ := h0.slice
    obtain ⟨s1, c1, rfl, -⟩ := h1.slice
    obtain ⟨s2, c2, rfl, -⟩ := h2.slice
    generalize A.r0.length = n0 at *
    generalize A.r1.length = n1 at *
    generalize A.r2.length = n2 at *
    clear h0 h1 h2 hk PA
    go_enter Tryd.func20, Tryd.ntmps20
    go_wp2_with (first | ((with_reducible apply wpList_boxAgg _ HO rfl); exact rfl; exact rfl; exact rfl; clear HO; intro b2 w HO; (simp only [Act.put, List.setIfInBounds_toArray, List.set_cons_succ, List.set_cons_zero])) | (first | go_big_skip | ((with_reducible apply wpList_loadAll HO); exact rfl; exact rfl; (repeat (with_reducible (first | exact At.head _ | apply At.tail))); infer_instance; exact rfl; exact rfl; (simp only [Act.put, List.setIfInBounds_toArray, List.set_cons_succ, List.set_cons_zero])) | ((with_reducible apply wpList_loadOne HO); exact rfl; exact rfl; (repeat (with_reducible (first | exact At.head _ | apply At.tail))); exact rfl; infer_instance; exact rfl; (simp only [Act.put, List.setIfInBounds_toArray, List.set_cons_succ, List.set_cons_zero]))) | ((with_reducible apply wpList_storeAll HO); exact rfl; exact rfl; exact rfl; (repeat (with_reducible (first | exact At.head _ | apply At.tail))); infer_instance; exact rfl; exact rfl; exact rfl; exact rfl; clear HO; intro w HO; (simp only [Act.put])) | ((with_reducible apply wpList_allocAgg _ HO rfl); exact rfl; infer_instance; exact rfl; clear HO; intro b4 w HO; (simp only [Act.put, List.setIfInBounds_toArray, List.set_cons_succ, List.set_cons_zero])) | (go_at_call 47; go_must ((with_reducible refine (K _).mono ?_); rintro e w ⟨rfl, hb⟩; replace HO := HO.call hb; clear hb)))
    refine bodyPost_ret (results_box HO rfl rfl (by (repeat (with_reducible (first | exact At.head _ | apply At.tail)))) inferInstance rfl rfl) rfl ?_
    rw [HQ.out]
    exact ⟨rfl, HO.grown⟩
  · have hd : 0 ≤ d ∧ d < 6 := by simp only [keyOk, isDeed, Bool.and_eq_true, decide_eq_true_eq] at hk; omega
    have hp : partyOf d = 0 ∨ partyOf d = 1 ∨ partyOf d = 2 := by unfold partyOf; omega
    have HQ := Lib.hid (show rowOf A o d = (A.rows (partyOf d)).find? (fun r => decide (r.o = o) && decide (r.d = d)) by simp [rowOf, hk])
    rw [hk] at K
    clear hk hd
    rcases hp with hp | hp | hp
    · rw [hp] at PA HQ
      have HQ2 := Lib.hid (show rowOf A o d = A.r0.find? (fun r => decide (r.o = o) && decide (r.d = d)) from HQ.out)
      have HH := Lib.hid h0
      obtain ⟨s0, c0, rfl, -⟩ := h0.slice
      obtain ⟨s1, c1, rfl, -⟩ := h1.slice
      obtain ⟨s2, c2, rfl, -⟩ := h2.slice
      have hmx : (A.r0.length : Int) ≤ 9223372036854775807 := by have := h0.slice; obtain ⟨_, _, _, hm⟩ := this; unfold maxLen at hm; omega
      generalize A.r0 = rs at *
      generalize rowOf A o d = z at *
      clear h0 h1 h2 hp HQ
      go_enter Tryd.func20, Tryd.ntmps20
      go_wp2_with (first | ((have _h : Own W _ (box _ _ :: _) := HO); clear _h; ((with_reducible apply wpList_boxAgg _ HO rfl); exact rfl; exact rfl; exact rfl; clear HO; intro b3 w HO; (simp only [Act.put, List.setIfInBounds_toArray, List.set_cons_succ, List.set_cons_zero]))) | ((with_reducible apply wpList_boxAgg _ HO rfl); exact rfl; exact rfl; exact rfl; clear HO; intro b2 w HO; (simp only [Act.put, List.setIfInBounds_toArray, List.set_cons_succ, List.set_cons_zero])) | (first | go_big_skip | ((with_reducible apply wpList_loadAll HO); exact rfl; exact rfl; (repeat (with_reducible (first | exact At.head _ | apply At.tail))); infer_instance; exact rfl; exact rfl; (simp only [Act.put, List.setIfInBounds_toArray, List.set_cons_succ, List.set_cons_zero])) | ((with_reducible apply wpList_loadOne HO); exact rfl; exact rfl; (repeat (with_reducible (first | exact At.head _ | apply At.tail))); exact rfl; infer_instance; exact rfl; (simp only [Act.put, List.setIfInBounds_toArray, List.set_cons_succ, List.set_cons_zero]))) | ((with_reducible apply wpList_storeAll HO); exact rfl; exact rfl; exact rfl; (repeat (with_reducible (first | exact At.head _ | apply At.tail))); infer_instance; exact rfl; exact rfl; exact rfl; exact rfl; clear HO; intro w HO; (simp only [Act.put])) | ((with_reducible apply wpList_loadPart HO); exact rfl; exact rfl; (repeat (with_reducible (first | exact At.head _ | apply At.tail))); infer_instance; exact (Nat.le_of_ble_eq_true rfl); (simp only [List.drop_succ_cons, List.drop_zero, List.take_succ_cons, List.take_zero]; rfl); exact rfl; (simp only [Act.put, List.setIfInBounds_toArray, List.set_cons_succ, List.set_cons_zero])) | ((with_reducible apply wpList_allocAgg _ HO rfl); exact rfl; infer_instance; exact rfl; clear HO; intro b4 w HO; (simp only [Act.put, List.setIfInBounds_toArray, List.set_cons_succ, List.set_cons_zero])) | (go_at_call 47; go_must ((with_reducible refine (K _).mono ?_); rintro e w ⟨rfl, hb⟩; replace HO := HO.call hb; clear hb)) | (go_at_call 48; go_must ((with_reducible refine (PA _).mono ?_); rintro e w ⟨rfl, hb⟩; replace HO := HO.call hb; clear hb)))
      go_loopw [7] (fun i wr => ∃ j : Nat, j ≤ rs.length ∧ i = .int .i64 (j : Int) ∧ (rs.take j).find? (fun r => decide (r.o = o) && decide (r.d = d)) = none ∧ Own W wr [box b4 (.cells #[.int .i64 0, .int .i64 0, .int .i64 0, .int .i64 0, .int .i64 0] 45), box b3 (.cells #[.int .i64 o, .int .i64 d] 43)]) (fun i _ => rs.length - (intOf i).toNat)
      case atStart => exact ⟨0, by omega, rfl, rfl, HO.sub (by with_reducible (repeat (first | exact List.Sublist.refl _ | apply List.Sublist.cons_cons | apply List.Sublist.cons)))⟩
      case round =>
        clear HO
        obtain ⟨j, hj, rfl, hf, HO⟩ := hrel
        by_cases hjl : j < rs.length
        · have hjI : (j : Int) < (rs.length : Int) := by omega
          obtain ⟨a, rfl, hcell⟩ := oldRow HH.out rfl hjl
          have hst := find_step hjl hf
          generalize rs[j] = r at *
          obtain ⟨ro, rd, rc, ra, rq⟩ := r
          simp only at hst
          have HCK := Lib.hid (fun (w' : World) (h1 : Own W w' [box b4 (.cells #[.int .i64 0, .int .i64 0, .int .i64 0, .int .i64 0, .int .i64 0] 45), box b3 (.cells #[.int .i64 o, .int .i64 d] 43)]) => (show ∀ i u, [Value.int .i64 ro, .int .i64 rd][i]? = some u → w'.cell? ((a.add (j * 5)).add i) = some u from fun i u hu => hcell w' _ h1 i u (by match i, hu with | 0, hu => exact hu | 1, hu => exact hu)))
          have HCR := Lib.hid (fun (w' : World) (h1 : Own W w' [box b4 (.cells #[.int .i64 0, .int .i64 0, .int .i64 0, .int .i64 0, .int .i64 0] 45), box b3 (.cells #[.int .i64 o, .int .i64 d] 43)]) => hcell w' _ h1)
          have RK := fun w => run_key_eql ro rd o d w
          have HST := Lib.hid hst
          clear hst hcell hf
          generalize hB : (decide (ro = o) && decide (rd = d)) = B at *
          clear hB
          go_wp2_with fail
          refine region_own HO (by kernel_rfl) (by kernel_rfl) ?_
          clear HO
          intro F HF
          repeat (first | (first | (first | go_big_quiet_skip | ((with_reducible apply wpQuiet_loadAll HF); exact rfl; exact rfl; (repeat (with_reducible (first | exact At.head _ | apply At.tail))); infer_instance; exact rfl; exact rfl; (simp only [Act.put, List.setIfInBounds_toArray, List.set_cons_succ, List.set_cons_zero])) | ((with_reducible apply wpQuiet_loadOne HF); exact rfl; exact rfl; (repeat (with_reducible (first | exact At.head _ | apply At.tail))); exact rfl; infer_instance; exact rfl; (simp only [Act.put, List.setIfInBounds_toArray, List.set_cons_succ, List.set_cons_zero])) | ((with_reducible apply wpQuiet_loadPart HF); exact rfl; exact rfl; (repeat (with_reducible (first | exact At.head _ | apply At.tail))); infer_instance; exact (Nat.le_of_ble_eq_true rfl); (simp only [List.drop_succ_cons, List.drop_zero, List.take_succ_cons, List.take_zero]; rfl); exact rfl; (simp only [Act.put, List.setIfInBounds_toArray, List.set_cons_succ, List.set_cons_zero]))) | ((with_reducible apply wpQuiet_loadAt HF); exact rfl; exact rfl; exact (HCK.out); infer_instance; exact rfl; exact rfl; (simp only [Act.put, List.setIfInBounds_toArray, List.set_cons_succ, List.set_cons_zero]))) | go_big_quiet_step (fail))
          refine wpQuiet_nil ?_
          intro x
          have HO := HF.own x
          clear HF
          generalize F x = w at *
          clear x F
          cases B
          · go_wp2_with fail
            go_roundw
            case rel => exact ⟨j + 1, by omega, by go_num, HST.out.2 (by first | rfl | trivial), HO⟩
            case measure => simp [intOf] <;> omega
          · go_wp2_with (first | (first | go_big_skip | ((with_reducible apply wpList_loadAll HO); exact rfl; exact rfl; (repeat (with_reducible (first | exact At.head _ | apply At.tail))); infer_instance; exact rfl; exact rfl; (simp only [Act.put, List.setIfInBounds_toArray, List.set_cons_succ, List.set_cons_zero])) | ((with_reducible apply wpList_loadOne HO); exact rfl; exact rfl; (repeat (with_reducible (first | exact At.head _ | apply At.tail))); exact rfl; infer_instance; exact rfl; (simp only [Act.put, List.setIfInBounds_toArray, List.set_cons_succ, List.set_cons_zero]))) | ((with_reducible apply wpList_storeAll HO); exact rfl; exact rfl; exact rfl; (repeat (with_reducible (first | exact At.head _ | apply At.tail))); infer_instance; exact rfl; exact rfl; exact rfl; exact rfl; clear HO; intro w HO; (simp only [Act.put])) | ((with_reducible apply wpList_loadAt HO); exact rfl; exact rfl; exact (HCR.out); infer_instance; exact rfl; exact rfl; (simp only [Act.put, List.setIfInBounds_toArray, List.set_cons_succ, List.set_cons_zero])))
            refine bodyPost_ret (results_box HO rfl rfl (by (repeat (with_reducible (first | exact At.head _ | apply At.tail)))) inferInstance rfl rfl) rfl ?_
            rw [HQ2.out, HST.out.1 (by first | rfl | trivial)]
            exact ⟨rfl, HO.grown⟩
        · obtain rfl : j = rs.length := by omega
          rw [List.take_length] at hf
          have HF := Lib.hid hf
          clear hf
          go_wp2_with (first | (first | go_big_skip | ((with_reducible apply wpList_loadAll HO); exact rfl; exact rfl; (repeat (with_reducible (first | exact At.head _ | apply At.tail))); infer_instance; exact rfl; exact rfl; (simp only [Act.put, List.setIfInBounds_toArray, List.set_cons_succ, List.set_cons_zero])) | ((with_reducible apply wpList_loadOne HO); exact rfl; exact rfl; (repeat (with_reducible (first | exact At.head _ | apply At.tail))); exact rfl; infer_instance; exact rfl; (simp only [Act.put, List.setIfInBounds_toArray, List.set_cons_succ, List.set_cons_zero]))) | ((with_reducible apply wpList_storeAll HO); exact rfl; exact rfl; exact rfl; (repeat (with_reducible (first | exact At.head _ | apply At.tail))); infer_instance; exact rfl; exact rfl; exact rfl; exact rfl; clear HO; intro w HO; (simp only [Act.put])))
          refine bodyPost_ret (results_box HO rfl rfl (by (repeat (with_reducible (first | exact At.head _ | apply At.tail)))) inferInstance rfl rfl) rfl ?_
          rw [HQ2.out, HF.out]
          exact ⟨rfl, HO.grown⟩
    · rw [hp] at PA HQ
      have HQ2 := Lib.hid (show rowOf A o d = A.r1.find? (fun r => decide (r.o = o) && decide (r.d = d)) from HQ.out)
      have HH := Lib.hid h1
      obtain ⟨s0, c0, rfl, -⟩ := h0.slice
      obtain ⟨s1, c1, rfl, -⟩ := h1.slice
      obtain ⟨s2, c2, rfl, -⟩ := h2.slice
      have hmx : (A.r1.length : Int) ≤ 9223372036854775807 := by have := h1.slice; obtain ⟨_, _, _, hm⟩ := this; unfold maxLen at hm; omega
      generalize A.r1 = rs at *
      generalize rowOf A o d = z at *
      clear h0 h1 h2 hp HQ
      go_enter Tryd.func20, Tryd.ntmps20
      go_wp2_with (first | ((have _h : Own W _ (box _ _ :: _) := HO); clear _h; ((with_reducible apply wpList_boxAgg _ HO rfl); exact rfl; exact rfl; exact rfl; clear HO; intro b3 w HO; (simp only [Act.put, List.setIfInBounds_toArray, List.set_cons_succ, List.set_cons_zero]))) | ((with_reducible apply wpList_boxAgg _ HO rfl); exact rfl; exact rfl; exact rfl; clear HO; intro b2 w HO; (simp only [Act.put, List.setIfInBounds_toArray, List.set_cons_succ, List.set_cons_zero])) | (first | go_big_skip | ((with_reducible apply wpList_loadAll HO); exact rfl; exact rfl; (repeat (with_reducible (first | exact At.head _ | apply At.tail))); infer_instance; exact rfl; exact rfl; (simp only [Act.put, List.setIfInBounds_toArray, List.set_cons_succ, List.set_cons_zero])) | ((with_reducible apply wpList_loadOne HO); exact rfl; exact rfl; (repeat (with_reducible (first | exact At.head _ | apply At.tail))); exact rfl; infer_instance; exact rfl; (simp only [Act.put, List.setIfInBounds_toArray, List.set_cons_succ, List.set_cons_zero]))) | ((with_reducible apply wpList_storeAll HO); exact rfl; exact rfl; exact rfl; (repeat (with_reducible (first | exact At.head _ | apply At.tail))); infer_instance; exact rfl; exact rfl; exact rfl; exact rfl; clear HO; intro w HO; (simp only [Act.put])) | ((with_reducible apply wpList_loadPart HO); exact rfl; exact rfl; (repeat (with_reducible (first | exact At.head _ | apply At.tail))); infer_instance; exact (Nat.le_of_ble_eq_true rfl); (simp only [List.drop_succ_cons, List.drop_zero, List.take_succ_cons, List.take_zero]; rfl); exact rfl; (simp only [Act.put, List.setIfInBounds_toArray, List.set_cons_succ, List.set_cons_zero])) | ((with_reducible apply wpList_allocAgg _ HO rfl); exact rfl; infer_instance; exact rfl; clear HO; intro b4 w HO; (simp only [Act.put, List.setIfInBounds_toArray, List.set_cons_succ, List.set_cons_zero])) | (go_at_call 47; go_must ((with_reducible refine (K _).mono ?_); rintro e w ⟨rfl, hb⟩; replace HO := HO.call hb; clear hb)) | (go_at_call 48; go_must ((with_reducible refine (PA _).mono ?_); rintro e w ⟨rfl, hb⟩; replace HO := HO.call hb; clear hb)))
      go_loopw [7] (fun i wr => ∃ j : Nat, j ≤ rs.length ∧ i = .int .i64 (j : Int) ∧ (rs.take j).find? (fun r => decide (r.o = o) && decide (r.d = d)) = none ∧ Own W wr [box b4 (.cells #[.int .i64 0, .int .i64 0, .int .i64 0, .int .i64 0, .int .i64 0] 45), box b3 (.cells #[.int .i64 o, .int .i64 d] 43)]) (fun i _ => rs.length - (intOf i).toNat)
      case atStart => exact ⟨0, by omega, rfl, rfl, HO.sub (by with_reducible (repeat (first | exact List.Sublist.refl _ | apply List.Sublist.cons_cons | apply List.Sublist.cons)))⟩
      case round =>
        clear HO
        obtain ⟨j, hj, rfl, hf, HO⟩ := hrel
        by_cases hjl : j < rs.length
        · have hjI : (j : Int) < (rs.length : Int) := by omega
          obtain ⟨a, rfl, hcell⟩ := oldRow HH.out rfl hjl
          have hst := find_step hjl hf
          generalize rs[j] = r at *
          obtain ⟨ro, rd, rc, ra, rq⟩ := r
          simp only at hst
          have HCK := Lib.hid (fun (w' : World) (h1 : Own W w' [box b4 (.cells #[.int .i64 0, .int .i64 0, .int .i64 0, .int .i64 0, .int .i64 0] 45), box b3 (.cells #[.int .i64 o, .int .i64 d] 43)]) => (show ∀ i u, [Value.int .i64 ro, .int .i64 rd][i]? = some u → w'.cell? ((a.add (j * 5)).add i) = some u from fun i u hu => hcell w' _ h1 i u (by match i, hu with | 0, hu => exact hu | 1, hu => exact hu)))
          have HCR := Lib.hid (fun (w' : World) (h1 : Own W w' [box b4 (.cells #[.int .i64 0, .int .i64 0, .int .i64 0, .int .i64 0, .int .i64 0] 45), box b3 (.cells #[.int .i64 o, .int .i64 d] 43)]) => hcell w' _ h1)
          have RK := fun w => run_key_eql ro rd o d w
          have HST := Lib.hid hst
          clear hst hcell hf
          generalize hB : (decide (ro = o) && decide (rd = d)) = B at *
          clear hB
          go_wp2_with fail
          refine region_own HO (by kernel_rfl) (by kernel_rfl) ?_
          clear HO
          intro F HF
          repeat (first | (first | (first | go_big_quiet_skip | ((with_reducible apply wpQuiet_loadAll HF); exact rfl; exact rfl; (repeat (with_reducible (first | exact At.head _ | apply At.tail))); infer_instance; exact rfl; exact rfl; (simp only [Act.put, List.setIfInBounds_toArray, List.set_cons_succ, List.set_cons_zero])) | ((with_reducible apply wpQuiet_loadOne HF); exact rfl; exact rfl; (repeat (with_reducible (first | exact At.head _ | apply At.tail))); exact rfl; infer_instance; exact rfl; (simp only [Act.put, List.setIfInBounds_toArray, List.set_cons_succ, List.set_cons_zero])) | ((with_reducible apply wpQuiet_loadPart HF); exact rfl; exact rfl; (repeat (with_reducible (first | exact At.head _ | apply At.tail))); infer_instance; exact (Nat.le_of_ble_eq_true rfl); (simp only [List.drop_succ_cons, List.drop_zero, List.take_succ_cons, List.take_zero]; rfl); exact rfl; (simp only [Act.put, List.setIfInBounds_toArray, List.set_cons_succ, List.set_cons_zero]))) | ((with_reducible apply wpQuiet_loadAt HF); exact rfl; exact rfl; exact (HCK.out); infer_instance; exact rfl; exact rfl; (simp only [Act.put, List.setIfInBounds_toArray, List.set_cons_succ, List.set_cons_zero]))) | go_big_quiet_step (fail))
          refine wpQuiet_nil ?_
          intro x
          have HO := HF.own x
          clear HF
          generalize F x = w at *
          clear x F
          cases B
          · go_wp2_with fail
            go_roundw
            case rel => exact ⟨j + 1, by omega, by go_num, HST.out.2 (by first | rfl | trivial), HO⟩
            case measure => simp [intOf] <;> omega
          · go_wp2_with (first | (first | go_big_skip | ((with_reducible apply wpList_loadAll HO); exact rfl; exact rfl; (repeat (with_reducible (first | exact At.head _ | apply At.tail))); infer_instance; exact rfl; exact rfl; (simp only [Act.put, List.setIfInBounds_toArray, List.set_cons_succ, List.set_cons_zero])) | ((with_reducible apply wpList_loadOne HO); exact rfl; exact rfl; (repeat (with_reducible (first | exact At.head _ | apply At.tail))); exact rfl; infer_instance; exact rfl; (simp only [Act.put, List.setIfInBounds_toArray, List.set_cons_succ, List.set_cons_zero]))) | ((with_reducible apply wpList_storeAll HO); exact rfl; exact rfl; exact rfl; (repeat (with_reducible (first | exact At.head _ | apply At.tail))); infer_instance; exact rfl; exact rfl; exact rfl; exact rfl; clear HO; intro w HO; (simp only [Act.put])) | ((with_reducible apply wpList_loadAt HO); exact rfl; exact rfl; exact (HCR.out); infer_instance; exact rfl; exact rfl; (simp only [Act.put, List.setIfInBounds_toArray, List.set_cons_succ, List.set_cons_zero])))
            refine bodyPost_ret (results_box HO rfl rfl (by (repeat (with_reducible (first | exact At.head _ | apply At.tail)))) inferInstance rfl rfl) rfl ?_
            rw [HQ2.out, HST.out.1 (by first | rfl | trivial)]
            exact ⟨rfl, HO.grown⟩
        · obtain rfl : j = rs.length := by omega
          rw [List.take_length] at hf
          have HF := Lib.hid hf
          clear hf
          go_wp2_with (first | (first | go_big_skip | ((with_reducible apply wpList_loadAll HO); exact rfl; exact rfl; (repeat (with_reducible (first | exact At.head _ | apply At.tail))); infer_instance; exact rfl; exact rfl; (simp only [Act.put, List.setIfInBounds_toArray, List.set_cons_succ, List.set_cons_zero])) | ((with_reducible apply wpList_loadOne HO); exact rfl; exact rfl; (repeat (with_reducible (first | exact At.head _ | apply At.tail))); exact rfl; infer_instance; exact rfl; (simp only [Act.put, List.setIfInBounds_toArray, List.set_cons_succ, List.set_cons_zero]))) | ((with_reducible apply wpList_storeAll HO); exact rfl; exact rfl; exact rfl; (repeat (with_reducible (first | exact At.head _ | apply At.tail))); infer_instance; exact rfl; exact rfl; exact rfl; exact rfl; clear HO; intro w HO; (simp only [Act.put])))
          refine bodyPost_ret (results_box HO rfl rfl (by (repeat (with_reducible (first | exact At.head _ | apply At.tail)))) inferInstance rfl rfl) rfl ?_
          rw [HQ2.out, HF.out]
          exact ⟨rfl, HO.grown⟩
    · rw [hp] at PA HQ
      have HQ2 := Lib.hid (show rowOf A o d = A.r2.find? (fun r => decide (r.o = o) && decide (r.d = d)) from HQ.out)
      have HH := Lib.hid h2
      obtain ⟨s0, c0, rfl, -⟩ := h0.slice
      obtain ⟨s1, c1, rfl, -⟩ := h1.slice
      obtain ⟨s2, c2, rfl, -⟩ := h2.slice
      have hmx : (A.r2.length : Int) ≤ 9223372036854775807 := by have := h2.slice; obtain ⟨_, _, _, hm⟩ := this; unfold maxLen at hm; omega
      generalize A.r2 = rs at *
      generalize rowOf A o d = z at *
      clear h0 h1 h2 hp HQ
      go_enter Tryd.func20, Tryd.ntmps20
      go_wp2_with (first | ((have _h : Own W _ (box _ _ :: _) := HO); clear _h; ((with_reducible apply wpList_boxAgg _ HO rfl); exact rfl; exact rfl; exact rfl; clear HO; intro b3 w HO; (simp only [Act.put, List.setIfInBounds_toArray, List.set_cons_succ, List.set_cons_zero]))) | ((with_reducible apply wpList_boxAgg _ HO rfl); exact rfl; exact rfl; exact rfl; clear HO; intro b2 w HO; (simp only [Act.put, List.setIfInBounds_toArray, List.set_cons_succ, List.set_cons_zero])) | (first | go_big_skip | ((with_reducible apply wpList_loadAll HO); exact rfl; exact rfl; (repeat (with_reducible (first | exact At.head _ | apply At.tail))); infer_instance; exact rfl; exact rfl; (simp only [Act.put, List.setIfInBounds_toArray, List.set_cons_succ, List.set_cons_zero])) | ((with_reducible apply wpList_loadOne HO); exact rfl; exact rfl; (repeat (with_reducible (first | exact At.head _ | apply At.tail))); exact rfl; infer_instance; exact rfl; (simp only [Act.put, List.setIfInBounds_toArray, List.set_cons_succ, List.set_cons_zero]))) | ((with_reducible apply wpList_storeAll HO); exact rfl; exact rfl; exact rfl; (repeat (with_reducible (first | exact At.head _ | apply At.tail))); infer_instance; exact rfl; exact rfl; exact rfl; exact rfl; clear HO; intro w HO; (simp only [Act.put])) | ((with_reducible apply wpList_loadPart HO); exact rfl; exact rfl; (repeat (with_reducible (first | exact At.head _ | apply At.tail))); infer_instance; exact (Nat.le_of_ble_eq_true rfl); (simp only [List.drop_succ_cons, List.drop_zero, List.take_succ_cons, List.take_zero]; rfl); exact rfl; (simp only [Act.put, List.setIfInBounds_toArray, List.set_cons_succ, List.set_cons_zero])) | ((with_reducible apply wpList_allocAgg _ HO rfl); exact rfl; infer_instance; exact rfl; clear HO; intro b4 w HO; (simp only [Act.put, List.setIfInBounds_toArray, List.set_cons_succ, List.set_cons_zero])) | (go_at_call 47; go_must ((with_reducible refine (K _).mono ?_); rintro e w ⟨rfl, hb⟩; replace HO := HO.call hb; clear hb)) | (go_at_call 48; go_must ((with_reducible refine (PA _).mono ?_); rintro e w ⟨rfl, hb⟩; replace HO := HO.call hb; clear hb)))
      go_loopw [7] (fun i wr => ∃ j : Nat, j ≤ rs.length ∧ i = .int .i64 (j : Int) ∧ (rs.take j).find? (fun r => decide (r.o = o) && decide (r.d = d)) = none ∧ Own W wr [box b4 (.cells #[.int .i64 0, .int .i64 0, .int .i64 0, .int .i64 0, .int .i64 0] 45), box b3 (.cells #[.int .i64 o, .int .i64 d] 43)]) (fun i _ => rs.length - (intOf i).toNat)
      case atStart => exact ⟨0, by omega, rfl, rfl, HO.sub (by with_reducible (repeat (first | exact List.Sublist.refl _ | apply List.Sublist.cons_cons | apply List.Sublist.cons)))⟩
      case round =>
        clear HO
        obtain ⟨j, hj, rfl, hf, HO⟩ := hrel
        by_cases hjl : j < rs.length
        · have hjI : (j : Int) < (rs.length : Int) := by omega
          obtain ⟨a, rfl, hcell⟩ := oldRow HH.out rfl hjl
          have hst := find_step hjl hf
          generalize rs[j] = r at *
          obtain ⟨ro, rd, rc, ra, rq⟩ := r
          simp only at hst
          have HCK := Lib.hid (fun (w' : World) (h1 : Own W w' [box b4 (.cells #[.int .i64 0, .int .i64 0, .int .i64 0, .int .i64 0, .int .i64 0] 45), box b3 (.cells #[.int .i64 o, .int .i64 d] 43)]) => (show ∀ i u, [Value.int .i64 ro, .int .i64 rd][i]? = some u → w'.cell? ((a.add (j * 5)).add i) = some u from fun i u hu => hcell w' _ h1 i u (by match i, hu with | 0, hu => exact hu | 1, hu => exact hu)))
          have HCR := Lib.hid (fun (w' : World) (h1 : Own W w' [box b4 (.cells #[.int .i64 0, .int .i64 0, .int .i64 0, .int .i64 0, .int .i64 0] 45), box b3 (.cells #[.int .i64 o, .int .i64 d] 43)]) => hcell w' _ h1)
          have RK := fun w => run_key_eql ro rd o d w
          have HST := Lib.hid hst
          clear hst hcell hf
          generalize hB : (decide (ro = o) && decide (rd = d)) = B at *
          clear hB
          go_wp2_with fail
          refine region_own HO (by kernel_rfl) (by kernel_rfl) ?_
          clear HO
          intro F HF
          repeat (first | (first | (first | go_big_quiet_skip | ((with_reducible apply wpQuiet_loadAll HF); exact rfl; exact rfl; (repeat (with_reducible (first | exact At.head _ | apply At.tail))); infer_instance; exact rfl; exact rfl; (simp only [Act.put, List.setIfInBounds_toArray, List.set_cons_succ, List.set_cons_zero])) | ((with_reducible apply wpQuiet_loadOne HF); exact rfl; exact rfl; (repeat (with_reducible (first | exact At.head _ | apply At.tail))); exact rfl; infer_instance; exact rfl; (simp only [Act.put, List.setIfInBounds_toArray, List.set_cons_succ, List.set_cons_zero])) | ((with_reducible apply wpQuiet_loadPart HF); exact rfl; exact rfl; (repeat (with_reducible (first | exact At.head _ | apply At.tail))); infer_instance; exact (Nat.le_of_ble_eq_true rfl); (simp only [List.drop_succ_cons, List.drop_zero, List.take_succ_cons, List.take_zero]; rfl); exact rfl; (simp only [Act.put, List.setIfInBounds_toArray, List.set_cons_succ, List.set_cons_zero]))) | ((with_reducible apply wpQuiet_loadAt HF); exact rfl; exact rfl; exact (HCK.out); infer_instance; exact rfl; exact rfl; (simp only [Act.put, List.setIfInBounds_toArray, List.set_cons_succ, List.set_cons_zero]))) | go_big_quiet_step (fail))
          refine wpQuiet_nil ?_
          intro x
          have HO := HF.own x
          clear HF
          generalize F x = w at *
          clear x F
          cases B
          · go_wp2_with fail
            go_roundw
            case rel => exact ⟨j + 1, by omega, by go_num, HST.out.2 (by first | rfl | trivial), HO⟩
            case measure => simp [intOf] <;> omega
          · go_wp2_with (first | (first | go_big_skip | ((with_reducible apply wpList_loadAll HO); exact rfl; exact rfl; (repeat (with_reducible (first | exact At.head _ | apply At.tail))); infer_instance; exact rfl; exact rfl; (simp only [Act.put, List.setIfInBounds_toArray, List.set_cons_succ, List.set_cons_zero])) | ((with_reducible apply wpList_loadOne HO); exact rfl; exact rfl; (repeat (with_reducible (first | exact At.head _ | apply At.tail))); exact rfl; infer_instance; exact rfl; (simp only [Act.put, List.setIfInBounds_toArray, List.set_cons_succ, List.set_cons_zero]))) | ((with_reducible apply wpList_storeAll HO); exact rfl; exact rfl; exact rfl; (repeat (with_reducible (first | exact At.head _ | apply At.tail))); infer_instance; exact rfl; exact rfl; exact rfl; exact rfl; clear HO; intro w HO; (simp only [Act.put])) | ((with_reducible apply wpList_loadAt HO); exact rfl; exact rfl; exact (HCR.out); infer_instance; exact rfl; exact rfl; (simp only [Act.put, List.setIfInBounds_toArray, List.set_cons_succ, List.set_cons_zero])))
            refine bodyPost_ret (results_box HO rfl rfl (by (repeat (with_reducible (first | exact At.head _ | apply At.tail)))) inferInstance rfl rfl) rfl ?_
            rw [HQ2.out, HST.out.1 (by first | rfl | trivial)]
            exact ⟨rfl, HO.grown⟩
        · obtain rfl : j = rs.length := by omega
          rw [List.take_length] at hf
          have HF := Lib.hid hf
          clear hf
          go_wp2_with (first | (first | go_big_skip | ((with_reducible apply wpList_loadAll HO); exact rfl; exact rfl; (repeat (with_reducible (first | exact At.head _ | apply At.tail))); infer_instance; exact rfl; exact rfl; (simp only [Act.put, List.setIfInBounds_toArray, List.set_cons_succ, List.set_cons_zero])) | ((with_reducible apply wpList_loadOne HO); exact rfl; exact rfl; (repeat (with_reducible (first | exact At.head _ | apply At.tail))); exact rfl; infer_instance; exact rfl; (simp only [Act.put, List.setIfInBounds_toArray, List.set_cons_succ, List.set_cons_zero]))) | ((with_reducible apply wpList_storeAll HO); exact rfl; exact rfl; exact rfl; (repeat (with_reducible (first | exact At.head _ | apply At.tail))); infer_instance; exact rfl; exact rfl; exact rfl; exact rfl; clear HO; intro w HO; (simp only [Act.put])))
          refine bodyPost_ret (results_box HO rfl rfl (by (repeat (with_reducible (first | exact At.head _ | apply At.tail)))) inferInstance rfl rfl) rfl ?_
          rw [HQ2.out, HF.out]
          exact ⟨rfl, HO.grown⟩

set_option maxHeartbeats 8000000 in
set_option maxRecDepth 100000 in
theorem refNet_any {W : World} {v0 v1 v2 : Value} (A : InS) (o : Int) (h0 : IsRows W v0 A.r0) (h1 : IsRows W v1 A.r1) (h2 : IsRows W v2 A.r2) (hA : InOk A) :
    Calls Tryd.prog 22 #[.agg #[.int .i64 (A).p0, .int .i64 (A).q0, v0, .int .i64 (A).p1, .int .i64 (A).q1, v1, .int .i64 (A).p2, .int .i64 (A).q2, v2], .int .i64 o] W fun e w' => e = .returned (.int .i64 (netI A o)) ∧ Below W.heap.size W w' := by
  have R1 := fun w (hb : Below W.heap.size W w) => refRow_any A o 1 (h0.below hb h0.lt) (h1.below hb h1.lt) (h2.below hb h2.lt)
  have R4 := fun w (hb : Below W.heap.size W w) => refRow_any A o 4 (h0.below hb h0.lt) (h1.below hb h1.lt) (h2.below hb h2.lt)
  have HQ := Lib.hid (show netI A o = amtOf (rowOf A o 1) - amtOf (rowOf A o 4) from rfl)
  obtain ⟨b1, b2⟩ := rowOf_bound hA o 1
  obtain ⟨b3, b4⟩ := rowOf_bound hA o 4
  have hw : IntKind.i64.wrap (amtOf (rowOf A o 1) - amtOf (rowOf A o 4)) = amtOf (rowOf A o 1) - amtOf (rowOf A o 4) := by
    simp [IntKind.wrap, IntKind.bits, IntKind.signed]; omega
  have hw2 : IntKind.i64.wrap (-(amtOf (rowOf A o 4))) = -(amtOf (rowOf A o 4)) := by
    simp [IntKind.wrap, IntKind.bits, IntKind.signed]; omega
  generalize netI A o = z at *
  generalize rowOf A o 1 = x1 at *
  generalize rowOf A o 4 = x4 at *
  obtain ⟨s0, c0, rfl, -⟩ := h0.slice
  obtain ⟨s1, c1, rfl, -⟩ := h1.slice
  obtain ⟨s2, c2, rfl, -⟩ := h2.slice
  generalize A.r0.length = n0 at *
  generalize A.r1.length = n1 at *
  generalize A.r2.length = n2 at *
  have HO := Own.start W
  clear h0 h1 h2 b1 b2 b3 b4
  have hc : ∀ x : Option RowS, (∃ ro rd ra rq, x = some ⟨ro, rd, 1, ra, rq⟩ ∧ amtOf x = ra) ∨ ((∃ a b c d e, (c == 1) = false ∧ rowT x = .agg #[.int .i64 a, .int .i64 b, .int .i64 c, .int .i64 d, .int .i64 e]) ∧ amtOf x = 0) := fun x => by
    cases x with
    | none => exact .inr ⟨⟨0, 0, 0, 0, 0, rfl, rfl⟩, rfl⟩
    | some r =>
      obtain ⟨ro, rd, rc, ra, rq⟩ := r
      by_cases h : rc = 1
      · subst h; exact .inl ⟨ro, rd, ra, rq, rfl, rfl⟩
      · exact .inr ⟨⟨ro, rd, rc, ra, rq, by simpa using h, rfl⟩, by simp [amtOf, h]⟩
  rcases hc x1 with ⟨ro, rd, ra, rq, rfl, e1⟩ | ⟨⟨a1, a2, a3, a4, a5, n1', e1'⟩, e1⟩ <;> rcases hc x4 with ⟨ro4, rd4, ra4, rq4, rfl, e4⟩ | ⟨⟨d1, d2, d3, d4, d5, n4', e4'⟩, e4⟩
  all_goals
    rw [e1, e4] at HQ hw
    rw [e4] at hw2
    try rw [e1'] at R1
    try rw [e4'] at R4
    try simp only [rowT] at R1
    try simp only [rowT] at R4
    clear hc e1 e4
    go_enter Tryd.func22, Tryd.ntmps22
    go_wp2_with (first | ((with_reducible apply wpList_boxAgg _ HO rfl); exact rfl; exact rfl; exact rfl; clear HO; intro b2 w HO; (simp only [Act.put, List.setIfInBounds_toArray, List.set_cons_succ, List.set_cons_zero])) | (first | go_big_skip | ((with_reducible apply wpList_loadAll HO); exact rfl; exact rfl; (repeat (with_reducible (first | exact At.head _ | apply At.tail))); infer_instance; exact rfl; exact rfl; (simp only [Act.put, List.setIfInBounds_toArray, List.set_cons_succ, List.set_cons_zero])) | ((with_reducible apply wpList_loadOne HO); exact rfl; exact rfl; (repeat (with_reducible (first | exact At.head _ | apply At.tail))); exact rfl; infer_instance; exact rfl; (simp only [Act.put, List.setIfInBounds_toArray, List.set_cons_succ, List.set_cons_zero]))) | ((with_reducible apply wpList_storeAll HO); exact rfl; exact rfl; exact rfl; (repeat (with_reducible (first | exact At.head _ | apply At.tail))); infer_instance; exact rfl; exact rfl; exact rfl; exact rfl; clear HO; intro w HO; (simp only [Act.put])) | (first | ((with_reducible apply wpList_boxAgg _ HO rfl); exact rfl; exact rfl; exact rfl; clear HO; intro b4 w HO; (simp only [Act.put, List.setIfInBounds_toArray, List.set_cons_succ, List.set_cons_zero])) | ((with_reducible apply wpList_allocAgg _ HO rfl); exact rfl; infer_instance; exact rfl; clear HO; intro b4 w HO; (simp only [Act.put, List.setIfInBounds_toArray, List.set_cons_succ, List.set_cons_zero]))) | (go_at_call 20; first | ((with_reducible refine (R1 _ HO.grown).mono ?_); (rintro e w ⟨rfl, hb⟩; replace HO := HO.call hb; clear hb)) | ((with_reducible refine (R4 _ HO.grown).mono ?_); (rintro e w ⟨rfl, hb⟩; replace HO := HO.call hb; clear hb))))
    go_ret
    exact ⟨by rw [HQ.out]; first | rfl | simp, HO.grown⟩
end Go.Proofs.YtlfphfklcifgpaaDoor

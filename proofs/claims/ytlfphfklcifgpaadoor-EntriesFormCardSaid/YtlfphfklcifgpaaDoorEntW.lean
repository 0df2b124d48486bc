/-
  The chapter's entries, and which are too great, by walking the law's text; conditions: texts no longer than memory bears, the table of parties as laid.
-/
import Derived.Test.YtlfphfklcifgpaaDoorEntLaw
namespace Go.Proofs.YtlfphfklcifgpaaDoor
open Go.RowKit Go.Own

def greatE (x : EntS) : Bool := decide (200 < x.ref.length) || decide (200 < x.sku.length) || decide (100 < x.rs.length)
theorem greatE_no {x : EntS} (h : greatE x = false) : x.ref.length ≤ 200 ∧ x.sku.length ≤ 200 ∧ x.rs.length ≤ 100 := by
  simp only [greatE, Bool.or_eq_false_iff, decide_eq_false_iff_not] at h
  omega

set_option maxHeartbeats 4000000 in
set_option maxRecDepth 100000 in
theorem great20_any {W : World} {v : Value} (x : EntS) (h : IsRows W v x.rs) (h1 : x.ref.length ≤ maxLen) (h2 : x.sku.length ≤ maxLen) :
    Calls Tryd.prog 33 #[.agg #[.int .i64 (x).k, .int .i64 (x).id, .string ⟨(x).ref.toArray⟩, .string ⟨(x).sku.toArray⟩, .int .i64 (x).qty, .int .i64 (x).amt, .int .i64 (x).o, .int .i64 (x).d, .int .i64 (x).c, .int .i64 (x).p, .int .i64 (x).q, v]] W fun e w' => e = .returned (.bool (greatE x)) ∧ Below W.heap.size W w' := by
  obtain ⟨sp, sc, rfl, hm⟩ := h.slice
  unfold maxLen at h1 h2 hm
  have HO := Own.start W
  have HQ := Lib.hid (show greatE x = (decide (200 < x.ref.length) || decide (200 < x.sku.length) || decide (100 < x.rs.length)) from rfl)
  clear h
  generalize greatE x = z at *
  generalize hr : x.rs.length = n at *
  clear hr
  by_cases g1 : 200 < x.ref.length
  · have g1' : (200 : Int) < (x.ref.length : Int) := by omega
    go_enter Tryd.func33, Tryd.ntmps33
    go_wp2_with (first | (first | go_big_skip | ((with_reducible apply wpList_loadAll HO); exact rfl; exact rfl; (repeat (with_reducible (first | exact At.head _ | apply At.tail))); infer_instance; exact rfl; exact rfl; (simp only [Act.put, List.setIfInBounds_toArray, List.set_cons_succ, List.set_cons_zero])) | ((with_reducible apply wpList_loadOne HO); exact rfl; exact rfl; (repeat (with_reducible (first | exact At.head _ | apply At.tail))); exact rfl; infer_instance; exact rfl; (simp only [Act.put, List.setIfInBounds_toArray, List.set_cons_succ, List.set_cons_zero])) | ((with_reducible apply wpList_storeAll HO); exact rfl; exact rfl; exact rfl; (repeat (with_reducible (first | exact At.head _ | apply At.tail))); infer_instance; exact rfl; exact rfl; exact rfl; exact rfl; clear HO; intro w HO; (simp only [Act.put])) | (first | ((with_reducible apply wpList_boxAgg _ HO rfl); exact rfl; exact rfl; exact rfl; clear HO; intro b0 w HO; (simp only [Act.put, List.setIfInBounds_toArray, List.set_cons_succ, List.set_cons_zero])) | ((with_reducible apply wpList_allocAgg _ HO rfl); exact rfl; infer_instance; exact rfl; clear HO; intro b0 w HO; (simp only [Act.put, List.setIfInBounds_toArray, List.set_cons_succ, List.set_cons_zero])))) | ((with_reducible apply wpList_loadPart HO); exact rfl; exact rfl; (repeat (with_reducible (first | exact At.head _ | apply At.tail))); infer_instance; exact (Nat.le_of_ble_eq_true rfl); (simp only [List.drop_succ_cons, List.drop_zero, List.take_succ_cons, List.take_zero]; rfl); exact rfl; (simp only [Act.put, List.setIfInBounds_toArray, List.set_cons_succ, List.set_cons_zero])))
    go_ret
    exact ⟨by rw [HQ.out]; simp [g1], HO.grown⟩
  · have g1' : decide ((200 : Int) < (x.ref.length : Int)) = false := by simp; omega
    by_cases g2 : 200 < x.sku.length
    · have g2' : (200 : Int) < (x.sku.length : Int) := by omega
      go_enter Tryd.func33, Tryd.ntmps33
      go_wp2_with (first | (first | go_big_skip | ((with_reducible apply wpList_loadAll HO); exact rfl; exact rfl; (repeat (with_reducible (first | exact At.head _ | apply At.tail))); infer_instance; exact rfl; exact rfl; (simp only [Act.put, List.setIfInBounds_toArray, List.set_cons_succ, List.set_cons_zero])) | ((with_reducible apply wpList_loadOne HO); exact rfl; exact rfl; (repeat (with_reducible (first | exact At.head _ | apply At.tail))); exact rfl; infer_instance; exact rfl; (simp only [Act.put, List.setIfInBounds_toArray, List.set_cons_succ, List.set_cons_zero])) | ((with_reducible apply wpList_storeAll HO); exact rfl; exact rfl; exact rfl; (repeat (with_reducible (first | exact At.head _ | apply At.tail))); infer_instance; exact rfl; exact rfl; exact rfl; exact rfl; clear HO; intro w HO; (simp only [Act.put])) | (first | ((with_reducible apply wpList_boxAgg _ HO rfl); exact rfl; exact rfl; exact rfl; clear HO; intro b0 w HO; (simp only [Act.put, List.setIfInBounds_toArray, List.set_cons_succ, List.set_cons_zero])) | ((with_reducible apply wpList_allocAgg _ HO rfl); exact rfl; infer_instance; exact rfl; clear HO; intro b0 w HO; (simp only [Act.put, List.setIfInBounds_toArray, List.set_cons_succ, List.set_cons_zero])))) | ((with_reducible apply wpList_loadPart HO); exact rfl; exact rfl; (repeat (with_reducible (first | exact At.head _ | apply At.tail))); infer_instance; exact (Nat.le_of_ble_eq_true rfl); (simp only [List.drop_succ_cons, List.drop_zero, List.take_succ_cons, List.take_zero]; rfl); exact rfl; (simp only [Act.put, List.setIfInBounds_toArray, List.set_cons_succ, List.set_cons_zero])))
      go_ret
      exact ⟨by rw [HQ.out]; simp [g2], HO.grown⟩
    · have g2' : decide ((200 : Int) < (x.sku.length : Int)) = false := by simp; omega
      by_cases g3 : 100 < n
      · have g3' : (100 : Int) < (n : Int) := by omega
        go_enter Tryd.func33, Tryd.ntmps33
        go_wp2_with (first | (first | go_big_skip | ((with_reducible apply wpList_loadAll HO); exact rfl; exact rfl; (repeat (with_reducible (first | exact At.head _ | apply At.tail))); infer_instance; exact rfl; exact rfl; (simp only [Act.put, List.setIfInBounds_toArray, List.set_cons_succ, List.set_cons_zero])) | ((with_reducible apply wpList_loadOne HO); exact rfl; exact rfl; (repeat (with_reducible (first | exact At.head _ | apply At.tail))); exact rfl; infer_instance; exact rfl; (simp only [Act.put, List.setIfInBounds_toArray, List.set_cons_succ, List.set_cons_zero])) | ((with_reducible apply wpList_storeAll HO); exact rfl; exact rfl; exact rfl; (repeat (with_reducible (first | exact At.head _ | apply At.tail))); infer_instance; exact rfl; exact rfl; exact rfl; exact rfl; clear HO; intro w HO; (simp only [Act.put])) | (first | ((with_reducible apply wpList_boxAgg _ HO rfl); exact rfl; exact rfl; exact rfl; clear HO; intro b0 w HO; (simp only [Act.put, List.setIfInBounds_toArray, List.set_cons_succ, List.set_cons_zero])) | ((with_reducible apply wpList_allocAgg _ HO rfl); exact rfl; infer_instance; exact rfl; clear HO; intro b0 w HO; (simp only [Act.put, List.setIfInBounds_toArray, List.set_cons_succ, List.set_cons_zero])))) | ((with_reducible apply wpList_loadPart HO); exact rfl; exact rfl; (repeat (with_reducible (first | exact At.head _ | apply At.tail))); infer_instance; exact (Nat.le_of_ble_eq_true rfl); (simp only [List.drop_succ_cons, List.drop_zero, List.take_succ_cons, List.take_zero]; rfl); exact rfl; (simp only [Act.put, List.setIfInBounds_toArray, List.set_cons_succ, List.set_cons_zero])))
        go_ret
        exact ⟨by rw [HQ.out]; simp [g3], HO.grown⟩
      · have g3' : decide ((100 : Int) < (n : Int)) = false := by simp; omega
        go_enter Tryd.func33, Tryd.ntmps33
        go_wp2_with (first | (first | go_big_skip | ((with_reducible apply wpList_loadAll HO); exact rfl; exact rfl; (repeat (with_reducible (first | exact At.head _ | apply At.tail))); infer_instance; exact rfl; exact rfl; (simp only [Act.put, List.setIfInBounds_toArray, List.set_cons_succ, List.set_cons_zero])) | ((with_reducible apply wpList_loadOne HO); exact rfl; exact rfl; (repeat (with_reducible (first | exact At.head _ | apply At.tail))); exact rfl; infer_instance; exact rfl; (simp only [Act.put, List.setIfInBounds_toArray, List.set_cons_succ, List.set_cons_zero])) | ((with_reducible apply wpList_storeAll HO); exact rfl; exact rfl; exact rfl; (repeat (with_reducible (first | exact At.head _ | apply At.tail))); infer_instance; exact rfl; exact rfl; exact rfl; exact rfl; clear HO; intro w HO; (simp only [Act.put])) | (first | ((with_reducible apply wpList_boxAgg _ HO rfl); exact rfl; exact rfl; exact rfl; clear HO; intro b0 w HO; (simp only [Act.put, List.setIfInBounds_toArray, List.set_cons_succ, List.set_cons_zero])) | ((with_reducible apply wpList_allocAgg _ HO rfl); exact rfl; infer_instance; exact rfl; clear HO; intro b0 w HO; (simp only [Act.put, List.setIfInBounds_toArray, List.set_cons_succ, List.set_cons_zero])))) | ((with_reducible apply wpList_loadPart HO); exact rfl; exact rfl; (repeat (with_reducible (first | exact At.head _ | apply At.tail))); infer_instance; exact (Nat.le_of_ble_eq_true rfl); (simp only [List.drop_succ_cons, List.drop_zero, List.take_succ_cons, List.take_zero]; rfl); exact rfl; (simp only [Act.put, List.setIfInBounds_toArray, List.set_cons_succ, List.set_cons_zero])))
        go_ret
        exact ⟨by rw [HQ.out]; simp [g1, g2, g3], HO.grown⟩

theorem en1 : putE ⟨2, 0, [], [], 0, 0, 5, 0, 0, 0, 0, []⟩ = [2, 5] ∧ checkE ⟨2, 0, [], [], 0, 0, 5, 0, 0, 0, 0, []⟩ = 0 := by decide +kernel
theorem en2 : putE ⟨3, 0, [], [], 0, 0, 5, 2, 1, 0, 0, []⟩ = [3, 5, 2, 1] ∧ checkE ⟨3, 0, [], [], 0, 0, 5, 2, 1, 0, 0, []⟩ = 0 := by decide +kernel
theorem en3 : getEP [] = none := rfl
theorem en4 : getEP [5] = none := by
  have h : readB [5] = some (5, []) := by decide +kernel
  unfold getEP
  rw [h]
  rfl
theorem en5 : getEP [3, 5, 2, 1] = some ⟨3, 0, [], [], 0, 0, 5, 2, 1, 0, 0, []⟩ := by rw [← en2.1]; exact getEP_put en2.2 rfl

set_option maxHeartbeats 4000000 in
set_option maxRecDepth 100000 in
theorem entered_any (W : World) (hL : Laid W) : Calls Tryd.prog 34 #[] W fun e w' => e = .returned (.bool true) ∧ Below W.heap.size W w' := by
  have hLW := fun w' (hb : Below W.heap.size W w') => hL.below hb hL.1
  have P1 := fun w (hb : Below W.heap.size W w) => entPut_any (W := w) (v := .slice none 0 0) ⟨2, 0, [], [], 0, 0, 5, 0, 0, 0, 0, []⟩ (.none _ _ (fun _ => rfl)) (hLW w hb) (by unfold maxLen; simp) (by unfold maxLen; simp)
  have P2 := fun w (hb : Below W.heap.size W w) => entPut_any (W := w) (v := .slice none 0 0) ⟨3, 0, [], [], 0, 0, 5, 2, 1, 0, 0, []⟩ (.none _ _ (fun _ => rfl)) (hLW w hb) (by unfold maxLen; simp) (by unfold maxLen; simp)
  rw [en1.1, en1.2] at P1
  rw [en2.1, en2.2] at P2
  simp only at P1 P2
  have G1 := fun {w : World} {L : List Ent} (hh : Own W w L) => entGet_any [] (by simp) hh hL
  have G2 := fun {w : World} {L : List Ent} (hh : Own W w L) => entGet_any [5] (by simp) hh hL
  have G3 := fun {w : World} {L : List Ent} (hh : Own W w L) => entGet_any [3, 5, 2, 1] (by simp) hh hL
  rw [en3] at G1
  rw [en4] at G2
  rw [en5] at G3
  unfold EntPost at G1 G2 G3
  simp only [zeroE] at G1 G2 G3
  have HO := Own.start W
  clear hL hLW
  go_enter Tryd.func34, Tryd.ntmps34
  go_wp2_with (first | (first | go_big_skip | ((with_reducible apply wpList_loadAll HO); exact rfl; exact rfl; (repeat (with_reducible (first | exact At.head _ | apply At.tail))); infer_instance; exact rfl; exact rfl; (simp only [Act.put, List.setIfInBounds_toArray, List.set_cons_succ, List.set_cons_zero])) | ((with_reducible apply wpList_loadOne HO); exact rfl; exact rfl; (repeat (with_reducible (first | exact At.head _ | apply At.tail))); exact rfl; infer_instance; exact rfl; (simp only [Act.put, List.setIfInBounds_toArray, List.set_cons_succ, List.set_cons_zero]))) | ((with_reducible apply wpList_storeAll HO); exact rfl; exact rfl; exact rfl; (repeat (with_reducible (first | exact At.head _ | apply At.tail))); infer_instance; exact rfl; exact rfl; exact rfl; exact rfl; clear HO; intro w HO; (simp only [Act.put])) | ((with_reducible apply wpList_loadPart HO); exact rfl; exact rfl; (repeat (with_reducible (first | exact At.head _ | apply At.tail))); infer_instance; exact (Nat.le_of_ble_eq_true rfl); (simp only [List.drop_succ_cons, List.drop_zero, List.take_succ_cons, List.take_zero]; rfl); exact rfl; (simp only [Act.put, List.setIfInBounds_toArray, List.set_cons_succ, List.set_cons_zero])) | (first | ((with_reducible apply wpList_boxAgg _ HO rfl); exact rfl; exact rfl; exact rfl; clear HO; intro b3 w HO; (simp only [Act.put, List.setIfInBounds_toArray, List.set_cons_succ, List.set_cons_zero])) | ((with_reducible apply wpList_allocAgg _ HO rfl); exact rfl; infer_instance; exact rfl; clear HO; intro b3 w HO; (simp only [Act.put, List.setIfInBounds_toArray, List.set_cons_succ, List.set_cons_zero]))) | (go_at_call 35; first | ((with_reducible refine (P1 _ HO.grown).mono ?_); (rintro e w ⟨rfl, hb⟩; replace HO := HO.call hb; clear hb)) | ((with_reducible refine (P2 _ HO.grown).mono ?_); (rintro e w ⟨rfl, hb⟩; replace HO := HO.call hb; clear hb))) | (go_at_call 37; first | ((with_reducible refine (G1 HO).mono ?_); (rintro e w ⟨rfl, HO1⟩; clear HO; have HO := HO1; clear HO1)) | ((with_reducible refine (G2 HO).mono ?_); (rintro e w ⟨rfl, HO1⟩; clear HO; have HO := HO1; clear HO1)) | ((with_reducible refine (G3 HO).mono ?_); (rintro e w ⟨x1, rfl, HO1⟩; clear HO; have HO := HO1; clear HO1; obtain ⟨pa, ca, rfl⟩ := (HO.rowForm (.head _)).1; rw [List.length_map] at HO ⊢))))
  go_ret
  exact ⟨rfl, HO.grown⟩
end Go.Proofs.YtlfphfklcifgpaaDoor

/-
  Accepting a statement, by walking both texts: where it is not; and the document's; conditions: the rows lie in memory, the table of parties as laid.
-/
import Derived.Test.YtlfphfklcifgpaaDoorIntAcc
namespace Go.Proofs.YtlfphfklcifgpaaDoor
open Go.RowKit Go.Own Go.Maps

set_option maxHeartbeats 8000000 in
set_option maxRecDepth 100000 in
theorem accept_any {W : World} {v0 v1 v2 v m : Value} (A : InS) (p q : Int) (rs : List RowS) (h0 : IsRows W v0 A.r0) (h1 : IsRows W v1 A.r1) (h2 : IsRows W v2 A.r2) (h : IsRows W v rs) (hA : InOk A) (hm : m = .map none ∨ ∃ b, m = .map (some b)) (hL : Laid W) :
    Calls Tryd.prog 14 #[.agg #[.int .i64 (A).p0, .int .i64 (A).q0, v0, .int .i64 (A).p1, .int .i64 (A).q1, v1, .int .i64 (A).p2, .int .i64 (A).q2, v2, m], .agg #[.int .i64 p, .int .i64 q, v]] W (AccPost A p q rs v0 v1 v2 W) := by
  by_cases hacc : accE A p q rs = 0
  · obtain ⟨_, _, p0, p2, _, _⟩ := okStmt_ok (accE_ok hacc).1
    have hp : p = 0 ∨ p = 1 ∨ p = 2 := by omega
    rcases hp with rfl | rfl | rfl
    · exact accept0_any A m q rs h0 h1 h2 h hA hm hL hacc
    · exact accept1_any A m q rs h0 h1 h2 h hA hm hL hacc
    · exact accept2_any A m q rs h0 h1 h2 h hA hm hL hacc
  have V := fun w (hb : Below W.heap.size W w) => rowsValid_any p q (h.below hb h.lt) (hL.below hb hL.1)
  have HF := Lib.hid (fun (e : Ending) (w' : World) (he : e = .returned (.tuple #[.agg #[.int .i64 (zeroI).p0, .int .i64 (zeroI).q0, .slice none 0 0, .int .i64 (zeroI).p1, .int .i64 (zeroI).q1, .slice none 0 0, .int .i64 (zeroI).p2, .int .i64 (zeroI).q2, .slice none 0 0, .map none], .int .i64 (accE A p q rs)])) (hb : Below W.heap.size W w') => (show AccPost A p q rs v0 v1 v2 W e w' from by unfold AccPost; rw [if_neg hacc]; exact ⟨he, hb⟩))
  have HO := Own.start W
  simp only [zeroI] at HF
  cases hok : okStmt p q rs
  · have he : accE A p q rs = 2 := by simp [accE, hok]
    rw [hok] at V
    generalize AccPost A p q rs v0 v1 v2 W = Post at *
    rw [he] at HF
    obtain ⟨s, c, rfl, -⟩ := h.slice
    obtain ⟨s0, c0, rfl, -⟩ := h0.slice
    obtain ⟨s1, c1, rfl, -⟩ := h1.slice
    obtain ⟨s2, c2, rfl, -⟩ := h2.slice
    generalize rs.length = n at *
    generalize A.r0.length = n0 at *
    generalize A.r1.length = n1 at *
    generalize A.r2.length = n2 at *
    clear h h0 h1 h2 hA hL hok hacc he
    rcases hm with rfl | ⟨mb, rfl⟩
    all_goals
      go_enter Tryd.func14, Tryd.ntmps14
      go_wp2_with (first | ((with_reducible apply wpList_boxAgg _ HO rfl); exact rfl; exact rfl; exact rfl; clear HO; intro b2 w HO; (simp only [Act.put, List.setIfInBounds_toArray, List.set_cons_succ, List.set_cons_zero])) | ((have _h : Own W _ (box _ _ :: box _ _ :: _) := HO); clear _h; ((with_reducible apply wpList_allocAgg _ HO rfl); exact rfl; infer_instance; exact rfl; clear HO; intro b4 w HO; (simp only [Act.put, List.setIfInBounds_toArray, List.set_cons_succ, List.set_cons_zero]))) | (first | go_big_skip | ((with_reducible apply wpList_loadAll HO); exact rfl; exact rfl; (repeat (with_reducible (first | exact At.head _ | apply At.tail))); infer_instance; exact rfl; exact rfl; (simp only [Act.put, List.setIfInBounds_toArray, List.set_cons_succ, List.set_cons_zero])) | ((with_reducible apply wpList_loadOne HO); exact rfl; exact rfl; (repeat (with_reducible (first | exact At.head _ | apply At.tail))); exact rfl; infer_instance; exact rfl; (simp only [Act.put, List.setIfInBounds_toArray, List.set_cons_succ, List.set_cons_zero]))) | ((with_reducible apply wpList_storeAll HO); exact rfl; exact rfl; exact rfl; (repeat (with_reducible (first | exact At.head _ | apply At.tail))); infer_instance; exact rfl; exact rfl; exact rfl; exact rfl; clear HO; intro w HO; (simp only [Act.put])) | (go_at_call 44; go_must ((with_reducible refine (V _ HO.grown).mono ?_); rintro e w ⟨rfl, hb⟩; replace HO := HO.call hb; clear hb)))
      refine bodyPost_ret (results_box HO rfl rfl (by (repeat (with_reducible (first | exact At.head _ | apply At.tail)))) inferInstance rfl rfl) rfl ?_
      exact HF.out _ _ rfl HO.grown
  · have hle : q ≤ A.seq p := by
      by_cases hle : q ≤ A.seq p
      · exact hle
      · exact absurd (by simp [accE, hok, hle]) hacc
    have he : accE A p q rs = 93 := by simp [accE, hok, hle]
    obtain ⟨_, _, p0, p2, _, _⟩ := okStmt_ok hok
    have hp : p = 0 ∨ p = 1 ∨ p = 2 := by omega
    rw [hok] at V
    rcases hp with rfl | rfl | rfl
    · have hle' : decide (q ≤ A.q0) = true := by simpa [InS.seq] using hle
      generalize AccPost A 0 q rs v0 v1 v2 W = Post at *
      rw [he] at HF
      obtain ⟨s, c, rfl, -⟩ := h.slice
      obtain ⟨s0, c0, rfl, -⟩ := h0.slice
      obtain ⟨s1, c1, rfl, -⟩ := h1.slice
      obtain ⟨s2, c2, rfl, -⟩ := h2.slice
      generalize rs.length = n at *
      generalize A.r0.length = n0 at *
      generalize A.r1.length = n1 at *
      generalize A.r2.length = n2 at *
      generalize A.q0 = q0 at *
      generalize A.q1 = q1 at *
      generalize A.q2 = q2 at *
      clear h h0 h1 h2 hA hL hok hacc he hle
      rcases hm with rfl | ⟨mb, rfl⟩
      all_goals
        go_enter Tryd.func14, Tryd.ntmps14
        go_wp2_with (first | ((with_reducible apply wpList_boxAgg _ HO rfl); exact rfl; exact rfl; exact rfl; clear HO; intro b2 w HO; (simp only [Act.put, List.setIfInBounds_toArray, List.set_cons_succ, List.set_cons_zero])) | ((have _h : Own W _ (box _ _ :: box _ _ :: _) := HO); clear _h; ((with_reducible apply wpList_allocAgg _ HO rfl); exact rfl; infer_instance; exact rfl; clear HO; intro b4 w HO; (simp only [Act.put, List.setIfInBounds_toArray, List.set_cons_succ, List.set_cons_zero]))) | (first | go_big_skip | ((with_reducible apply wpList_loadAll HO); exact rfl; exact rfl; (repeat (with_reducible (first | exact At.head _ | apply At.tail))); infer_instance; exact rfl; exact rfl; (simp only [Act.put, List.setIfInBounds_toArray, List.set_cons_succ, List.set_cons_zero])) | ((with_reducible apply wpList_loadOne HO); exact rfl; exact rfl; (repeat (with_reducible (first | exact At.head _ | apply At.tail))); exact rfl; infer_instance; exact rfl; (simp only [Act.put, List.setIfInBounds_toArray, List.set_cons_succ, List.set_cons_zero]))) | ((with_reducible apply wpList_storeAll HO); exact rfl; exact rfl; exact rfl; (repeat (with_reducible (first | exact At.head _ | apply At.tail))); infer_instance; exact rfl; exact rfl; exact rfl; exact rfl; clear HO; intro w HO; (simp only [Act.put])) | (go_at_call 44; go_must ((with_reducible refine (V _ HO.grown).mono ?_); rintro e w ⟨rfl, hb⟩; replace HO := HO.call hb; clear hb)))
        refine region_own HO (by kernel_rfl) (by kernel_rfl) ?_
        clear HO
        intro F HF
        repeat (first | (first | go_big_quiet_skip | ((with_reducible apply wpQuiet_loadAll HF); exact rfl; exact rfl; (repeat (with_reducible (first | exact At.head _ | apply At.tail))); infer_instance; exact rfl; exact rfl; (simp only [Act.put, List.setIfInBounds_toArray, List.set_cons_succ, List.set_cons_zero])) | ((with_reducible apply wpQuiet_loadOne HF); exact rfl; exact rfl; (repeat (with_reducible (first | exact At.head _ | apply At.tail))); exact rfl; infer_instance; exact rfl; (simp only [Act.put, List.setIfInBounds_toArray, List.set_cons_succ, List.set_cons_zero])) | ((with_reducible apply wpQuiet_loadPart HF); exact rfl; exact rfl; (repeat (with_reducible (first | exact At.head _ | apply At.tail))); infer_instance; exact (Nat.le_of_ble_eq_true rfl); (simp only [List.drop_succ_cons, List.drop_zero, List.take_succ_cons, List.take_zero]; rfl); exact rfl; (simp only [Act.put, List.setIfInBounds_toArray, List.set_cons_succ, List.set_cons_zero]))) | go_big_quiet_step (fail))
        refine wpQuiet_nil ?_
        intro x
        have HO := HF.own x
        clear HF
        generalize F x = w at *
        clear x F
        go_wp2_with (first | (first | go_big_skip | ((with_reducible apply wpList_loadAll HO); exact rfl; exact rfl; (repeat (with_reducible (first | exact At.head _ | apply At.tail))); infer_instance; exact rfl; exact rfl; (simp only [Act.put, List.setIfInBounds_toArray, List.set_cons_succ, List.set_cons_zero])) | ((with_reducible apply wpList_loadOne HO); exact rfl; exact rfl; (repeat (with_reducible (first | exact At.head _ | apply At.tail))); exact rfl; infer_instance; exact rfl; (simp only [Act.put, List.setIfInBounds_toArray, List.set_cons_succ, List.set_cons_zero]))) | ((with_reducible apply wpList_storeAll HO); exact rfl; exact rfl; exact rfl; (repeat (with_reducible (first | exact At.head _ | apply At.tail))); infer_instance; exact rfl; exact rfl; exact rfl; exact rfl; clear HO; intro w HO; (simp only [Act.put])))
        refine bodyPost_ret (results_box HO rfl rfl (by (repeat (with_reducible (first | exact At.head _ | apply At.tail)))) inferInstance rfl rfl) rfl ?_
        exact HF.out _ _ rfl HO.grown
    · have hle' : decide (q ≤ A.q1) = true := by simpa [InS.seq] using hle
      generalize AccPost A 1 q rs v0 v1 v2 W = Post at *
      rw [he] at HF
      obtain ⟨s, c, rfl, -⟩ := h.slice
      obtain ⟨s0, c0, rfl, -⟩ := h0.slice
      obtain ⟨s1, c1, rfl, -⟩ := h1.slice
      obtain ⟨s2, c2, rfl, -⟩ := h2.slice
      generalize rs.length = n at *
      generalize A.r0.length = n0 at *
      generalize A.r1.length = n1 at *
      generalize A.r2.length = n2 at *
      generalize A.q0 = q0 at *
      generalize A.q1 = q1 at *
      generalize A.q2 = q2 at *
      clear h h0 h1 h2 hA hL hok hacc he hle
      rcases hm with rfl | ⟨mb, rfl⟩
      all_goals
        go_enter Tryd.func14, Tryd.ntmps14
        go_wp2_with (first | ((with_reducible apply wpList_boxAgg _ HO rfl); exact rfl; exact rfl; exact rfl; clear HO; intro b2 w HO; (simp only [Act.put, List.setIfInBounds_toArray, List.set_cons_succ, List.set_cons_zero])) | ((have _h : Own W _ (box _ _ :: box _ _ :: _) := HO); clear _h; ((with_reducible apply wpList_allocAgg _ HO rfl); exact rfl; infer_instance; exact rfl; clear HO; intro b4 w HO; (simp only [Act.put, List.setIfInBounds_toArray, List.set_cons_succ, List.set_cons_zero]))) | (first | go_big_skip | ((with_reducible apply wpList_loadAll HO); exact rfl; exact rfl; (repeat (with_reducible (first | exact At.head _ | apply At.tail))); infer_instance; exact rfl; exact rfl; (simp only [Act.put, List.setIfInBounds_toArray, List.set_cons_succ, List.set_cons_zero])) | ((with_reducible apply wpList_loadOne HO); exact rfl; exact rfl; (repeat (with_reducible (first | exact At.head _ | apply At.tail))); exact rfl; infer_instance; exact rfl; (simp only [Act.put, List.setIfInBounds_toArray, List.set_cons_succ, List.set_cons_zero]))) | ((with_reducible apply wpList_storeAll HO); exact rfl; exact rfl; exact rfl; (repeat (with_reducible (first | exact At.head _ | apply At.tail))); infer_instance; exact rfl; exact rfl; exact rfl; exact rfl; clear HO; intro w HO; (simp only [Act.put])) | (go_at_call 44; go_must ((with_reducible refine (V _ HO.grown).mono ?_); rintro e w ⟨rfl, hb⟩; replace HO := HO.call hb; clear hb)))
        refine region_own HO (by kernel_rfl) (by kernel_rfl) ?_
        clear HO
        intro F HF
        repeat (first | (first | go_big_quiet_skip | ((with_reducible apply wpQuiet_loadAll HF); exact rfl; exact rfl; (repeat (with_reducible (first | exact At.head _ | apply At.tail))); infer_instance; exact rfl; exact rfl; (simp only [Act.put, List.setIfInBounds_toArray, List.set_cons_succ, List.set_cons_zero])) | ((with_reducible apply wpQuiet_loadOne HF); exact rfl; exact rfl; (repeat (with_reducible (first | exact At.head _ | apply At.tail))); exact rfl; infer_instance; exact rfl; (simp only [Act.put, List.setIfInBounds_toArray, List.set_cons_succ, List.set_cons_zero])) | ((with_reducible apply wpQuiet_loadPart HF); exact rfl; exact rfl; (repeat (with_reducible (first | exact At.head _ | apply At.tail))); infer_instance; exact (Nat.le_of_ble_eq_true rfl); (simp only [List.drop_succ_cons, List.drop_zero, List.take_succ_cons, List.take_zero]; rfl); exact rfl; (simp only [Act.put, List.setIfInBounds_toArray, List.set_cons_succ, List.set_cons_zero]))) | go_big_quiet_step (fail))
        refine wpQuiet_nil ?_
        intro x
        have HO := HF.own x
        clear HF
        generalize F x = w at *
        clear x F
        go_wp2_with (first | (first | go_big_skip | ((with_reducible apply wpList_loadAll HO); exact rfl; exact rfl; (repeat (with_reducible (first | exact At.head _ | apply At.tail))); infer_instance; exact rfl; exact rfl; (simp only [Act.put, List.setIfInBounds_toArray, List.set_cons_succ, List.set_cons_zero])) | ((with_reducible apply wpList_loadOne HO); exact rfl; exact rfl; (repeat (with_reducible (first | exact At.head _ | apply At.tail))); exact rfl; infer_instance; exact rfl; (simp only [Act.put, List.setIfInBounds_toArray, List.set_cons_succ, List.set_cons_zero]))) | ((with_reducible apply wpList_storeAll HO); exact rfl; exact rfl; exact rfl; (repeat (with_reducible (first | exact At.head _ | apply At.tail))); infer_instance; exact rfl; exact rfl; exact rfl; exact rfl; clear HO; intro w HO; (simp only [Act.put])))
        refine bodyPost_ret (results_box HO rfl rfl (by (repeat (with_reducible (first | exact At.head _ | apply At.tail)))) inferInstance rfl rfl) rfl ?_
        exact HF.out _ _ rfl HO.grown
    · have hle' : decide (q ≤ A.q2) = true := by simpa [InS.seq] using hle
      generalize AccPost A 2 q rs v0 v1 v2 W = Post at *
      rw [he] at HF
      obtain ⟨s, c, rfl, -⟩ := h.slice
      obtain ⟨s0, c0, rfl, -⟩ := h0.slice
      obtain ⟨s1, c1, rfl, -⟩ := h1.slice
      obtain ⟨s2, c2, rfl, -⟩ := h2.slice
      generalize rs.length = n at *
      generalize A.r0.length = n0 at *
      generalize A.r1.length = n1 at *
      generalize A.r2.length = n2 at *
      generalize A.q0 = q0 at *
      generalize A.q1 = q1 at *
      generalize A.q2 = q2 at *
      clear h h0 h1 h2 hA hL hok hacc he hle
      rcases hm with rfl | ⟨mb, rfl⟩
      all_goals
        go_enter Tryd.func14, Tryd.ntmps14
        go_wp2_with (first | ((with_reducible apply wpList_boxAgg _ HO rfl); exact rfl; exact rfl; exact rfl; clear HO; intro b2 w HO; (simp only [Act.put, List.setIfInBounds_toArray, List.set_cons_succ, List.set_cons_zero])) | ((have _h : Own W _ (box _ _ :: box _ _ :: _) := HO); clear _h; ((with_reducible apply wpList_allocAgg _ HO rfl); exact rfl; infer_instance; exact rfl; clear HO; intro b4 w HO; (simp only [Act.put, List.setIfInBounds_toArray, List.set_cons_succ, List.set_cons_zero]))) | (first | go_big_skip | ((with_reducible apply wpList_loadAll HO); exact rfl; exact rfl; (repeat (with_reducible (first | exact At.head _ | apply At.tail))); infer_instance; exact rfl; exact rfl; (simp only [Act.put, List.setIfInBounds_toArray, List.set_cons_succ, List.set_cons_zero])) | ((with_reducible apply wpList_loadOne HO); exact rfl; exact rfl; (repeat (with_reducible (first | exact At.head _ | apply At.tail))); exact rfl; infer_instance; exact rfl; (simp only [Act.put, List.setIfInBounds_toArray, List.set_cons_succ, List.set_cons_zero]))) | ((with_reducible apply wpList_storeAll HO); exact rfl; exact rfl; exact rfl; (repeat (with_reducible (first | exact At.head _ | apply At.tail))); infer_instance; exact rfl; exact rfl; exact rfl; exact rfl; clear HO; intro w HO; (simp only [Act.put])) | (go_at_call 44; go_must ((with_reducible refine (V _ HO.grown).mono ?_); rintro e w ⟨rfl, hb⟩; replace HO := HO.call hb; clear hb)))
        refine region_own HO (by kernel_rfl) (by kernel_rfl) ?_
        clear HO
        intro F HF
        repeat (first | (first | go_big_quiet_skip | ((with_reducible apply wpQuiet_loadAll HF); exact rfl; exact rfl; (repeat (with_reducible (first | exact At.head _ | apply At.tail))); infer_instance; exact rfl; exact rfl; (simp only [Act.put, List.setIfInBounds_toArray, List.set_cons_succ, List.set_cons_zero])) | ((with_reducible apply wpQuiet_loadOne HF); exact rfl; exact rfl; (repeat (with_reducible (first | exact At.head _ | apply At.tail))); exact rfl; infer_instance; exact rfl; (simp only [Act.put, List.setIfInBounds_toArray, List.set_cons_succ, List.set_cons_zero])) | ((with_reducible apply wpQuiet_loadPart HF); exact rfl; exact rfl; (repeat (with_reducible (first | exact At.head _ | apply At.tail))); infer_instance; exact (Nat.le_of_ble_eq_true rfl); (simp only [List.drop_succ_cons, List.drop_zero, List.take_succ_cons, List.take_zero]; rfl); exact rfl; (simp only [Act.put, List.setIfInBounds_toArray, List.set_cons_succ, List.set_cons_zero]))) | go_big_quiet_step (fail))
        refine wpQuiet_nil ?_
        intro x
        have HO := HF.own x
        clear HF
        generalize F x = w at *
        clear x F
        go_wp2_with (first | (first | go_big_skip | ((with_reducible apply wpList_loadAll HO); exact rfl; exact rfl; (repeat (with_reducible (first | exact At.head _ | apply At.tail))); infer_instance; exact rfl; exact rfl; (simp only [Act.put, List.setIfInBounds_toArray, List.set_cons_succ, List.set_cons_zero])) | ((with_reducible apply wpList_loadOne HO); exact rfl; exact rfl; (repeat (with_reducible (first | exact At.head _ | apply At.tail))); exact rfl; infer_instance; exact rfl; (simp only [Act.put, List.setIfInBounds_toArray, List.set_cons_succ, List.set_cons_zero]))) | ((with_reducible apply wpList_storeAll HO); exact rfl; exact rfl; exact rfl; (repeat (with_reducible (first | exact At.head _ | apply At.tail))); infer_instance; exact rfl; exact rfl; exact rfl; exact rfl; clear HO; intro w HO; (simp only [Act.put])))
        refine bodyPost_ret (results_box HO rfl rfl (by (repeat (with_reducible (first | exact At.head _ | apply At.tail)))) inferInstance rfl rfl) rfl ?_
        exact HF.out _ _ rfl HO.grown

/-- What the document's hands back. -/
def RefAccPost (A : InS) (p q : Int) (rs : List RowS) (v0 v1 v2 v : Value) (w : World) (e : Ending) (w' : World) : Prop :=
  Below w.heap.size w w' ∧ e = if accE A p q rs = 0 then .returned (.tuple #[.agg #[.int .i64 ((A.put p q rs)).p0, .int .i64 ((A.put p q rs)).q0, (if p = 0 then v else v0), .int .i64 ((A.put p q rs)).p1, .int .i64 ((A.put p q rs)).q1, (if p = 1 then v else v1), .int .i64 ((A.put p q rs)).p2, .int .i64 ((A.put p q rs)).q2, (if p = 2 then v else v2)], .int .i64 0])
    else .returned (.tuple #[.agg #[.int .i64 (zeroI).p0, .int .i64 (zeroI).q0, .slice none 0 0, .int .i64 (zeroI).p1, .int .i64 (zeroI).q1, .slice none 0 0, .int .i64 (zeroI).p2, .int .i64 (zeroI).q2, .slice none 0 0], .int .i64 (accE A p q rs)])

set_option maxHeartbeats 8000000 in
set_option maxRecDepth 100000 in
theorem refAccept_any {W : World} {v0 v1 v2 v : Value} (A : InS) (p q : Int) (rs : List RowS) (h0 : IsRows W v0 A.r0) (h1 : IsRows W v1 A.r1) (h2 : IsRows W v2 A.r2) (h : IsRows W v rs) :
    Calls Tryd.prog 18 #[.agg #[.int .i64 (A).p0, .int .i64 (A).q0, v0, .int .i64 (A).p1, .int .i64 (A).q1, v1, .int .i64 (A).p2, .int .i64 (A).q2, v2], .agg #[.int .i64 p, .int .i64 q, v]] W (RefAccPost A p q rs v0 v1 v2 v W) := by
  have V := fun w (hb : Below W.heap.size W w) => refValid_any p q (h.below hb h.lt)
  have HF := Lib.hid (fun (e : Ending) (w' : World) (he : e = (if accE A p q rs = 0 then .returned (.tuple #[.agg #[.int .i64 ((A.put p q rs)).p0, .int .i64 ((A.put p q rs)).q0, (if p = 0 then v else v0), .int .i64 ((A.put p q rs)).p1, .int .i64 ((A.put p q rs)).q1, (if p = 1 then v else v1), .int .i64 ((A.put p q rs)).p2, .int .i64 ((A.put p q rs)).q2, (if p = 2 then v else v2)], .int .i64 0])
    else .returned (.tuple #[.agg #[.int .i64 (zeroI).p0, .int .i64 (zeroI).q0, .slice none 0 0, .int .i64 (zeroI).p1, .int .i64 (zeroI).q1, .slice none 0 0, .int .i64 (zeroI).p2, .int .i64 (zeroI).q2, .slice none 0 0], .int .i64 (accE A p q rs)]))) (hb : Below W.heap.size W w') => (show RefAccPost A p q rs v0 v1 v2 v W e w' from ⟨hb, he⟩))
  generalize RefAccPost A p q rs v0 v1 v2 v W = Post at *
  have HO := Own.start W
  cases hok : okStmt p q rs
  · have he : accE A p q rs = 2 := by simp [accE, hok]
    rw [hok] at V
    rw [he, if_neg (by decide)] at HF
    simp only [zeroI] at HF
    obtain ⟨s, c, rfl, -⟩ := h.slice
    obtain ⟨s0, c0, rfl, -⟩ := h0.slice
    obtain ⟨s1, c1, rfl, -⟩ := h1.slice
    obtain ⟨s2, c2, rfl, -⟩ := h2.slice
    generalize rs.length = n at *
    generalize A.r0.length = n0 at *
    generalize A.r1.length = n1 at *
    generalize A.r2.length = n2 at *
    clear h h0 h1 h2 hok he
    go_enter Tryd.func18, Tryd.ntmps18
    go_wp2_with (first | ((with_reducible apply wpList_boxAgg _ HO rfl); exact rfl; exact rfl; exact rfl; clear HO; intro b2 w HO; (simp only [Act.put, List.setIfInBounds_toArray, List.set_cons_succ, List.set_cons_zero])) | ((have _h : Own W _ (box _ _ :: box _ _ :: _) := HO); clear _h; ((with_reducible apply wpList_allocAgg _ HO rfl); exact rfl; infer_instance; exact rfl; clear HO; intro b4 w HO; (simp only [Act.put, List.setIfInBounds_toArray, List.set_cons_succ, List.set_cons_zero]))) | (first | go_big_skip | ((with_reducible apply wpList_loadAll HO); exact rfl; exact rfl; (repeat (with_reducible (first | exact At.head _ | apply At.tail))); infer_instance; exact rfl; exact rfl; (simp only [Act.put, List.setIfInBounds_toArray, List.set_cons_succ, List.set_cons_zero])) | ((with_reducible apply wpList_loadOne HO); exact rfl; exact rfl; (repeat (with_reducible (first | exact At.head _ | apply At.tail))); exact rfl; infer_instance; exact rfl; (simp only [Act.put, List.setIfInBounds_toArray, List.set_cons_succ, List.set_cons_zero]))) | ((with_reducible apply wpList_storeAll HO); exact rfl; exact rfl; exact rfl; (repeat (with_reducible (first | exact At.head _ | apply At.tail))); infer_instance; exact rfl; exact rfl; exact rfl; exact rfl; clear HO; intro w HO; (simp only [Act.put])) | (go_at_call 46; go_must ((with_reducible refine (V _ HO.grown).mono ?_); rintro e w ⟨rfl, hb⟩; replace HO := HO.call hb; clear hb)))
    refine bodyPost_ret (results_box HO rfl rfl (by (repeat (with_reducible (first | exact At.head _ | apply At.tail)))) inferInstance rfl rfl) rfl ?_
    exact HF.out _ _ rfl HO.grown
  · obtain ⟨_, _, p0, p2, _, _⟩ := okStmt_ok hok
    have hp : p = 0 ∨ p = 1 ∨ p = 2 := by omega
    rw [hok] at V
    obtain ⟨s, c, rfl, -⟩ := h.slice
    obtain ⟨s0, c0, rfl, -⟩ := h0.slice
    obtain ⟨s1, c1, rfl, -⟩ := h1.slice
    obtain ⟨s2, c2, rfl, -⟩ := h2.slice
    clear h h0 h1 h2 p0 p2
    rcases hp with rfl | rfl | rfl
    · by_cases hle : q ≤ A.q0
      · have he : accE A 0 q rs = 93 := by simp [accE, hok, InS.seq, hle]
        rw [he, if_neg (by decide)] at HF
        have hle' : decide (q ≤ A.q0) = true := by simpa using hle
        simp only [zeroI] at HF
        clear hok he hle
        go_enter Tryd.func18, Tryd.ntmps18
        go_wp2_with (first | ((with_reducible apply wpList_boxAgg _ HO rfl); exact rfl; exact rfl; exact rfl; clear HO; intro b2 w HO; (simp only [Act.put, List.setIfInBounds_toArray, List.set_cons_succ, List.set_cons_zero])) | ((have _h : Own W _ (box _ _ :: box _ _ :: _) := HO); clear _h; ((with_reducible apply wpList_allocAgg _ HO rfl); exact rfl; infer_instance; exact rfl; clear HO; intro b4 w HO; (simp only [Act.put, List.setIfInBounds_toArray, List.set_cons_succ, List.set_cons_zero]))) | (first | go_big_skip | ((with_reducible apply wpList_loadAll HO); exact rfl; exact rfl; (repeat (with_reducible (first | exact At.head _ | apply At.tail))); infer_instance; exact rfl; exact rfl; (simp only [Act.put, List.setIfInBounds_toArray, List.set_cons_succ, List.set_cons_zero])) | ((with_reducible apply wpList_loadOne HO); exact rfl; exact rfl; (repeat (with_reducible (first | exact At.head _ | apply At.tail))); exact rfl; infer_instance; exact rfl; (simp only [Act.put, List.setIfInBounds_toArray, List.set_cons_succ, List.set_cons_zero]))) | ((with_reducible apply wpList_storeAll HO); exact rfl; exact rfl; exact rfl; (repeat (with_reducible (first | exact At.head _ | apply At.tail))); infer_instance; exact rfl; exact rfl; exact rfl; exact rfl; clear HO; intro w HO; (simp only [Act.put])) | (go_at_call 46; go_must ((with_reducible refine (V _ HO.grown).mono ?_); rintro e w ⟨rfl, hb⟩; replace HO := HO.call hb; clear hb)))
        refine region_own HO (by kernel_rfl) (by kernel_rfl) ?_
        clear HO
        intro F HF
        repeat (first | (first | go_big_quiet_skip | ((with_reducible apply wpQuiet_loadAll HF); exact rfl; exact rfl; (repeat (with_reducible (first | exact At.head _ | apply At.tail))); infer_instance; exact rfl; exact rfl; (simp only [Act.put, List.setIfInBounds_toArray, List.set_cons_succ, List.set_cons_zero])) | ((with_reducible apply wpQuiet_loadOne HF); exact rfl; exact rfl; (repeat (with_reducible (first | exact At.head _ | apply At.tail))); exact rfl; infer_instance; exact rfl; (simp only [Act.put, List.setIfInBounds_toArray, List.set_cons_succ, List.set_cons_zero])) | ((with_reducible apply wpQuiet_loadPart HF); exact rfl; exact rfl; (repeat (with_reducible (first | exact At.head _ | apply At.tail))); infer_instance; exact (Nat.le_of_ble_eq_true rfl); (simp only [List.drop_succ_cons, List.drop_zero, List.take_succ_cons, List.take_zero]; rfl); exact rfl; (simp only [Act.put, List.setIfInBounds_toArray, List.set_cons_succ, List.set_cons_zero]))) | go_big_quiet_step (fail))
        refine wpQuiet_nil ?_
        intro x
        have HO := HF.own x
        clear HF
        generalize F x = w at *
        clear x F
        go_wp2_with (first | (first | go_big_skip | ((with_reducible apply wpList_loadAll HO); exact rfl; exact rfl; (repeat (with_reducible (first | exact At.head _ | apply At.tail))); infer_instance; exact rfl; exact rfl; (simp only [Act.put, List.setIfInBounds_toArray, List.set_cons_succ, List.set_cons_zero])) | ((with_reducible apply wpList_loadOne HO); exact rfl; exact rfl; (repeat (with_reducible (first | exact At.head _ | apply At.tail))); exact rfl; infer_instance; exact rfl; (simp only [Act.put, List.setIfInBounds_toArray, List.set_cons_succ, List.set_cons_zero]))) | ((with_reducible apply wpList_storeAll HO); exact rfl; exact rfl; exact rfl; (repeat (with_reducible (first | exact At.head _ | apply At.tail))); infer_instance; exact rfl; exact rfl; exact rfl; exact rfl; clear HO; intro w HO; (simp only [Act.put])))
        refine bodyPost_ret (results_box HO rfl rfl (by (repeat (with_reducible (first | exact At.head _ | apply At.tail)))) inferInstance rfl rfl) rfl ?_
        exact HF.out _ _ rfl HO.grown
      · have he : accE A 0 q rs = 0 := by simp [accE, hok, InS.seq, hle]
        rw [if_pos he] at HF
        have hle' : decide (q ≤ A.q0) = false := by simpa using hle
        clear hok he hle
        go_enter Tryd.func18, Tryd.ntmps18
        go_wp2_with (first | ((with_reducible apply wpList_boxAgg _ HO rfl); exact rfl; exact rfl; exact rfl; clear HO; intro b2 w HO; (simp only [Act.put, List.setIfInBounds_toArray, List.set_cons_succ, List.set_cons_zero])) | ((have _h : Own W _ (box _ _ :: box _ _ :: _) := HO); clear _h; ((with_reducible apply wpList_allocAgg _ HO rfl); exact rfl; infer_instance; exact rfl; clear HO; intro b4 w HO; (simp only [Act.put, List.setIfInBounds_toArray, List.set_cons_succ, List.set_cons_zero]))) | (first | go_big_skip | ((with_reducible apply wpList_loadAll HO); exact rfl; exact rfl; (repeat (with_reducible (first | exact At.head _ | apply At.tail))); infer_instance; exact rfl; exact rfl; (simp only [Act.put, List.setIfInBounds_toArray, List.set_cons_succ, List.set_cons_zero])) | ((with_reducible apply wpList_loadOne HO); exact rfl; exact rfl; (repeat (with_reducible (first | exact At.head _ | apply At.tail))); exact rfl; infer_instance; exact rfl; (simp only [Act.put, List.setIfInBounds_toArray, List.set_cons_succ, List.set_cons_zero]))) | ((with_reducible apply wpList_storeAll HO); exact rfl; exact rfl; exact rfl; (repeat (with_reducible (first | exact At.head _ | apply At.tail))); infer_instance; exact rfl; exact rfl; exact rfl; exact rfl; clear HO; intro w HO; (simp only [Act.put])) | (go_at_call 46; go_must ((with_reducible refine (V _ HO.grown).mono ?_); rintro e w ⟨rfl, hb⟩; replace HO := HO.call hb; clear hb)))
        refine region_own HO (by kernel_rfl) (by kernel_rfl) ?_
        clear HO
        intro F HF
        repeat (first | (first | go_big_quiet_skip | ((with_reducible apply wpQuiet_loadAll HF); exact rfl; exact rfl; (repeat (with_reducible (first | exact At.head _ | apply At.tail))); infer_instance; exact rfl; exact rfl; (simp only [Act.put, List.setIfInBounds_toArray, List.set_cons_succ, List.set_cons_zero])) | ((with_reducible apply wpQuiet_loadOne HF); exact rfl; exact rfl; (repeat (with_reducible (first | exact At.head _ | apply At.tail))); exact rfl; infer_instance; exact rfl; (simp only [Act.put, List.setIfInBounds_toArray, List.set_cons_succ, List.set_cons_zero])) | ((with_reducible apply wpQuiet_loadPart HF); exact rfl; exact rfl; (repeat (with_reducible (first | exact At.head _ | apply At.tail))); infer_instance; exact (Nat.le_of_ble_eq_true rfl); (simp only [List.drop_succ_cons, List.drop_zero, List.take_succ_cons, List.take_zero]; rfl); exact rfl; (simp only [Act.put, List.setIfInBounds_toArray, List.set_cons_succ, List.set_cons_zero]))) | go_big_quiet_step (fail))
        refine wpQuiet_nil ?_
        intro x
        have HO := HF.own x
        clear HF
        generalize F x = w at *
        clear x F
        go_wp2_with (first | (first | go_big_skip | ((with_reducible apply wpList_loadAll HO); exact rfl; exact rfl; (repeat (with_reducible (first | exact At.head _ | apply At.tail))); infer_instance; exact rfl; exact rfl; (simp only [Act.put, List.setIfInBounds_toArray, List.set_cons_succ, List.set_cons_zero])) | ((with_reducible apply wpList_loadOne HO); exact rfl; exact rfl; (repeat (with_reducible (first | exact At.head _ | apply At.tail))); exact rfl; infer_instance; exact rfl; (simp only [Act.put, List.setIfInBounds_toArray, List.set_cons_succ, List.set_cons_zero]))) | ((with_reducible apply wpList_storeAll HO); exact rfl; exact rfl; exact rfl; (repeat (with_reducible (first | exact At.head _ | apply At.tail))); infer_instance; exact rfl; exact rfl; exact rfl; exact rfl; clear HO; intro w HO; (simp only [Act.put])) | ((with_reducible apply wpList_storePart HO); exact rfl; exact rfl; (first | (simp [Act.eval]; rfl) | exact rfl); exact rfl; (repeat (with_reducible (first | exact At.head _ | apply At.tail))); infer_instance; exact rfl; exact (by simp); (simp only [putL, List.drop_succ_cons, List.drop_zero, List.take_succ_cons, List.take_zero, List.length_cons, List.length_nil, List.cons_append, List.nil_append, List.append_nil, Nat.reduceAdd]; rfl); exact rfl; exact rfl; clear HO; intro w HO; (simp only [Act.put])))
        refine bodyPost_ret (results_box HO rfl rfl (by (repeat (with_reducible (first | exact At.head _ | apply At.tail)))) inferInstance rfl rfl) rfl ?_
        exact HF.out _ _ rfl HO.grown
    · by_cases hle : q ≤ A.q1
      · have he : accE A 1 q rs = 93 := by simp [accE, hok, InS.seq, hle]
        rw [he, if_neg (by decide)] at HF
        have hle' : decide (q ≤ A.q1) = true := by simpa using hle
        simp only [zeroI] at HF
        clear hok he hle
        go_enter Tryd.func18, Tryd.ntmps18
        go_wp2_with (first | ((with_reducible apply wpList_boxAgg _ HO rfl); exact rfl; exact rfl; exact rfl; clear HO; intro b2 w HO; (simp only [Act.put, List.setIfInBounds_toArray, List.set_cons_succ, List.set_cons_zero])) | ((have _h : Own W _ (box _ _ :: box _ _ :: _) := HO); clear _h; ((with_reducible apply wpList_allocAgg _ HO rfl); exact rfl; infer_instance; exact rfl; clear HO; intro b4 w HO; (simp only [Act.put, List.setIfInBounds_toArray, List.set_cons_succ, List.set_cons_zero]))) | (first | go_big_skip | ((with_reducible apply wpList_loadAll HO); exact rfl; exact rfl; (repeat (with_reducible (first | exact At.head _ | apply At.tail))); infer_instance; exact rfl; exact rfl; (simp only [Act.put, List.setIfInBounds_toArray, List.set_cons_succ, List.set_cons_zero])) | ((with_reducible apply wpList_loadOne HO); exact rfl; exact rfl; (repeat (with_reducible (first | exact At.head _ | apply At.tail))); exact rfl; infer_instance; exact rfl; (simp only [Act.put, List.setIfInBounds_toArray, List.set_cons_succ, List.set_cons_zero]))) | ((with_reducible apply wpList_storeAll HO); exact rfl; exact rfl; exact rfl; (repeat (with_reducible (first | exact At.head _ | apply At.tail))); infer_instance; exact rfl; exact rfl; exact rfl; exact rfl; clear HO; intro w HO; (simp only [Act.put])) | (go_at_call 46; go_must ((with_reducible refine (V _ HO.grown).mono ?_); rintro e w ⟨rfl, hb⟩; replace HO := HO.call hb; clear hb)))
        refine region_own HO (by kernel_rfl) (by kernel_rfl) ?_
        clear HO
        intro F HF
        repeat (first | (first | go_big_quiet_skip | ((with_reducible apply wpQuiet_loadAll HF); exact rfl; exact rfl; (repeat (with_reducible (first | exact At.head _ | apply At.tail))); infer_instance; exact rfl; exact rfl; (simp only [Act.put, List.setIfInBounds_toArray, List.set_cons_succ, List.set_cons_zero])) | ((with_reducible apply wpQuiet_loadOne HF); exact rfl; exact rfl; (repeat (with_reducible (first | exact At.head _ | apply At.tail))); exact rfl; infer_instance; exact rfl; (simp only [Act.put, List.setIfInBounds_toArray, List.set_cons_succ, List.set_cons_zero])) | ((with_reducible apply wpQuiet_loadPart HF); exact rfl; exact rfl; (repeat (with_reducible (first | exact At.head _ | apply At.tail))); infer_instance; exact (Nat.le_of_ble_eq_true rfl); (simp only [List.drop_succ_cons, List.drop_zero, List.take_succ_cons, List.take_zero]; rfl); exact rfl; (simp only [Act.put, List.setIfInBounds_toArray, List.set_cons_succ, List.set_cons_zero]))) | go_big_quiet_step (fail))
        refine wpQuiet_nil ?_
        intro x
        have HO := HF.own x
        clear HF
        generalize F x = w at *
        clear x F
        go_wp2_with (first | (first | go_big_skip | ((with_reducible apply wpList_loadAll HO); exact rfl; exact rfl; (repeat (with_reducible (first | exact At.head _ | apply At.tail))); infer_instance; exact rfl; exact rfl; (simp only [Act.put, List.setIfInBounds_toArray, List.set_cons_succ, List.set_cons_zero])) | ((with_reducible apply wpList_loadOne HO); exact rfl; exact rfl; (repeat (with_reducible (first | exact At.head _ | apply At.tail))); exact rfl; infer_instance; exact rfl; (simp only [Act.put, List.setIfInBounds_toArray, List.set_cons_succ, List.set_cons_zero]))) | ((with_reducible apply wpList_storeAll HO); exact rfl; exact rfl; exact rfl; (repeat (with_reducible (first | exact At.head _ | apply At.tail))); infer_instance; exact rfl; exact rfl; exact rfl; exact rfl; clear HO; intro w HO; (simp only [Act.put])))
        refine bodyPost_ret (results_box HO rfl rfl (by (repeat (with_reducible (first | exact At.head _ | apply At.tail)))) inferInstance rfl rfl) rfl ?_
        exact HF.out _ _ rfl HO.grown
      · have he : accE A 1 q rs = 0 := by simp [accE, hok, InS.seq, hle]
        rw [if_pos he] at HF
        have hle' : decide (q ≤ A.q1) = false := by simpa using hle
        clear hok he hle
        go_enter Tryd.func18, Tryd.ntmps18
        go_wp2_with (first | ((with_reducible apply wpList_boxAgg _ HO rfl); exact rfl; exact rfl; exact rfl; clear HO; intro b2 w HO; (simp only [Act.put, List.setIfInBounds_toArray, List.set_cons_succ, List.set_cons_zero])) | ((have _h : Own W _ (box _ _ :: box _ _ :: _) := HO); clear _h; ((with_reducible apply wpList_allocAgg _ HO rfl); exact rfl; infer_instance; exact rfl; clear HO; intro b4 w HO; (simp only [Act.put, List.setIfInBounds_toArray, List.set_cons_succ, List.set_cons_zero]))) | (first | go_big_skip | ((with_reducible apply wpList_loadAll HO); exact rfl; exact rfl; (repeat (with_reducible (first | exact At.head _ | apply At.tail))); infer_instance; exact rfl; exact rfl; (simp only [Act.put, List.setIfInBounds_toArray, List.set_cons_succ, List.set_cons_zero])) | ((with_reducible apply wpList_loadOne HO); exact rfl; exact rfl; (repeat (with_reducible (first | exact At.head _ | apply At.tail))); exact rfl; infer_instance; exact rfl; (simp only [Act.put, List.setIfInBounds_toArray, List.set_cons_succ, List.set_cons_zero]))) | ((with_reducible apply wpList_storeAll HO); exact rfl; exact rfl; exact rfl; (repeat (with_reducible (first | exact At.head _ | apply At.tail))); infer_instance; exact rfl; exact rfl; exact rfl; exact rfl; clear HO; intro w HO; (simp only [Act.put])) | (go_at_call 46; go_must ((with_reducible refine (V _ HO.grown).mono ?_); rintro e w ⟨rfl, hb⟩; replace HO := HO.call hb; clear hb)))
        refine region_own HO (by kernel_rfl) (by kernel_rfl) ?_
        clear HO
        intro F HF
        repeat (first | (first | go_big_quiet_skip | ((with_reducible apply wpQuiet_loadAll HF); exact rfl; exact rfl; (repeat (with_reducible (first | exact At.head _ | apply At.tail))); infer_instance; exact rfl; exact rfl; (simp only [Act.put, List.setIfInBounds_toArray, List.set_cons_succ, List.set_cons_zero])) | ((with_reducible apply wpQuiet_loadOne HF); exact rfl; exact rfl; (repeat (with_reducible (first | exact At.head _ | apply At.tail))); exact rfl; infer_instance; exact rfl; (simp only [Act.put, List.setIfInBounds_toArray, List.set_cons_succ, List.set_cons_zero])) | ((with_reducible apply wpQuiet_loadPart HF); exact rfl; exact rfl; (repeat (with_reducible (first | exact At.head _ | apply At.tail))); infer_instance; exact (Nat.le_of_ble_eq_true rfl); (simp only [List.drop_succ_cons, List.drop_zero, List.take_succ_cons, List.take_zero]; rfl); exact rfl; (simp only [Act.put, List.setIfInBounds_toArray, List.set_cons_succ, List.set_cons_zero]))) | go_big_quiet_step (fail))
        refine wpQuiet_nil ?_
        intro x
        have HO := HF.own x
        clear HF
        generalize F x = w at *
        clear x F
        go_wp2_with (first | (first | go_big_skip | ((with_reducible apply wpList_loadAll HO); exact rfl; exact rfl; (repeat (with_reducible (first | exact At.head _ | apply At.tail))); infer_instance; exact rfl; exact rfl; (simp only [Act.put, List.setIfInBounds_toArray, List.set_cons_succ, List.set_cons_zero])) | ((with_reducible apply wpList_loadOne HO); exact rfl; exact rfl; (repeat (with_reducible (first | exact At.head _ | apply At.tail))); exact rfl; infer_instance; exact rfl; (simp only [Act.put, List.setIfInBounds_toArray, List.set_cons_succ, List.set_cons_zero]))) | ((with_reducible apply wpList_storeAll HO); exact rfl; exact rfl; exact rfl; (repeat (with_reducible (first | exact At.head _ | apply At.tail))); infer_instance; exact rfl; exact rfl; exact rfl; exact rfl; clear HO; intro w HO; (simp only [Act.put])) | ((with_reducible apply wpList_storePart HO); exact rfl; exact rfl; (first | (simp [Act.eval]; rfl) | exact rfl); exact rfl; (repeat (with_reducible (first | exact At.head _ | apply At.tail))); infer_instance; exact rfl; exact (by simp); (simp only [putL, List.drop_succ_cons, List.drop_zero, List.take_succ_cons, List.take_zero, List.length_cons, List.length_nil, List.cons_append, List.nil_append, List.append_nil, Nat.reduceAdd]; rfl); exact rfl; exact rfl; clear HO; intro w HO; (simp only [Act.put])))
        refine bodyPost_ret (results_box HO rfl rfl (by (repeat (with_reducible (first | exact At.head _ | apply At.tail)))) inferInstance rfl rfl) rfl ?_
        exact HF.out _ _ rfl HO.grown
    · by_cases hle : q ≤ A.q2
      · have he : accE A 2 q rs = 93 := by simp [accE, hok, InS.seq, hle]
        rw [he, if_neg (by decide)] at HF
        have hle' : decide (q ≤ A.q2) = true := by simpa using hle
        simp only [zeroI] at HF
        clear hok he hle
        go_enter Tryd.func18, Tryd.ntmps18
        go_wp2_with (first | ((with_reducible apply wpList_boxAgg _ HO rfl); exact rfl; exact rfl; exact rfl; clear HO; intro b2 w HO; (simp only [Act.put, List.setIfInBounds_toArray, List.set_cons_succ, List.set_cons_zero])) | ((have _h : Own W _ (box _ _ :: box _ _ :: _) := HO); clear _h; ((with_reducible apply wpList_allocAgg _ HO rfl); exact rfl; infer_instance; exact rfl; clear HO; intro b4 w HO; (simp only [Act.put, List.setIfInBounds_toArray, List.set_cons_succ, List.set_cons_zero]))) | (first | go_big_skip | ((with_reducible apply wpList_loadAll HO); exact rfl; exact rfl; (repeat (with_reducible (first | exact At.head _ | apply At.tail))); infer_instance; exact rfl; exact rfl; (simp only [Act.put, List.setIfInBounds_toArray, List.set_cons_succ, List.set_cons_zero])) | ((with_reducible apply wpList_loadOne HO); exact rfl; exact rfl; (repeat (with_reducible (first | exact At.head _ | apply At.tail))); exact rfl; infer_instance; exact rfl; (simp only [Act.put, List.setIfInBounds_toArray, List.set_cons_succ, List.set_cons_zero]))) | ((with_reducible apply wpList_storeAll HO); exact rfl; exact rfl; exact rfl; (repeat (with_reducible (first | exact At.head _ | apply At.tail))); infer_instance; exact rfl; exact rfl; exact rfl; exact rfl; clear HO; intro w HO; (simp only [Act.put])) | (go_at_call 46; go_must ((with_reducible refine (V _ HO.grown).mono ?_); rintro e w ⟨rfl, hb⟩; replace HO := HO.call hb; clear hb)))
        refine region_own HO (by kernel_rfl) (by kernel_rfl) ?_
        clear HO
        intro F HF
        repeat (first | (first | go_big_quiet_skip | ((with_reducible apply wpQuiet_loadAll HF); exact rfl; exact rfl; (repeat (with_reducible (first | exact At.head _ | apply At.tail))); infer_instance; exact rfl; exact rfl; (simp only [Act.put, List.setIfInBounds_toArray, List.set_cons_succ, List.set_cons_zero])) | ((with_reducible apply wpQuiet_loadOne HF); exact rfl; exact rfl; (repeat (with_reducible (first | exact At.head _ | apply At.tail))); exact rfl; infer_instance; exact rfl; (simp only [Act.put, List.setIfInBounds_toArray, List.set_cons_succ, List.set_cons_zero])) | ((with_reducible apply wpQuiet_loadPart HF); exact rfl; exact rfl; (repeat (with_reducible (first | exact At.head _ | apply At.tail))); infer_instance; exact (Nat.le_of_ble_eq_true rfl); (simp only [List.drop_succ_cons, List.drop_zero, List.take_succ_cons, List.take_zero]; rfl); exact rfl; (simp only [Act.put, List.setIfInBounds_toArray, List.set_cons_succ, List.set_cons_zero]))) | go_big_quiet_step (fail))
        refine wpQuiet_nil ?_
        intro x
        have HO := HF.own x
        clear HF
        generalize F x = w at *
        clear x F
        go_wp2_with (first | (first | go_big_skip | ((with_reducible apply wpList_loadAll HO); exact rfl; exact rfl; (repeat (with_reducible (first | exact At.head _ | apply At.tail))); infer_instance; exact rfl; exact rfl; (simp only [Act.put, List.setIfInBounds_toArray, List.set_cons_succ, List.set_cons_zero])) | ((with_reducible apply wpList_loadOne HO); exact rfl; exact rfl; (repeat (with_reducible (first | exact At.head _ | apply At.tail))); exact rfl; infer_instance; exact rfl; (simp only [Act.put, List.setIfInBounds_toArray, List.set_cons_succ, List.set_cons_zero]))) | ((with_reducible apply wpList_storeAll HO); exact rfl; exact rfl; exact rfl; (repeat (with_reducible (first | exact At.head _ | apply At.tail))); infer_instance; exact rfl; exact rfl; exact rfl; exact rfl; clear HO; intro w HO; (simp only [Act.put])))
        refine bodyPost_ret (results_box HO rfl rfl (by (repeat (with_reducible (first | exact At.head _ | apply At.tail)))) inferInstance rfl rfl) rfl ?_
        exact HF.out _ _ rfl HO.grown
      · have he : accE A 2 q rs = 0 := by simp [accE, hok, InS.seq, hle]
        rw [if_pos he] at HF
        have hle' : decide (q ≤ A.q2) = false := by simpa using hle
        clear hok he hle
        go_enter Tryd.func18, Tryd.ntmps18
        go_wp2_with (first | ((with_reducible apply wpList_boxAgg _ HO rfl); exact rfl; exact rfl; exact rfl; clear HO; intro b2 w HO; (simp only [Act.put, List.setIfInBounds_toArray, List.set_cons_succ, List.set_cons_zero])) | ((have _h : Own W _ (box _ _ :: box _ _ :: _) := HO); clear _h; ((with_reducible apply wpList_allocAgg _ HO rfl); exact rfl; infer_instance; exact rfl; clear HO; intro b4 w HO; (simp only [Act.put, List.setIfInBounds_toArray, List.set_cons_succ, List.set_cons_zero]))) | (first | go_big_skip | ((with_reducible apply wpList_loadAll HO); exact rfl; exact rfl; (repeat (with_reducible (first | exact At.head _ | apply At.tail))); infer_instance; exact rfl; exact rfl; (simp only [Act.put, List.setIfInBounds_toArray, List.set_cons_succ, List.set_cons_zero])) | ((with_reducible apply wpList_loadOne HO); exact rfl; exact rfl; (repeat (with_reducible (first | exact At.head _ | apply At.tail))); exact rfl; infer_instance; exact rfl; (simp only [Act.put, List.setIfInBounds_toArray, List.set_cons_succ, List.set_cons_zero]))) | ((with_reducible apply wpList_storeAll HO); exact rfl; exact rfl; exact rfl; (repeat (with_reducible (first | exact At.head _ | apply At.tail))); infer_instance; exact rfl; exact rfl; exact rfl; exact rfl; clear HO; intro w HO; (simp only [Act.put])) | (go_at_call 46; go_must ((with_reducible refine (V _ HO.grown).mono ?_); rintro e w ⟨rfl, hb⟩; replace HO := HO.call hb; clear hb)))
        refine region_own HO (by kernel_rfl) (by kernel_rfl) ?_
        clear HO
        intro F HF
        repeat (first | (first | go_big_quiet_skip | ((with_reducible apply wpQuiet_loadAll HF); exact rfl; exact rfl; (repeat (with_reducible (first | exact At.head _ | apply At.tail))); infer_instance; exact rfl; exact rfl; (simp only [Act.put, List.setIfInBounds_toArray, List.set_cons_succ, List.set_cons_zero])) | ((with_reducible apply wpQuiet_loadOne HF); exact rfl; exact rfl; (repeat (with_reducible (first | exact At.head _ | apply At.tail))); exact rfl; infer_instance; exact rfl; (simp only [Act.put, List.setIfInBounds_toArray, List.set_cons_succ, List.set_cons_zero])) | ((with_reducible apply wpQuiet_loadPart HF); exact rfl; exact rfl; (repeat (with_reducible (first | exact At.head _ | apply At.tail))); infer_instance; exact (Nat.le_of_ble_eq_true rfl); (simp only [List.drop_succ_cons, List.drop_zero, List.take_succ_cons, List.take_zero]; rfl); exact rfl; (simp only [Act.put, List.setIfInBounds_toArray, List.set_cons_succ, List.set_cons_zero]))) | go_big_quiet_step (fail))
        refine wpQuiet_nil ?_
        intro x
        have HO := HF.own x
        clear HF
        generalize F x = w at *
        clear x F
        go_wp2_with (first | (first | go_big_skip | ((with_reducible apply wpList_loadAll HO); exact rfl; exact rfl; (repeat (with_reducible (first | exact At.head _ | apply At.tail))); infer_instance; exact rfl; exact rfl; (simp only [Act.put, List.setIfInBounds_toArray, List.set_cons_succ, List.set_cons_zero])) | ((with_reducible apply wpList_loadOne HO); exact rfl; exact rfl; (repeat (with_reducible (first | exact At.head _ | apply At.tail))); exact rfl; infer_instance; exact rfl; (simp only [Act.put, List.setIfInBounds_toArray, List.set_cons_succ, List.set_cons_zero]))) | ((with_reducible apply wpList_storeAll HO); exact rfl; exact rfl; exact rfl; (repeat (with_reducible (first | exact At.head _ | apply At.tail))); infer_instance; exact rfl; exact rfl; exact rfl; exact rfl; clear HO; intro w HO; (simp only [Act.put])) | ((with_reducible apply wpList_storePart HO); exact rfl; exact rfl; (first | (simp [Act.eval]; rfl) | exact rfl); exact rfl; (repeat (with_reducible (first | exact At.head _ | apply At.tail))); infer_instance; exact rfl; exact (by simp); (simp only [putL, List.drop_succ_cons, List.drop_zero, List.take_succ_cons, List.take_zero, List.length_cons, List.length_nil, List.cons_append, List.nil_append, List.append_nil, Nat.reduceAdd]; rfl); exact rfl; exact rfl; clear HO; intro w HO; (simp only [Act.put])))
        refine bodyPost_ret (results_box HO rfl rfl (by (repeat (with_reducible (first | exact At.head _ | apply At.tail)))) inferInstance rfl rfl) rfl ?_
        exact HF.out _ _ rfl HO.grown
end Go.Proofs.YtlfphfklcifgpaaDoor

/-
  The newest statement of a party, and whether two intakes are the same, by walking the program's text; conditions: the rows lie in memory. (Printed by wip/mkintnew.py.)
-/
import Derived.Test.YtlfphfklcifgpaaDoorIntRow
import Derived.Test.YtlfphfklcifgpaaDoorRowSame2
namespace Go.Proofs.YtlfphfklcifgpaaDoor
open Go.RowKit Go.Own Go.Maps


set_option maxHeartbeats 8000000 in
set_option maxRecDepth 100000 in
theorem newest0_any {W : World} {v0 v1 v2 m : Value} (A : InS) (h0 : IsRows W v0 A.r0) (h1 : IsRows W v1 A.r1) (h2 : IsRows W v2 A.r2) (hl : A.r0.length ≤ 1000) (hm : m = .map none ∨ ∃ b, m = .map (some b)) :
    Calls Tryd.prog 16 #[.agg #[.int .i64 (A).p0, .int .i64 (A).q0, v0, .int .i64 (A).p1, .int .i64 (A).q1, v1, .int .i64 (A).p2, .int .i64 (A).q2, v2, m], .int .i64 0] W fun e w' => ∃ p c, e = .returned (.agg #[.int .i64 A.p0, .int .i64 A.q0, .slice p A.r0.length c]) ∧ Own W w' [row 45 5 (.slice p A.r0.length c) (A.r0.map rowC)] := by
  have HU := Lib.hid (fun (w' : World) (L : List Ent) (hO : Own W w' L) => isL_of_isRows (h0.below hO.grown h0.lt))
  obtain ⟨s0, c0, rfl, -⟩ := h0.slice
  obtain ⟨s1, c1, rfl, -⟩ := h1.slice
  obtain ⟨s2, c2, rfl, -⟩ := h2.slice
  generalize A.r0 = rs at *
  have HO := (Own.start W).nil 45 5
  clear h0 h1 h2
  rcases hm with rfl | ⟨mb, rfl⟩
  all_goals
    go_enter Tryd.func16, Tryd.ntmps16
    go_wp2_with (first | ((with_reducible apply wpList_boxAgg _ HO rfl); exact rfl; exact rfl; exact rfl; clear HO; intro b2 w HO; (simp only [Act.put, List.setIfInBounds_toArray, List.set_cons_succ, List.set_cons_zero])) | ((have _h : Own W _ (box _ _ :: box _ _ :: _) := HO); clear _h; ((with_reducible apply wpList_allocAgg _ HO rfl); exact rfl; infer_instance; exact rfl; clear HO; intro b5 w HO; (simp only [Act.put, List.setIfInBounds_toArray, List.set_cons_succ, List.set_cons_zero]))) | (first | go_big_skip | ((with_reducible apply wpList_loadAll HO); exact rfl; exact rfl; (repeat (with_reducible (first | exact At.head _ | apply At.tail))); infer_instance; exact rfl; exact rfl; (simp only [Act.put, List.setIfInBounds_toArray, List.set_cons_succ, List.set_cons_zero])) | ((with_reducible apply wpList_loadOne HO); exact rfl; exact rfl; (repeat (with_reducible (first | exact At.head _ | apply At.tail))); exact rfl; infer_instance; exact rfl; (simp only [Act.put, List.setIfInBounds_toArray, List.set_cons_succ, List.set_cons_zero]))) | ((with_reducible apply wpList_storeAll HO); exact rfl; exact rfl; exact rfl; (repeat (with_reducible (first | exact At.head _ | apply At.tail))); infer_instance; exact rfl; exact rfl; exact rfl; exact rfl; clear HO; intro w HO; (simp only [Act.put])) | ((with_reducible apply wpList_storePart HO); exact rfl; exact rfl; (first | (simp [Act.eval]; rfl) | exact rfl); exact rfl; (repeat (with_reducible (first | exact At.head _ | apply At.tail))); infer_instance; exact rfl; exact (by simp); (simp only [putL, List.drop_succ_cons, List.drop_zero, List.take_succ_cons, List.take_zero, List.length_cons, List.length_nil, List.cons_append, List.nil_append, List.append_nil, Nat.reduceAdd]; rfl); exact rfl; exact rfl; clear HO; intro w HO; (simp only [Act.put])) | ((with_reducible apply wpList_storeOne HO); exact rfl; exact rfl; (first | (simp [Act.eval]; rfl) | exact rfl); exact rfl; (repeat (with_reducible (first | exact At.head _ | apply At.tail))); infer_instance; exact (by simp); (simp only [List.set_cons_succ, List.set_cons_zero]; rfl); exact rfl; clear HO; intro w HO; (simp only [Act.put])) | ((with_reducible apply wpList_loadPart HO); exact rfl; exact rfl; (repeat (with_reducible (first | exact At.head _ | apply At.tail))); infer_instance; exact (Nat.le_of_ble_eq_true rfl); (simp only [List.drop_succ_cons, List.drop_zero, List.take_succ_cons, List.take_zero]; rfl); exact rfl; (simp only [Act.put, List.setIfInBounds_toArray, List.set_cons_succ, List.set_cons_zero])) | ((with_reducible apply wpList_allocAgg _ HO rfl); exact rfl; infer_instance; exact rfl; clear HO; intro b4 w HO; (simp only [Act.put, List.setIfInBounds_toArray, List.set_cons_succ, List.set_cons_zero])) | ((with_reducible apply wpList_appendAll HO); exact rfl; infer_instance; infer_instance; (first | (simp [Act.eval]; rfl) | exact rfl); exact rfl; exact (HU.out _ _ HO); exact rowC_len _; exact rowC_one _; intro _; (repeat (with_reducible (first | exact At.head _ | apply At.tail))); (simp; omega); decide; exact rfl; clear HO; intro v2 w HO hv2; clear hv2; (obtain ⟨⟨su, cu, rfl⟩, -⟩ := HO.rowForm (v := v2) (by (repeat (with_reducible (first | exact At.head _ | apply At.tail))))); simp only [List.nil_append, List.length_map] at HO ⊢; (simp only [Act.put, List.setIfInBounds_toArray, List.set_cons_succ, List.set_cons_zero])))
    refine bodyPost_ret (results_one HO rfl rfl (by (repeat (with_reducible (first | exact At.head _ | apply At.tail)))) inferInstance rfl) rfl ?_
    exact ⟨_, _, rfl, HO.sub (by exact .cons _ (.cons _ (.cons _ (List.Sublist.refl _))))⟩

set_option maxHeartbeats 8000000 in
set_option maxRecDepth 100000 in
theorem newest1_any {W : World} {v0 v1 v2 m : Value} (A : InS) (h0 : IsRows W v0 A.r0) (h1 : IsRows W v1 A.r1) (h2 : IsRows W v2 A.r2) (hl : A.r1.length ≤ 1000) (hm : m = .map none ∨ ∃ b, m = .map (some b)) :
    Calls Tryd.prog 16 #[.agg #[.int .i64 (A).p0, .int .i64 (A).q0, v0, .int .i64 (A).p1, .int .i64 (A).q1, v1, .int .i64 (A).p2, .int .i64 (A).q2, v2, m], .int .i64 1] W fun e w' => ∃ p c, e = .returned (.agg #[.int .i64 A.p1, .int .i64 A.q1, .slice p A.r1.length c]) ∧ Own W w' [row 45 5 (.slice p A.r1.length c) (A.r1.map rowC)] := by
  have HU := Lib.hid (fun (w' : World) (L : List Ent) (hO : Own W w' L) => isL_of_isRows (h1.below hO.grown h1.lt))
  obtain ⟨s0, c0, rfl, -⟩ := h0.slice
  obtain ⟨s1, c1, rfl, -⟩ := h1.slice
  obtain ⟨s2, c2, rfl, -⟩ := h2.slice
  generalize A.r1 = rs at *
  have HO := (Own.start W).nil 45 5
  clear h0 h1 h2
  rcases hm with rfl | ⟨mb, rfl⟩
  all_goals
    go_enter Tryd.func16, Tryd.ntmps16
    go_wp2_with (first | ((with_reducible apply wpList_boxAgg _ HO rfl); exact rfl; exact rfl; exact rfl; clear HO; intro b2 w HO; (simp only [Act.put, List.setIfInBounds_toArray, List.set_cons_succ, List.set_cons_zero])) | ((have _h : Own W _ (box _ _ :: box _ _ :: _) := HO); clear _h; ((with_reducible apply wpList_allocAgg _ HO rfl); exact rfl; infer_instance; exact rfl; clear HO; intro b5 w HO; (simp only [Act.put, List.setIfInBounds_toArray, List.set_cons_succ, List.set_cons_zero]))) | (first | go_big_skip | ((with_reducible apply wpList_loadAll HO); exact rfl; exact rfl; (repeat (with_reducible (first | exact At.head _ | apply At.tail))); infer_instance; exact rfl; exact rfl; (simp only [Act.put, List.setIfInBounds_toArray, List.set_cons_succ, List.set_cons_zero])) | ((with_reducible apply wpList_loadOne HO); exact rfl; exact rfl; (repeat (with_reducible (first | exact At.head _ | apply At.tail))); exact rfl; infer_instance; exact rfl; (simp only [Act.put, List.setIfInBounds_toArray, List.set_cons_succ, List.set_cons_zero]))) | ((with_reducible apply wpList_storeAll HO); exact rfl; exact rfl; exact rfl; (repeat (with_reducible (first | exact At.head _ | apply At.tail))); infer_instance; exact rfl; exact rfl; exact rfl; exact rfl; clear HO; intro w HO; (simp only [Act.put])) | ((with_reducible apply wpList_storePart HO); exact rfl; exact rfl; (first | (simp [Act.eval]; rfl) | exact rfl); exact rfl; (repeat (with_reducible (first | exact At.head _ | apply At.tail))); infer_instance; exact rfl; exact (by simp); (simp only [putL, List.drop_succ_cons, List.drop_zero, List.take_succ_cons, List.take_zero, List.length_cons, List.length_nil, List.cons_append, List.nil_append, List.append_nil, Nat.reduceAdd]; rfl); exact rfl; exact rfl; clear HO; intro w HO; (simp only [Act.put])) | ((with_reducible apply wpList_storeOne HO); exact rfl; exact rfl; (first | (simp [Act.eval]; rfl) | exact rfl); exact rfl; (repeat (with_reducible (first | exact At.head _ | apply At.tail))); infer_instance; exact (by simp); (simp only [List.set_cons_succ, List.set_cons_zero]; rfl); exact rfl; clear HO; intro w HO; (simp only [Act.put])) | ((with_reducible apply wpList_loadPart HO); exact rfl; exact rfl; (repeat (with_reducible (first | exact At.head _ | apply At.tail))); infer_instance; exact (Nat.le_of_ble_eq_true rfl); (simp only [List.drop_succ_cons, List.drop_zero, List.take_succ_cons, List.take_zero]; rfl); exact rfl; (simp only [Act.put, List.setIfInBounds_toArray, List.set_cons_succ, List.set_cons_zero])) | ((with_reducible apply wpList_allocAgg _ HO rfl); exact rfl; infer_instance; exact rfl; clear HO; intro b4 w HO; (simp only [Act.put, List.setIfInBounds_toArray, List.set_cons_succ, List.set_cons_zero])) | ((with_reducible apply wpList_appendAll HO); exact rfl; infer_instance; infer_instance; (first | (simp [Act.eval]; rfl) | exact rfl); exact rfl; exact (HU.out _ _ HO); exact rowC_len _; exact rowC_one _; intro _; (repeat (with_reducible (first | exact At.head _ | apply At.tail))); (simp; omega); decide; exact rfl; clear HO; intro v2 w HO hv2; clear hv2; (obtain ⟨⟨su, cu, rfl⟩, -⟩ := HO.rowForm (v := v2) (by (repeat (with_reducible (first | exact At.head _ | apply At.tail))))); simp only [List.nil_append, List.length_map] at HO ⊢; (simp only [Act.put, List.setIfInBounds_toArray, List.set_cons_succ, List.set_cons_zero])))
    refine bodyPost_ret (results_one HO rfl rfl (by (repeat (with_reducible (first | exact At.head _ | apply At.tail)))) inferInstance rfl) rfl ?_
    exact ⟨_, _, rfl, HO.sub (by exact .cons _ (.cons _ (.cons _ (List.Sublist.refl _))))⟩

set_option maxHeartbeats 8000000 in
set_option maxRecDepth 100000 in
theorem newest2_any {W : World} {v0 v1 v2 m : Value} (A : InS) (h0 : IsRows W v0 A.r0) (h1 : IsRows W v1 A.r1) (h2 : IsRows W v2 A.r2) (hl : A.r2.length ≤ 1000) (hm : m = .map none ∨ ∃ b, m = .map (some b)) :
    Calls Tryd.prog 16 #[.agg #[.int .i64 (A).p0, .int .i64 (A).q0, v0, .int .i64 (A).p1, .int .i64 (A).q1, v1, .int .i64 (A).p2, .int .i64 (A).q2, v2, m], .int .i64 2] W fun e w' => ∃ p c, e = .returned (.agg #[.int .i64 A.p2, .int .i64 A.q2, .slice p A.r2.length c]) ∧ Own W w' [row 45 5 (.slice p A.r2.length c) (A.r2.map rowC)] := by
  have HU := Lib.hid (fun (w' : World) (L : List Ent) (hO : Own W w' L) => isL_of_isRows (h2.below hO.grown h2.lt))
  obtain ⟨s0, c0, rfl, -⟩ := h0.slice
  obtain ⟨s1, c1, rfl, -⟩ := h1.slice
  obtain ⟨s2, c2, rfl, -⟩ := h2.slice
  generalize A.r2 = rs at *
  have HO := (Own.start W).nil 45 5
  clear h0 h1 h2
  rcases hm with rfl | ⟨mb, rfl⟩
  all_goals
    go_enter Tryd.func16, Tryd.ntmps16
    go_wp2_with (first | ((with_reducible apply wpList_boxAgg _ HO rfl); exact rfl; exact rfl; exact rfl; clear HO; intro b2 w HO; (simp only [Act.put, List.setIfInBounds_toArray, List.set_cons_succ, List.set_cons_zero])) | ((have _h : Own W _ (box _ _ :: box _ _ :: _) := HO); clear _h; ((with_reducible apply wpList_allocAgg _ HO rfl); exact rfl; infer_instance; exact rfl; clear HO; intro b5 w HO; (simp only [Act.put, List.setIfInBounds_toArray, List.set_cons_succ, List.set_cons_zero]))) | (first | go_big_skip | ((with_reducible apply wpList_loadAll HO); exact rfl; exact rfl; (repeat (with_reducible (first | exact At.head _ | apply At.tail))); infer_instance; exact rfl; exact rfl; (simp only [Act.put, List.setIfInBounds_toArray, List.set_cons_succ, List.set_cons_zero])) | ((with_reducible apply wpList_loadOne HO); exact rfl; exact rfl; (repeat (with_reducible (first | exact At.head _ | apply At.tail))); exact rfl; infer_instance; exact rfl; (simp only [Act.put, List.setIfInBounds_toArray, List.set_cons_succ, List.set_cons_zero]))) | ((with_reducible apply wpList_storeAll HO); exact rfl; exact rfl; exact rfl; (repeat (with_reducible (first | exact At.head _ | apply At.tail))); infer_instance; exact rfl; exact rfl; exact rfl; exact rfl; clear HO; intro w HO; (simp only [Act.put])) | ((with_reducible apply wpList_storePart HO); exact rfl; exact rfl; (first | (simp [Act.eval]; rfl) | exact rfl); exact rfl; (repeat (with_reducible (first | exact At.head _ | apply At.tail))); infer_instance; exact rfl; exact (by simp); (simp only [putL, List.drop_succ_cons, List.drop_zero, List.take_succ_cons, List.take_zero, List.length_cons, List.length_nil, List.cons_append, List.nil_append, List.append_nil, Nat.reduceAdd]; rfl); exact rfl; exact rfl; clear HO; intro w HO; (simp only [Act.put])) | ((with_reducible apply wpList_storeOne HO); exact rfl; exact rfl; (first | (simp [Act.eval]; rfl) | exact rfl); exact rfl; (repeat (with_reducible (first | exact At.head _ | apply At.tail))); infer_instance; exact (by simp); (simp only [List.set_cons_succ, List.set_cons_zero]; rfl); exact rfl; clear HO; intro w HO; (simp only [Act.put])) | ((with_reducible apply wpList_loadPart HO); exact rfl; exact rfl; (repeat (with_reducible (first | exact At.head _ | apply At.tail))); infer_instance; exact (Nat.le_of_ble_eq_true rfl); (simp only [List.drop_succ_cons, List.drop_zero, List.take_succ_cons, List.take_zero]; rfl); exact rfl; (simp only [Act.put, List.setIfInBounds_toArray, List.set_cons_succ, List.set_cons_zero])) | ((with_reducible apply wpList_allocAgg _ HO rfl); exact rfl; infer_instance; exact rfl; clear HO; intro b4 w HO; (simp only [Act.put, List.setIfInBounds_toArray, List.set_cons_succ, List.set_cons_zero])) | ((with_reducible apply wpList_appendAll HO); exact rfl; infer_instance; infer_instance; (first | (simp [Act.eval]; rfl) | exact rfl); exact rfl; exact (HU.out _ _ HO); exact rowC_len _; exact rowC_one _; intro _; (repeat (with_reducible (first | exact At.head _ | apply At.tail))); (simp; omega); decide; exact rfl; clear HO; intro v2 w HO hv2; clear hv2; (obtain ⟨⟨su, cu, rfl⟩, -⟩ := HO.rowForm (v := v2) (by (repeat (with_reducible (first | exact At.head _ | apply At.tail))))); simp only [List.nil_append, List.length_map] at HO ⊢; (simp only [Act.put, List.setIfInBounds_toArray, List.set_cons_succ, List.set_cons_zero])))
    refine bodyPost_ret (results_one HO rfl rfl (by (repeat (with_reducible (first | exact At.head _ | apply At.tail)))) inferInstance rfl) rfl ?_
    exact ⟨_, _, rfl, HO.sub (by exact .cons _ (.cons _ (.cons _ (List.Sublist.refl _))))⟩

set_option maxHeartbeats 8000000 in
set_option maxRecDepth 100000 in
theorem newestNo_any {W : World} {v0 v1 v2 m : Value} (A : InS) (p : Int) (h0 : IsRows W v0 A.r0) (h1 : IsRows W v1 A.r1) (h2 : IsRows W v2 A.r2) (hm : m = .map none ∨ ∃ b, m = .map (some b)) (hp : p < 0 ∨ 2 < p) :
    Calls Tryd.prog 16 #[.agg #[.int .i64 (A).p0, .int .i64 (A).q0, v0, .int .i64 (A).p1, .int .i64 (A).q1, v1, .int .i64 (A).p2, .int .i64 (A).q2, v2, m], .int .i64 p] W fun e w' => e = .returned (.agg #[.int .i64 0, .int .i64 0, .slice none 0 0]) ∧ Below W.heap.size W w' := by
  obtain ⟨s0, c0, rfl, -⟩ := h0.slice
  obtain ⟨s1, c1, rfl, -⟩ := h1.slice
  obtain ⟨s2, c2, rfl, -⟩ := h2.slice
  have HO := Own.start W
  clear h0 h1 h2
  by_cases hp0 : p < 0
  · clear hp
    rcases hm with rfl | ⟨mb, rfl⟩
    all_goals
      go_enter Tryd.func16, Tryd.ntmps16
      go_wp2_with (first | ((with_reducible apply wpList_boxAgg _ HO rfl); exact rfl; exact rfl; exact rfl; clear HO; intro b2 w HO; (simp only [Act.put, List.setIfInBounds_toArray, List.set_cons_succ, List.set_cons_zero])) | (first | go_big_skip | ((with_reducible apply wpList_loadAll HO); exact rfl; exact rfl; (repeat (with_reducible (first | exact At.head _ | apply At.tail))); infer_instance; exact rfl; exact rfl; (simp only [Act.put, List.setIfInBounds_toArray, List.set_cons_succ, List.set_cons_zero])) | ((with_reducible apply wpList_loadOne HO); exact rfl; exact rfl; (repeat (with_reducible (first | exact At.head _ | apply At.tail))); exact rfl; infer_instance; exact rfl; (simp only [Act.put, List.setIfInBounds_toArray, List.set_cons_succ, List.set_cons_zero]))) | ((with_reducible apply wpList_storeAll HO); exact rfl; exact rfl; exact rfl; (repeat (with_reducible (first | exact At.head _ | apply At.tail))); infer_instance; exact rfl; exact rfl; exact rfl; exact rfl; clear HO; intro w HO; (simp only [Act.put])) | ((with_reducible apply wpList_allocAgg _ HO rfl); exact rfl; infer_instance; exact rfl; clear HO; intro b4 w HO; (simp only [Act.put, List.setIfInBounds_toArray, List.set_cons_succ, List.set_cons_zero])))
      refine bodyPost_ret (results_one HO rfl rfl (by (repeat (with_reducible (first | exact At.head _ | apply At.tail)))) inferInstance rfl) rfl ?_
      exact ⟨rfl, HO.grown⟩
  · have hp2 : 2 < p := by omega
    clear hp
    rcases hm with rfl | ⟨mb, rfl⟩
    all_goals
      go_enter Tryd.func16, Tryd.ntmps16
      go_wp2_with (first | ((with_reducible apply wpList_boxAgg _ HO rfl); exact rfl; exact rfl; exact rfl; clear HO; intro b2 w HO; (simp only [Act.put, List.setIfInBounds_toArray, List.set_cons_succ, List.set_cons_zero])) | (first | go_big_skip | ((with_reducible apply wpList_loadAll HO); exact rfl; exact rfl; (repeat (with_reducible (first | exact At.head _ | apply At.tail))); infer_instance; exact rfl; exact rfl; (simp only [Act.put, List.setIfInBounds_toArray, List.set_cons_succ, List.set_cons_zero])) | ((with_reducible apply wpList_loadOne HO); exact rfl; exact rfl; (repeat (with_reducible (first | exact At.head _ | apply At.tail))); exact rfl; infer_instance; exact rfl; (simp only [Act.put, List.setIfInBounds_toArray, List.set_cons_succ, List.set_cons_zero]))) | ((with_reducible apply wpList_storeAll HO); exact rfl; exact rfl; exact rfl; (repeat (with_reducible (first | exact At.head _ | apply At.tail))); infer_instance; exact rfl; exact rfl; exact rfl; exact rfl; clear HO; intro w HO; (simp only [Act.put])) | ((with_reducible apply wpList_allocAgg _ HO rfl); exact rfl; infer_instance; exact rfl; clear HO; intro b4 w HO; (simp only [Act.put, List.setIfInBounds_toArray, List.set_cons_succ, List.set_cons_zero])))
      refine bodyPost_ret (results_one HO rfl rfl (by (repeat (with_reducible (first | exact At.head _ | apply At.tail)))) inferInstance rfl) rfl ?_
      exact ⟨rfl, HO.grown⟩
def sameI (A B : InS) : Bool := sameStmt A.p0 A.q0 A.r0 B.p0 B.q0 B.r0 && (sameStmt A.p1 A.q1 A.r1 B.p1 B.q1 B.r1 && sameStmt A.p2 A.q2 A.r2 B.p2 B.q2 B.r2)

set_option maxHeartbeats 8000000 in
set_option maxRecDepth 100000 in
theorem intSame_any {W : World} {v0 v1 v2 m u0 u1 u2 m' : Value} (A B : InS) (h0 : IsRows W v0 A.r0) (h1 : IsRows W v1 A.r1) (h2 : IsRows W v2 A.r2) (g0 : IsRows W u0 B.r0) (g1 : IsRows W u1 B.r1) (g2 : IsRows W u2 B.r2) (hm : m = .map none ∨ ∃ b, m = .map (some b)) (hm' : m' = .map none ∨ ∃ b, m' = .map (some b)) :
    Calls Tryd.prog 15 #[.agg #[.int .i64 (A).p0, .int .i64 (A).q0, v0, .int .i64 (A).p1, .int .i64 (A).q1, v1, .int .i64 (A).p2, .int .i64 (A).q2, v2, m], .agg #[.int .i64 (B).p0, .int .i64 (B).q0, u0, .int .i64 (B).p1, .int .i64 (B).q1, u1, .int .i64 (B).p2, .int .i64 (B).q2, u2, m']] W fun e w' => e = .returned (.bool (sameI A B)) ∧ Below W.heap.size W w' := by
  have S0 := fun w (hb : Below W.heap.size W w) => rowsSame_any A.p0 A.q0 B.p0 B.q0 (h0.below hb h0.lt) (g0.below hb g0.lt)
  have S1 := fun w (hb : Below W.heap.size W w) => rowsSame_any A.p1 A.q1 B.p1 B.q1 (h1.below hb h1.lt) (g1.below hb g1.lt)
  have S2 := fun w (hb : Below W.heap.size W w) => rowsSame_any A.p2 A.q2 B.p2 B.q2 (h2.below hb h2.lt) (g2.below hb g2.lt)
  have HQ := Lib.hid (show sameI A B = (sameStmt A.p0 A.q0 A.r0 B.p0 B.q0 B.r0 && (sameStmt A.p1 A.q1 A.r1 B.p1 B.q1 B.r1 && sameStmt A.p2 A.q2 A.r2 B.p2 B.q2 B.r2)) from rfl)
  obtain ⟨s0, c0, rfl, -⟩ := h0.slice
  obtain ⟨s1, c1, rfl, -⟩ := h1.slice
  obtain ⟨s2, c2, rfl, -⟩ := h2.slice
  obtain ⟨t0, d0, rfl, -⟩ := g0.slice
  obtain ⟨t1, d1, rfl, -⟩ := g1.slice
  obtain ⟨t2, d2, rfl, -⟩ := g2.slice
  generalize sameI A B = z at *
  generalize sameStmt A.p0 A.q0 A.r0 B.p0 B.q0 B.r0 = z0 at *
  generalize sameStmt A.p1 A.q1 A.r1 B.p1 B.q1 B.r1 = z1 at *
  generalize sameStmt A.p2 A.q2 A.r2 B.p2 B.q2 B.r2 = z2 at *
  have HO := Own.start W
  have hmm : ∃ x y, m = .map x ∧ m' = .map y := by
    rcases hm with rfl | ⟨a, rfl⟩ <;> rcases hm' with rfl | ⟨b, rfl⟩ <;> exact ⟨_, _, rfl, rfl⟩
  obtain ⟨mx, my, rfl, rfl⟩ := hmm
  clear h0 h1 h2 g0 g1 g2 hm hm'
  go_enter Tryd.func15, Tryd.ntmps15
  go_wp2_with (first | ((with_reducible apply wpList_boxAgg _ HO rfl); exact rfl; exact rfl; exact rfl; clear HO; intro b2 w HO; (simp only [Act.put, List.setIfInBounds_toArray, List.set_cons_succ, List.set_cons_zero])) | (first | go_big_skip | ((with_reducible apply wpList_loadAll HO); exact rfl; exact rfl; (repeat (with_reducible (first | exact At.head _ | apply At.tail))); infer_instance; exact rfl; exact rfl; (simp only [Act.put, List.setIfInBounds_toArray, List.set_cons_succ, List.set_cons_zero])) | ((with_reducible apply wpList_loadOne HO); exact rfl; exact rfl; (repeat (with_reducible (first | exact At.head _ | apply At.tail))); exact rfl; infer_instance; exact rfl; (simp only [Act.put, List.setIfInBounds_toArray, List.set_cons_succ, List.set_cons_zero]))))
  refine wp_loop_rounds 4 ?_
  rw [rounds_succ]
  go_wp2_with fail
  refine region_own HO (by kernel_rfl) (by kernel_rfl) ?_
  clear HO
  intro F HF
  repeat (first | (first | go_big_quiet_skip | ((with_reducible apply wpQuiet_loadAll HF); exact rfl; exact rfl; (repeat (with_reducible (first | exact At.head _ | apply At.tail))); infer_instance; exact rfl; exact rfl; (simp only [Act.put, List.setIfInBounds_toArray, List.set_cons_succ, List.set_cons_zero])) | ((with_reducible apply wpQuiet_loadOne HF); exact rfl; exact rfl; (repeat (with_reducible (first | exact At.head _ | apply At.tail))); exact rfl; infer_instance; exact rfl; (simp only [Act.put, List.setIfInBounds_toArray, List.set_cons_succ, List.set_cons_zero])) | ((with_reducible apply wpQuiet_loadPart HF); exact rfl; exact rfl; (repeat (with_reducible (first | exact At.head _ | apply At.tail))); infer_instance; exact (Nat.le_of_ble_eq_true rfl); (simp only [List.drop_succ_cons, List.drop_zero, List.take_succ_cons, List.take_zero]; rfl); exact rfl; (simp only [Act.put, List.setIfInBounds_toArray, List.set_cons_succ, List.set_cons_zero]))) | go_big_quiet_step ((go_at_call 45; (with_reducible exact calls_fam HF (S0 _ (HF.own _).grown)))))
  refine wpQuiet_nil ?_
  intro x
  have HO := HF.own x
  clear HF
  generalize F x = w at *
  clear x F
  cases z0
  · go_wp2_with fail
    go_ret
    exact ⟨by first | (rw [HQ.out]; done) | (rw [HQ.out]; rfl), HO.grown⟩
  · go_wp2_with fail
    rw [rounds_succ]
    go_wp2_with fail
    refine region_own HO (by kernel_rfl) (by kernel_rfl) ?_
    clear HO
    intro F HF
    repeat (first | (first | go_big_quiet_skip | ((with_reducible apply wpQuiet_loadAll HF); exact rfl; exact rfl; (repeat (with_reducible (first | exact At.head _ | apply At.tail))); infer_instance; exact rfl; exact rfl; (simp only [Act.put, List.setIfInBounds_toArray, List.set_cons_succ, List.set_cons_zero])) | ((with_reducible apply wpQuiet_loadOne HF); exact rfl; exact rfl; (repeat (with_reducible (first | exact At.head _ | apply At.tail))); exact rfl; infer_instance; exact rfl; (simp only [Act.put, List.setIfInBounds_toArray, List.set_cons_succ, List.set_cons_zero])) | ((with_reducible apply wpQuiet_loadPart HF); exact rfl; exact rfl; (repeat (with_reducible (first | exact At.head _ | apply At.tail))); infer_instance; exact (Nat.le_of_ble_eq_true rfl); (simp only [List.drop_succ_cons, List.drop_zero, List.take_succ_cons, List.take_zero]; rfl); exact rfl; (simp only [Act.put, List.setIfInBounds_toArray, List.set_cons_succ, List.set_cons_zero]))) | go_big_quiet_step ((go_at_call 45; (with_reducible exact calls_fam HF (S1 _ (HF.own _).grown)))))
    refine wpQuiet_nil ?_
    intro x
    have HO := HF.own x
    clear HF
    generalize F x = w at *
    clear x F
    cases z1
    · go_wp2_with fail
      go_ret
      exact ⟨by first | (rw [HQ.out]; done) | (rw [HQ.out]; rfl), HO.grown⟩
    · go_wp2_with fail
      rw [rounds_succ]
      go_wp2_with fail
      refine region_own HO (by kernel_rfl) (by kernel_rfl) ?_
      clear HO
      intro F HF
      repeat (first | (first | go_big_quiet_skip | ((with_reducible apply wpQuiet_loadAll HF); exact rfl; exact rfl; (repeat (with_reducible (first | exact At.head _ | apply At.tail))); infer_instance; exact rfl; exact rfl; (simp only [Act.put, List.setIfInBounds_toArray, List.set_cons_succ, List.set_cons_zero])) | ((with_reducible apply wpQuiet_loadOne HF); exact rfl; exact rfl; (repeat (with_reducible (first | exact At.head _ | apply At.tail))); exact rfl; infer_instance; exact rfl; (simp only [Act.put, List.setIfInBounds_toArray, List.set_cons_succ, List.set_cons_zero])) | ((with_reducible apply wpQuiet_loadPart HF); exact rfl; exact rfl; (repeat (with_reducible (first | exact At.head _ | apply At.tail))); infer_instance; exact (Nat.le_of_ble_eq_true rfl); (simp only [List.drop_succ_cons, List.drop_zero, List.take_succ_cons, List.take_zero]; rfl); exact rfl; (simp only [Act.put, List.setIfInBounds_toArray, List.set_cons_succ, List.set_cons_zero]))) | go_big_quiet_step ((go_at_call 45; (with_reducible exact calls_fam HF (S2 _ (HF.own _).grown)))))
      refine wpQuiet_nil ?_
      intro x
      have HO := HF.own x
      clear HF
      generalize F x = w at *
      clear x F
      cases z2
      · go_wp2_with fail
        go_ret
        exact ⟨by first | (rw [HQ.out]; done) | (rw [HQ.out]; rfl), HO.grown⟩
      · go_wp2_with fail
        rw [rounds_succ]
        go_wp2_with fail
        go_ret
        exact ⟨by first | (rw [HQ.out]; done) | (rw [HQ.out]; rfl), HO.grown⟩
end Go.Proofs.YtlfphfklcifgpaaDoor

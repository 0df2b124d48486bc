/-
  Accepting a statement, by walking both texts: where it is not; and the document's; conditions: the rows lie in memory, the table of parties as laid.
  The chapter's example of an intake, by walking the law's text; conditions: the table of parties as laid.
  The pieces of memory of an intake that is led through statements; conditions: none.
  Whether a core has a reference; a new one; by walking the program's text; conditions: none.
  What a saga becomes, by walking both texts; conditions: none.
  Boxes that a call has laid, seen behind another call; conditions: none.
  What a saga becomes when it goes on, by walking both texts; conditions: none. (Printed by wip/mkon.py.)
  What a saga becomes by a reply, or by being cancelled, how it begins, and its net, by walking both texts; conditions: none.
  Two boxes that a call has laid, followed through stores and calls; conditions: none.
-/
import Derived.Deep.CutBlock
import Derived.Deep.DeepCutAuto
import Derived.Test.YtibabfedpdoofaaGreatDoorQa1
import Derived.Test.YtibabfedpdoofaaGreatDoorQa5
import Derived.Test.YtibabfedpdoofaaGreatDoorQa6
namespace Go.Proofs.YtibabfedpdoofaaGreatDoor
open Go.RowKit Go.Own Go.Maps

set_option maxHeartbeats 8000000 in
set_option maxRecDepth 100000 in
theorem accept_any {W : World} {v0 v1 v2 v m : Value} (A : InS) (p q : Int) (rs : List RowS) (h0 : IsRows W v0 A.r0) (h1 : IsRows W v1 A.r1) (h2 : IsRows W v2 A.r2) (h : IsRows W v rs) (hA : InOk A) (hm : m = .map none ∨ ∃ b, m = .map (some b)) (hL : Laid W) :
    Calls Tryz.prog 130 #[.agg #[.int .i64 (A).p0, .int .i64 (A).q0, v0, .int .i64 (A).p1, .int .i64 (A).q1, v1, .int .i64 (A).p2, .int .i64 (A).q2, v2, m], .agg #[.int .i64 p, .int .i64 q, v]] W (AccPost A p q rs v0 v1 v2 W) := by
  by_cases hacc : accE A p q rs = 0
  · obtain ⟨_, _, p0, p2, _, _⟩ := okStmt_ok (accE_ok hacc).1
    have hp : p = 0 ∨ p = 1 ∨ p = 2 := by omega
    rcases hp with rfl | rfl | rfl
    · exact accept0_any A m q rs h0 h1 h2 h hA hm hL hacc
    · exact accept1_any A m q rs h0 h1 h2 h hA hm hL hacc
    · exact accept2_any A m q rs h0 h1 h2 h hA hm hL hacc
  have V := fun w (hb : Below W.heap.size W w) => rowsValid_any p q (h.below hb h.lt) (hL.below hb hL.1)
  have HF := Lib.hid (fun (e : Ending) (w' : World) (he : e = .returned (.tuple #[.agg #[.int .i64 (zeroI).p0, .int .i64 (zeroI).q0, .slice none 0 0, .int .i64 (zeroI).p1, .int .i64 (zeroI).q1, .slice none 0 0, .int .i64 (zeroI).p2, .int .i64 (zeroI).q2, .slice none 0 0, .map none], .int .i64 (accE A p q rs)])) (hb : Below W.heap.size W w') => (show AccPost A p q rs v0 v1 v2 W e w' from by unfold AccPost; rw [if_neg hacc]; exact ⟨he, hb⟩))
  have HO := Own.start W
  simp only [zeroI] at HF
  cases hok : okStmt p q rs
  · have he : accE A p q rs = 2 := by simp [accE, hok]
    rw [hok] at V
    generalize AccPost A p q rs v0 v1 v2 W = Post at *
    rw [he] at HF
    obtain ⟨s, c, rfl, -⟩ := h.slice
    obtain ⟨s0, c0, rfl, -⟩ := h0.slice
    obtain ⟨s1, c1, rfl, -⟩ := h1.slice
    obtain ⟨s2, c2, rfl, -⟩ := h2.slice
    generalize rs.length = n at *
    generalize A.r0.length = n0 at *
    generalize A.r1.length = n1 at *
    generalize A.r2.length = n2 at *
    clear h h0 h1 h2 hA hL hok hacc he
    rcases hm with rfl | ⟨mb, rfl⟩
    all_goals
      go_enter Tryz.func130, Tryz.ntmps130
      go_wp2_with (first | ((with_reducible apply wpList_boxAgg _ HO rfl); exact rfl; exact rfl; exact rfl; clear HO; intro b2 w HO; (simp only [Act.put, zA, zB, zC])) | ((have _h : Own W _ (box _ _ :: box _ _ :: _) := HO); clear _h; ((with_reducible apply wpList_allocAgg _ HO rfl); exact rfl; infer_instance; exact rfl; clear HO; intro b4 w HO; (simp only [Act.put, zA, zB, zC]))) | (first | go_big_skip | ((with_reducible apply wpList_loadAll HO); exact rfl; exact rfl; (repeat (with_reducible (first | exact At.head _ | apply At.tail))); infer_instance; exact rfl; exact rfl; (simp only [Act.put, zA, zB, zC])) | ((with_reducible apply wpList_loadOne HO); exact rfl; exact rfl; (repeat (with_reducible (first | exact At.head _ | apply At.tail))); exact rfl; infer_instance; exact rfl; (simp only [Act.put, zA, zB, zC]))) | ((with_reducible apply wpList_storeAll HO); exact rfl; exact rfl; exact rfl; (repeat (with_reducible (first | exact At.head _ | apply At.tail))); infer_instance; exact rfl; exact rfl; exact rfl; exact rfl; clear HO; intro w HO; (simp only [Act.put])) | (go_at_call 159; go_must ((with_reducible refine (V _ HO.grown).mono ?_); rintro e w ⟨rfl, hb⟩; replace HO := HO.call hb; clear hb)))
      refine bodyPost_ret (results_box HO rfl rfl (by (repeat (with_reducible (first | exact At.head _ | apply At.tail)))) inferInstance rfl rfl) rfl ?_
      exact HF.out _ _ rfl HO.grown
  · have hle : q ≤ A.seq p := by
      by_cases hle : q ≤ A.seq p
      · exact hle
      · exact absurd (by simp [accE, hok, hle]) hacc
    have he : accE A p q rs = 93 := by simp [accE, hok, hle]
    obtain ⟨_, _, p0, p2, _, _⟩ := okStmt_ok hok
    have hp : p = 0 ∨ p = 1 ∨ p = 2 := by omega
    rw [hok] at V
    rcases hp with rfl | rfl | rfl
    · have hle' : decide (q ≤ A.q0) = true := by simpa [InS.seq] using hle
      generalize AccPost A 0 q rs v0 v1 v2 W = Post at *
      rw [he] at HF
      obtain ⟨s, c, rfl, -⟩ := h.slice
      obtain ⟨s0, c0, rfl, -⟩ := h0.slice
      obtain ⟨s1, c1, rfl, -⟩ := h1.slice
      obtain ⟨s2, c2, rfl, -⟩ := h2.slice
      generalize rs.length = n at *
      generalize A.r0.length = n0 at *
      generalize A.r1.length = n1 at *
      generalize A.r2.length = n2 at *
      generalize A.q0 = q0 at *
      generalize A.q1 = q1 at *
      generalize A.q2 = q2 at *
      clear h h0 h1 h2 hA hL hok hacc he hle
      rcases hm with rfl | ⟨mb, rfl⟩
      all_goals
        go_enter Tryz.func130, Tryz.ntmps130
        go_wp2_with (first | ((with_reducible apply wpList_boxAgg _ HO rfl); exact rfl; exact rfl; exact rfl; clear HO; intro b2 w HO; (simp only [Act.put, zA, zB, zC])) | ((have _h : Own W _ (box _ _ :: box _ _ :: _) := HO); clear _h; ((with_reducible apply wpList_allocAgg _ HO rfl); exact rfl; infer_instance; exact rfl; clear HO; intro b4 w HO; (simp only [Act.put, zA, zB, zC]))) | (first | go_big_skip | ((with_reducible apply wpList_loadAll HO); exact rfl; exact rfl; (repeat (with_reducible (first | exact At.head _ | apply At.tail))); infer_instance; exact rfl; exact rfl; (simp only [Act.put, zA, zB, zC])) | ((with_reducible apply wpList_loadOne HO); exact rfl; exact rfl; (repeat (with_reducible (first | exact At.head _ | apply At.tail))); exact rfl; infer_instance; exact rfl; (simp only [Act.put, zA, zB, zC]))) | ((with_reducible apply wpList_storeAll HO); exact rfl; exact rfl; exact rfl; (repeat (with_reducible (first | exact At.head _ | apply At.tail))); infer_instance; exact rfl; exact rfl; exact rfl; exact rfl; clear HO; intro w HO; (simp only [Act.put])) | (go_at_call 159; go_must ((with_reducible refine (V _ HO.grown).mono ?_); rintro e w ⟨rfl, hb⟩; replace HO := HO.call hb; clear hb)))
        refine region_own HO (by kernel_rfl) (by kernel_rfl) ?_
        clear HO
        intro F HF
        repeat (first | (first | go_big_quiet_skip | ((with_reducible apply wpQuiet_loadAll HF); exact rfl; exact rfl; (repeat (with_reducible (first | exact At.head _ | apply At.tail))); infer_instance; exact rfl; exact rfl; (simp only [Act.put, zA, zB, zC])) | ((with_reducible apply wpQuiet_loadOne HF); exact rfl; exact rfl; (repeat (with_reducible (first | exact At.head _ | apply At.tail))); exact rfl; infer_instance; exact rfl; (simp only [Act.put, zA, zB, zC])) | ((with_reducible apply wpQuiet_loadPart HF); exact rfl; exact rfl; (repeat (with_reducible (first | exact At.head _ | apply At.tail))); infer_instance; exact (Nat.le_of_ble_eq_true rfl); (simp only [List.drop_succ_cons, List.drop_zero, List.take_succ_cons, List.take_zero]; rfl); exact rfl; (simp only [Act.put, zA, zB, zC]))) | go_big_quiet_step (fail))
        refine wpQuiet_nil ?_
        intro x
        have HO := HF.own x
        clear HF
        generalize F x = w at *
        clear x F
        go_wp2_with (first | (first | go_big_skip | ((with_reducible apply wpList_loadAll HO); exact rfl; exact rfl; (repeat (with_reducible (first | exact At.head _ | apply At.tail))); infer_instance; exact rfl; exact rfl; (simp only [Act.put, zA, zB, zC])) | ((with_reducible apply wpList_loadOne HO); exact rfl; exact rfl; (repeat (with_reducible (first | exact At.head _ | apply At.tail))); exact rfl; infer_instance; exact rfl; (simp only [Act.put, zA, zB, zC]))) | ((with_reducible apply wpList_storeAll HO); exact rfl; exact rfl; exact rfl; (repeat (with_reducible (first | exact At.head _ | apply At.tail))); infer_instance; exact rfl; exact rfl; exact rfl; exact rfl; clear HO; intro w HO; (simp only [Act.put])))
        refine bodyPost_ret (results_box HO rfl rfl (by (repeat (with_reducible (first | exact At.head _ | apply At.tail)))) inferInstance rfl rfl) rfl ?_
        exact HF.out _ _ rfl HO.grown
    · have hle' : decide (q ≤ A.q1) = true := by simpa [InS.seq] using hle
      generalize AccPost A 1 q rs v0 v1 v2 W = Post at *
      rw [he] at HF
      obtain ⟨s, c, rfl, -⟩ := h.slice
      obtain ⟨s0, c0, rfl, -⟩ := h0.slice
      obtain ⟨s1, c1, rfl, -⟩ := h1.slice
      obtain ⟨s2, c2, rfl, -⟩ := h2.slice
      generalize rs.length = n at *
      generalize A.r0.length = n0 at *
      generalize A.r1.length = n1 at *
      generalize A.r2.length = n2 at *
      generalize A.q0 = q0 at *
      generalize A.q1 = q1 at *
      generalize A.q2 = q2 at *
      clear h h0 h1 h2 hA hL hok hacc he hle
      rcases hm with rfl | ⟨mb, rfl⟩
      all_goals
        go_enter Tryz.func130, Tryz.ntmps130
        go_wp2_with (first | ((with_reducible apply wpList_boxAgg _ HO rfl); exact rfl; exact rfl; exact rfl; clear HO; intro b2 w HO; (simp only [Act.put, zA, zB, zC])) | ((have _h : Own W _ (box _ _ :: box _ _ :: _) := HO); clear _h; ((with_reducible apply wpList_allocAgg _ HO rfl); exact rfl; infer_instance; exact rfl; clear HO; intro b4 w HO; (simp only [Act.put, zA, zB, zC]))) | (first | go_big_skip | ((with_reducible apply wpList_loadAll HO); exact rfl; exact rfl; (repeat (with_reducible (first | exact At.head _ | apply At.tail))); infer_instance; exact rfl; exact rfl; (simp only [Act.put, zA, zB, zC])) | ((with_reducible apply wpList_loadOne HO); exact rfl; exact rfl; (repeat (with_reducible (first | exact At.head _ | apply At.tail))); exact rfl; infer_instance; exact rfl; (simp only [Act.put, zA, zB, zC]))) | ((with_reducible apply wpList_storeAll HO); exact rfl; exact rfl; exact rfl; (repeat (with_reducible (first | exact At.head _ | apply At.tail))); infer_instance; exact rfl; exact rfl; exact rfl; exact rfl; clear HO; intro w HO; (simp only [Act.put])) | (go_at_call 159; go_must ((with_reducible refine (V _ HO.grown).mono ?_); rintro e w ⟨rfl, hb⟩; replace HO := HO.call hb; clear hb)))
        refine region_own HO (by kernel_rfl) (by kernel_rfl) ?_
        clear HO
        intro F HF
        repeat (first | (first | go_big_quiet_skip | ((with_reducible apply wpQuiet_loadAll HF); exact rfl; exact rfl; (repeat (with_reducible (first | exact At.head _ | apply At.tail))); infer_instance; exact rfl; exact rfl; (simp only [Act.put, zA, zB, zC])) | ((with_reducible apply wpQuiet_loadOne HF); exact rfl; exact rfl; (repeat (with_reducible (first | exact At.head _ | apply At.tail))); exact rfl; infer_instance; exact rfl; (simp only [Act.put, zA, zB, zC])) | ((with_reducible apply wpQuiet_loadPart HF); exact rfl; exact rfl; (repeat (with_reducible (first | exact At.head _ | apply At.tail))); infer_instance; exact (Nat.le_of_ble_eq_true rfl); (simp only [List.drop_succ_cons, List.drop_zero, List.take_succ_cons, List.take_zero]; rfl); exact rfl; (simp only [Act.put, zA, zB, zC]))) | go_big_quiet_step (fail))
        refine wpQuiet_nil ?_
        intro x
        have HO := HF.own x
        clear HF
        generalize F x = w at *
        clear x F
        go_wp2_with (first | (first | go_big_skip | ((with_reducible apply wpList_loadAll HO); exact rfl; exact rfl; (repeat (with_reducible (first | exact At.head _ | apply At.tail))); infer_instance; exact rfl; exact rfl; (simp only [Act.put, zA, zB, zC])) | ((with_reducible apply wpList_loadOne HO); exact rfl; exact rfl; (repeat (with_reducible (first | exact At.head _ | apply At.tail))); exact rfl; infer_instance; exact rfl; (simp only [Act.put, zA, zB, zC]))) | ((with_reducible apply wpList_storeAll HO); exact rfl; exact rfl; exact rfl; (repeat (with_reducible (first | exact At.head _ | apply At.tail))); infer_instance; exact rfl; exact rfl; exact rfl; exact rfl; clear HO; intro w HO; (simp only [Act.put])))
        refine bodyPost_ret (results_box HO rfl rfl (by (repeat (with_reducible (first | exact At.head _ | apply At.tail)))) inferInstance rfl rfl) rfl ?_
        exact HF.out _ _ rfl HO.grown
    · have hle' : decide (q ≤ A.q2) = true := by simpa [InS.seq] using hle
      generalize AccPost A 2 q rs v0 v1 v2 W = Post at *
      rw [he] at HF
      obtain ⟨s, c, rfl, -⟩ := h.slice
      obtain ⟨s0, c0, rfl, -⟩ := h0.slice
      obtain ⟨s1, c1, rfl, -⟩ := h1.slice
      obtain ⟨s2, c2, rfl, -⟩ := h2.slice
      generalize rs.length = n at *
      generalize A.r0.length = n0 at *
      generalize A.r1.length = n1 at *
      generalize A.r2.length = n2 at *
      generalize A.q0 = q0 at *
      generalize A.q1 = q1 at *
      generalize A.q2 = q2 at *
      clear h h0 h1 h2 hA hL hok hacc he hle
      rcases hm with rfl | ⟨mb, rfl⟩
      all_goals
        go_enter Tryz.func130, Tryz.ntmps130
        go_wp2_with (first | ((with_reducible apply wpList_boxAgg _ HO rfl); exact rfl; exact rfl; exact rfl; clear HO; intro b2 w HO; (simp only [Act.put, zA, zB, zC])) | ((have _h : Own W _ (box _ _ :: box _ _ :: _) := HO); clear _h; ((with_reducible apply wpList_allocAgg _ HO rfl); exact rfl; infer_instance; exact rfl; clear HO; intro b4 w HO; (simp only [Act.put, zA, zB, zC]))) | (first | go_big_skip | ((with_reducible apply wpList_loadAll HO); exact rfl; exact rfl; (repeat (with_reducible (first | exact At.head _ | apply At.tail))); infer_instance; exact rfl; exact rfl; (simp only [Act.put, zA, zB, zC])) | ((with_reducible apply wpList_loadOne HO); exact rfl; exact rfl; (repeat (with_reducible (first | exact At.head _ | apply At.tail))); exact rfl; infer_instance; exact rfl; (simp only [Act.put, zA, zB, zC]))) | ((with_reducible apply wpList_storeAll HO); exact rfl; exact rfl; exact rfl; (repeat (with_reducible (first | exact At.head _ | apply At.tail))); infer_instance; exact rfl; exact rfl; exact rfl; exact rfl; clear HO; intro w HO; (simp only [Act.put])) | (go_at_call 159; go_must ((with_reducible refine (V _ HO.grown).mono ?_); rintro e w ⟨rfl, hb⟩; replace HO := HO.call hb; clear hb)))
        refine region_own HO (by kernel_rfl) (by kernel_rfl) ?_
        clear HO
        intro F HF
        repeat (first | (first | go_big_quiet_skip | ((with_reducible apply wpQuiet_loadAll HF); exact rfl; exact rfl; (repeat (with_reducible (first | exact At.head _ | apply At.tail))); infer_instance; exact rfl; exact rfl; (simp only [Act.put, zA, zB, zC])) | ((with_reducible apply wpQuiet_loadOne HF); exact rfl; exact rfl; (repeat (with_reducible (first | exact At.head _ | apply At.tail))); exact rfl; infer_instance; exact rfl; (simp only [Act.put, zA, zB, zC])) | ((with_reducible apply wpQuiet_loadPart HF); exact rfl; exact rfl; (repeat (with_reducible (first | exact At.head _ | apply At.tail))); infer_instance; exact (Nat.le_of_ble_eq_true rfl); (simp only [List.drop_succ_cons, List.drop_zero, List.take_succ_cons, List.take_zero]; rfl); exact rfl; (simp only [Act.put, zA, zB, zC]))) | go_big_quiet_step (fail))
        refine wpQuiet_nil ?_
        intro x
        have HO := HF.own x
        clear HF
        generalize F x = w at *
        clear x F
        go_wp2_with (first | (first | go_big_skip | ((with_reducible apply wpList_loadAll HO); exact rfl; exact rfl; (repeat (with_reducible (first | exact At.head _ | apply At.tail))); infer_instance; exact rfl; exact rfl; (simp only [Act.put, zA, zB, zC])) | ((with_reducible apply wpList_loadOne HO); exact rfl; exact rfl; (repeat (with_reducible (first | exact At.head _ | apply At.tail))); exact rfl; infer_instance; exact rfl; (simp only [Act.put, zA, zB, zC]))) | ((with_reducible apply wpList_storeAll HO); exact rfl; exact rfl; exact rfl; (repeat (with_reducible (first | exact At.head _ | apply At.tail))); infer_instance; exact rfl; exact rfl; exact rfl; exact rfl; clear HO; intro w HO; (simp only [Act.put])))
        refine bodyPost_ret (results_box HO rfl rfl (by (repeat (with_reducible (first | exact At.head _ | apply At.tail)))) inferInstance rfl rfl) rfl ?_
        exact HF.out _ _ rfl HO.grown

/-- What the document's hands back. -/
def RefAccPost (A : InS) (p q : Int) (rs : List RowS) (v0 v1 v2 v : Value) (w : World) (e : Ending) (w' : World) : Prop :=
  Below w.heap.size w w' ∧ e = if accE A p q rs = 0 then .returned (.tuple #[.agg #[.int .i64 ((A.put p q rs)).p0, .int .i64 ((A.put p q rs)).q0, (if p = 0 then v else v0), .int .i64 ((A.put p q rs)).p1, .int .i64 ((A.put p q rs)).q1, (if p = 1 then v else v1), .int .i64 ((A.put p q rs)).p2, .int .i64 ((A.put p q rs)).q2, (if p = 2 then v else v2)], .int .i64 0])
    else .returned (.tuple #[.agg #[.int .i64 (zeroI).p0, .int .i64 (zeroI).q0, .slice none 0 0, .int .i64 (zeroI).p1, .int .i64 (zeroI).q1, .slice none 0 0, .int .i64 (zeroI).p2, .int .i64 (zeroI).q2, .slice none 0 0], .int .i64 (accE A p q rs)])

set_option maxHeartbeats 8000000 in
set_option maxRecDepth 100000 in
theorem refAccept_any {W : World} {v0 v1 v2 v : Value} (A : InS) (p q : Int) (rs : List RowS) (h0 : IsRows W v0 A.r0) (h1 : IsRows W v1 A.r1) (h2 : IsRows W v2 A.r2) (h : IsRows W v rs) :
    Calls Tryz.prog 89 #[.agg #[.int .i64 (A).p0, .int .i64 (A).q0, v0, .int .i64 (A).p1, .int .i64 (A).q1, v1, .int .i64 (A).p2, .int .i64 (A).q2, v2], .agg #[.int .i64 p, .int .i64 q, v]] W (RefAccPost A p q rs v0 v1 v2 v W) := by
  have V := fun w (hb : Below W.heap.size W w) => refValid_any p q (h.below hb h.lt)
  have HF := Lib.hid (fun (e : Ending) (w' : World) (he : e = (if accE A p q rs = 0 then .returned (.tuple #[.agg #[.int .i64 ((A.put p q rs)).p0, .int .i64 ((A.put p q rs)).q0, (if p = 0 then v else v0), .int .i64 ((A.put p q rs)).p1, .int .i64 ((A.put p q rs)).q1, (if p = 1 then v else v1), .int .i64 ((A.put p q rs)).p2, .int .i64 ((A.put p q rs)).q2, (if p = 2 then v else v2)], .int .i64 0])
    else .returned (.tuple #[.agg #[.int .i64 (zeroI).p0, .int .i64 (zeroI).q0, .slice none 0 0, .int .i64 (zeroI).p1, .int .i64 (zeroI).q1, .slice none 0 0, .int .i64 (zeroI).p2, .int .i64 (zeroI).q2, .slice none 0 0], .int .i64 (accE A p q rs)]))) (hb : Below W.heap.size W w') => (show RefAccPost A p q rs v0 v1 v2 v W e w' from ⟨hb, he⟩))
  generalize RefAccPost A p q rs v0 v1 v2 v W = Post at *
  have HO := Own.start W
  cases hok : okStmt p q rs
  · have he : accE A p q rs = 2 := by simp [accE, hok]
    rw [hok] at V
    rw [he, if_neg (by decide)] at HF
    simp only [zeroI] at HF
    obtain ⟨s, c, rfl, -⟩ := h.slice
    obtain ⟨s0, c0, rfl, -⟩ := h0.slice
    obtain ⟨s1, c1, rfl, -⟩ := h1.slice
    obtain ⟨s2, c2, rfl, -⟩ := h2.slice
    generalize rs.length = n at *
    generalize A.r0.length = n0 at *
    generalize A.r1.length = n1 at *
    generalize A.r2.length = n2 at *
    clear h h0 h1 h2 hok he
    go_enter Tryz.func89, Tryz.ntmps89
    go_wp2_with (first | ((with_reducible apply wpList_boxAgg _ HO rfl); exact rfl; exact rfl; exact rfl; clear HO; intro b2 w HO; (simp only [Act.put, zA, zB, zC])) | ((have _h : Own W _ (box _ _ :: box _ _ :: _) := HO); clear _h; ((with_reducible apply wpList_allocAgg _ HO rfl); exact rfl; infer_instance; exact rfl; clear HO; intro b4 w HO; (simp only [Act.put, zA, zB, zC]))) | (first | go_big_skip | ((with_reducible apply wpList_loadAll HO); exact rfl; exact rfl; (repeat (with_reducible (first | exact At.head _ | apply At.tail))); infer_instance; exact rfl; exact rfl; (simp only [Act.put, zA, zB, zC])) | ((with_reducible apply wpList_loadOne HO); exact rfl; exact rfl; (repeat (with_reducible (first | exact At.head _ | apply At.tail))); exact rfl; infer_instance; exact rfl; (simp only [Act.put, zA, zB, zC]))) | ((with_reducible apply wpList_storeAll HO); exact rfl; exact rfl; exact rfl; (repeat (with_reducible (first | exact At.head _ | apply At.tail))); infer_instance; exact rfl; exact rfl; exact rfl; exact rfl; clear HO; intro w HO; (simp only [Act.put])) | (go_at_call 136; go_must ((with_reducible refine (V _ HO.grown).mono ?_); rintro e w ⟨rfl, hb⟩; replace HO := HO.call hb; clear hb)))
    refine bodyPost_ret (results_box HO rfl rfl (by (repeat (with_reducible (first | exact At.head _ | apply At.tail)))) inferInstance rfl rfl) rfl ?_
    exact HF.out _ _ rfl HO.grown
  · obtain ⟨_, _, p0, p2, _, _⟩ := okStmt_ok hok
    have hp : p = 0 ∨ p = 1 ∨ p = 2 := by omega
    rw [hok] at V
    obtain ⟨s, c, rfl, -⟩ := h.slice
    obtain ⟨s0, c0, rfl, -⟩ := h0.slice
    obtain ⟨s1, c1, rfl, -⟩ := h1.slice
    obtain ⟨s2, c2, rfl, -⟩ := h2.slice
    clear h h0 h1 h2 p0 p2
    rcases hp with rfl | rfl | rfl
    · by_cases hle : q ≤ A.q0
      · have he : accE A 0 q rs = 93 := by simp [accE, hok, InS.seq, hle]
        rw [he, if_neg (by decide)] at HF
        have hle' : decide (q ≤ A.q0) = true := by simpa using hle
        simp only [zeroI] at HF
        clear hok he hle
        go_enter Tryz.func89, Tryz.ntmps89
        go_wp2_with (first | ((with_reducible apply wpList_boxAgg _ HO rfl); exact rfl; exact rfl; exact rfl; clear HO; intro b2 w HO; (simp only [Act.put, zA, zB, zC])) | ((have _h : Own W _ (box _ _ :: box _ _ :: _) := HO); clear _h; ((with_reducible apply wpList_allocAgg _ HO rfl); exact rfl; infer_instance; exact rfl; clear HO; intro b4 w HO; (simp only [Act.put, zA, zB, zC]))) | (first | go_big_skip | ((with_reducible apply wpList_loadAll HO); exact rfl; exact rfl; (repeat (with_reducible (first | exact At.head _ | apply At.tail))); infer_instance; exact rfl; exact rfl; (simp only [Act.put, zA, zB, zC])) | ((with_reducible apply wpList_loadOne HO); exact rfl; exact rfl; (repeat (with_reducible (first | exact At.head _ | apply At.tail))); exact rfl; infer_instance; exact rfl; (simp only [Act.put, zA, zB, zC]))) | ((with_reducible apply wpList_storeAll HO); exact rfl; exact rfl; exact rfl; (repeat (with_reducible (first | exact At.head _ | apply At.tail))); infer_instance; exact rfl; exact rfl; exact rfl; exact rfl; clear HO; intro w HO; (simp only [Act.put])) | (go_at_call 136; go_must ((with_reducible refine (V _ HO.grown).mono ?_); rintro e w ⟨rfl, hb⟩; replace HO := HO.call hb; clear hb)))
        refine region_own HO (by kernel_rfl) (by kernel_rfl) ?_
        clear HO
        intro F HF
        repeat (first | (first | go_big_quiet_skip | ((with_reducible apply wpQuiet_loadAll HF); exact rfl; exact rfl; (repeat (with_reducible (first | exact At.head _ | apply At.tail))); infer_instance; exact rfl; exact rfl; (simp only [Act.put, zA, zB, zC])) | ((with_reducible apply wpQuiet_loadOne HF); exact rfl; exact rfl; (repeat (with_reducible (first | exact At.head _ | apply At.tail))); exact rfl; infer_instance; exact rfl; (simp only [Act.put, zA, zB, zC])) | ((with_reducible apply wpQuiet_loadPart HF); exact rfl; exact rfl; (repeat (with_reducible (first | exact At.head _ | apply At.tail))); infer_instance; exact (Nat.le_of_ble_eq_true rfl); (simp only [List.drop_succ_cons, List.drop_zero, List.take_succ_cons, List.take_zero]; rfl); exact rfl; (simp only [Act.put, zA, zB, zC]))) | go_big_quiet_step (fail))
        refine wpQuiet_nil ?_
        intro x
        have HO := HF.own x
        clear HF
        generalize F x = w at *
        clear x F
        go_wp2_with (first | (first | go_big_skip | ((with_reducible apply wpList_loadAll HO); exact rfl; exact rfl; (repeat (with_reducible (first | exact At.head _ | apply At.tail))); infer_instance; exact rfl; exact rfl; (simp only [Act.put, zA, zB, zC])) | ((with_reducible apply wpList_loadOne HO); exact rfl; exact rfl; (repeat (with_reducible (first | exact At.head _ | apply At.tail))); exact rfl; infer_instance; exact rfl; (simp only [Act.put, zA, zB, zC]))) | ((with_reducible apply wpList_storeAll HO); exact rfl; exact rfl; exact rfl; (repeat (with_reducible (first | exact At.head _ | apply At.tail))); infer_instance; exact rfl; exact rfl; exact rfl; exact rfl; clear HO; intro w HO; (simp only [Act.put])))
        refine bodyPost_ret (results_box HO rfl rfl (by (repeat (with_reducible (first | exact At.head _ | apply At.tail)))) inferInstance rfl rfl) rfl ?_
        exact HF.out _ _ rfl HO.grown
      · have he : accE A 0 q rs = 0 := by simp [accE, hok, InS.seq, hle]
        rw [if_pos he] at HF
        have hle' : decide (q ≤ A.q0) = false := by simpa using hle
        clear hok he hle
        go_enter Tryz.func89, Tryz.ntmps89
        go_wp2_with (first | ((with_reducible apply wpList_boxAgg _ HO rfl); exact rfl; exact rfl; exact rfl; clear HO; intro b2 w HO; (simp only [Act.put, zA, zB, zC])) | ((have _h : Own W _ (box _ _ :: box _ _ :: _) := HO); clear _h; ((with_reducible apply wpList_allocAgg _ HO rfl); exact rfl; infer_instance; exact rfl; clear HO; intro b4 w HO; (simp only [Act.put, zA, zB, zC]))) | (first | go_big_skip | ((with_reducible apply wpList_loadAll HO); exact rfl; exact rfl; (repeat (with_reducible (first | exact At.head _ | apply At.tail))); infer_instance; exact rfl; exact rfl; (simp only [Act.put, zA, zB, zC])) | ((with_reducible apply wpList_loadOne HO); exact rfl; exact rfl; (repeat (with_reducible (first | exact At.head _ | apply At.tail))); exact rfl; infer_instance; exact rfl; (simp only [Act.put, zA, zB, zC]))) | ((with_reducible apply wpList_storeAll HO); exact rfl; exact rfl; exact rfl; (repeat (with_reducible (first | exact At.head _ | apply At.tail))); infer_instance; exact rfl; exact rfl; exact rfl; exact rfl; clear HO; intro w HO; (simp only [Act.put])) | (go_at_call 136; go_must ((with_reducible refine (V _ HO.grown).mono ?_); rintro e w ⟨rfl, hb⟩; replace HO := HO.call hb; clear hb)))
        refine region_own HO (by kernel_rfl) (by kernel_rfl) ?_
        clear HO
        intro F HF
        repeat (first | (first | go_big_quiet_skip | ((with_reducible apply wpQuiet_loadAll HF); exact rfl; exact rfl; (repeat (with_reducible (first | exact At.head _ | apply At.tail))); infer_instance; exact rfl; exact rfl; (simp only [Act.put, zA, zB, zC])) | ((with_reducible apply wpQuiet_loadOne HF); exact rfl; exact rfl; (repeat (with_reducible (first | exact At.head _ | apply At.tail))); exact rfl; infer_instance; exact rfl; (simp only [Act.put, zA, zB, zC])) | ((with_reducible apply wpQuiet_loadPart HF); exact rfl; exact rfl; (repeat (with_reducible (first | exact At.head _ | apply At.tail))); infer_instance; exact (Nat.le_of_ble_eq_true rfl); (simp only [List.drop_succ_cons, List.drop_zero, List.take_succ_cons, List.take_zero]; rfl); exact rfl; (simp only [Act.put, zA, zB, zC]))) | go_big_quiet_step (fail))
        refine wpQuiet_nil ?_
        intro x
        have HO := HF.own x
        clear HF
        generalize F x = w at *
        clear x F
        go_wp2_with (first | (first | go_big_skip | ((with_reducible apply wpList_loadAll HO); exact rfl; exact rfl; (repeat (with_reducible (first | exact At.head _ | apply At.tail))); infer_instance; exact rfl; exact rfl; (simp only [Act.put, zA, zB, zC])) | ((with_reducible apply wpList_loadOne HO); exact rfl; exact rfl; (repeat (with_reducible (first | exact At.head _ | apply At.tail))); exact rfl; infer_instance; exact rfl; (simp only [Act.put, zA, zB, zC]))) | ((with_reducible apply wpList_storeAll HO); exact rfl; exact rfl; exact rfl; (repeat (with_reducible (first | exact At.head _ | apply At.tail))); infer_instance; exact rfl; exact rfl; exact rfl; exact rfl; clear HO; intro w HO; (simp only [Act.put])) | ((with_reducible apply wpList_storePart HO); exact rfl; exact rfl; (first | (simp [Act.eval]; rfl) | exact rfl); exact rfl; (repeat (with_reducible (first | exact At.head _ | apply At.tail))); infer_instance; exact rfl; exact (by simp); (simp only [putL, List.drop_succ_cons, List.drop_zero, List.take_zero, List.length_cons, List.length_nil, List.cons_append, List.nil_append, Nat.reduceAdd]; rfl); exact rfl; exact rfl; clear HO; intro w HO; (simp only [Act.put])))
        refine bodyPost_ret (results_box HO rfl rfl (by (repeat (with_reducible (first | exact At.head _ | apply At.tail)))) inferInstance rfl rfl) rfl ?_
        exact HF.out _ _ rfl HO.grown
    · by_cases hle : q ≤ A.q1
      · have he : accE A 1 q rs = 93 := by simp [accE, hok, InS.seq, hle]
        rw [he, if_neg (by decide)] at HF
        have hle' : decide (q ≤ A.q1) = true := by simpa using hle
        simp only [zeroI] at HF
        clear hok he hle
        go_enter Tryz.func89, Tryz.ntmps89
        go_wp2_with (first | ((with_reducible apply wpList_boxAgg _ HO rfl); exact rfl; exact rfl; exact rfl; clear HO; intro b2 w HO; (simp only [Act.put, zA, zB, zC])) | ((have _h : Own W _ (box _ _ :: box _ _ :: _) := HO); clear _h; ((with_reducible apply wpList_allocAgg _ HO rfl); exact rfl; infer_instance; exact rfl; clear HO; intro b4 w HO; (simp only [Act.put, zA, zB, zC]))) | (first | go_big_skip | ((with_reducible apply wpList_loadAll HO); exact rfl; exact rfl; (repeat (with_reducible (first | exact At.head _ | apply At.tail))); infer_instance; exact rfl; exact rfl; (simp only [Act.put, zA, zB, zC])) | ((with_reducible apply wpList_loadOne HO); exact rfl; exact rfl; (repeat (with_reducible (first | exact At.head _ | apply At.tail))); exact rfl; infer_instance; exact rfl; (simp only [Act.put, zA, zB, zC]))) | ((with_reducible apply wpList_storeAll HO); exact rfl; exact rfl; exact rfl; (repeat (with_reducible (first | exact At.head _ | apply At.tail))); infer_instance; exact rfl; exact rfl; exact rfl; exact rfl; clear HO; intro w HO; (simp only [Act.put])) | (go_at_call 136; go_must ((with_reducible refine (V _ HO.grown).mono ?_); rintro e w ⟨rfl, hb⟩; replace HO := HO.call hb; clear hb)))
        refine region_own HO (by kernel_rfl) (by kernel_rfl) ?_
        clear HO
        intro F HF
        repeat (first | (first | go_big_quiet_skip | ((with_reducible apply wpQuiet_loadAll HF); exact rfl; exact rfl; (repeat (with_reducible (first | exact At.head _ | apply At.tail))); infer_instance; exact rfl; exact rfl; (simp only [Act.put, zA, zB, zC])) | ((with_reducible apply wpQuiet_loadOne HF); exact rfl; exact rfl; (repeat (with_reducible (first | exact At.head _ | apply At.tail))); exact rfl; infer_instance; exact rfl; (simp only [Act.put, zA, zB, zC])) | ((with_reducible apply wpQuiet_loadPart HF); exact rfl; exact rfl; (repeat (with_reducible (first | exact At.head _ | apply At.tail))); infer_instance; exact (Nat.le_of_ble_eq_true rfl); (simp only [List.drop_succ_cons, List.drop_zero, List.take_succ_cons, List.take_zero]; rfl); exact rfl; (simp only [Act.put, zA, zB, zC]))) | go_big_quiet_step (fail))
        refine wpQuiet_nil ?_
        intro x
        have HO := HF.own x
        clear HF
        generalize F x = w at *
        clear x F
        go_wp2_with (first | (first | go_big_skip | ((with_reducible apply wpList_loadAll HO); exact rfl; exact rfl; (repeat (with_reducible (first | exact At.head _ | apply At.tail))); infer_instance; exact rfl; exact rfl; (simp only [Act.put, zA, zB, zC])) | ((with_reducible apply wpList_loadOne HO); exact rfl; exact rfl; (repeat (with_reducible (first | exact At.head _ | apply At.tail))); exact rfl; infer_instance; exact rfl; (simp only [Act.put, zA, zB, zC]))) | ((with_reducible apply wpList_storeAll HO); exact rfl; exact rfl; exact rfl; (repeat (with_reducible (first | exact At.head _ | apply At.tail))); infer_instance; exact rfl; exact rfl; exact rfl; exact rfl; clear HO; intro w HO; (simp only [Act.put])))
        refine bodyPost_ret (results_box HO rfl rfl (by (repeat (with_reducible (first | exact At.head _ | apply At.tail)))) inferInstance rfl rfl) rfl ?_
        exact HF.out _ _ rfl HO.grown
      · have he : accE A 1 q rs = 0 := by simp [accE, hok, InS.seq, hle]
        rw [if_pos he] at HF
        have hle' : decide (q ≤ A.q1) = false := by simpa using hle
        clear hok he hle
        go_enter Tryz.func89, Tryz.ntmps89
        go_wp2_with (first | ((with_reducible apply wpList_boxAgg _ HO rfl); exact rfl; exact rfl; exact rfl; clear HO; intro b2 w HO; (simp only [Act.put, zA, zB, zC])) | ((have _h : Own W _ (box _ _ :: box _ _ :: _) := HO); clear _h; ((with_reducible apply wpList_allocAgg _ HO rfl); exact rfl; infer_instance; exact rfl; clear HO; intro b4 w HO; (simp only [Act.put, zA, zB, zC]))) | (first | go_big_skip | ((with_reducible apply wpList_loadAll HO); exact rfl; exact rfl; (repeat (with_reducible (first | exact At.head _ | apply At.tail))); infer_instance; exact rfl; exact rfl; (simp only [Act.put, zA, zB, zC])) | ((with_reducible apply wpList_loadOne HO); exact rfl; exact rfl; (repeat (with_reducible (first | exact At.head _ | apply At.tail))); exact rfl; infer_instance; exact rfl; (simp only [Act.put, zA, zB, zC]))) | ((with_reducible apply wpList_storeAll HO); exact rfl; exact rfl; exact rfl; (repeat (with_reducible (first | exact At.head _ | apply At.tail))); infer_instance; exact rfl; exact rfl; exact rfl; exact rfl; clear HO; intro w HO; (simp only [Act.put])) | (go_at_call 136; go_must ((with_reducible refine (V _ HO.grown).mono ?_); rintro e w ⟨rfl, hb⟩; replace HO := HO.call hb; clear hb)))
        refine region_own HO (by kernel_rfl) (by kernel_rfl) ?_
        clear HO
        intro F HF
        repeat (first | (first | go_big_quiet_skip | ((with_reducible apply wpQuiet_loadAll HF); exact rfl; exact rfl; (repeat (with_reducible (first | exact At.head _ | apply At.tail))); infer_instance; exact rfl; exact rfl; (simp only [Act.put, zA, zB, zC])) | ((with_reducible apply wpQuiet_loadOne HF); exact rfl; exact rfl; (repeat (with_reducible (first | exact At.head _ | apply At.tail))); exact rfl; infer_instance; exact rfl; (simp only [Act.put, zA, zB, zC])) | ((with_reducible apply wpQuiet_loadPart HF); exact rfl; exact rfl; (repeat (with_reducible (first | exact At.head _ | apply At.tail))); infer_instance; exact (Nat.le_of_ble_eq_true rfl); (simp only [List.drop_succ_cons, List.drop_zero, List.take_succ_cons, List.take_zero]; rfl); exact rfl; (simp only [Act.put, zA, zB, zC]))) | go_big_quiet_step (fail))
        refine wpQuiet_nil ?_
        intro x
        have HO := HF.own x
        clear HF
        generalize F x = w at *
        clear x F
        go_wp2_with (first | (first | go_big_skip | ((with_reducible apply wpList_loadAll HO); exact rfl; exact rfl; (repeat (with_reducible (first | exact At.head _ | apply At.tail))); infer_instance; exact rfl; exact rfl; (simp only [Act.put, zA, zB, zC])) | ((with_reducible apply wpList_loadOne HO); exact rfl; exact rfl; (repeat (with_reducible (first | exact At.head _ | apply At.tail))); exact rfl; infer_instance; exact rfl; (simp only [Act.put, zA, zB, zC]))) | ((with_reducible apply wpList_storeAll HO); exact rfl; exact rfl; exact rfl; (repeat (with_reducible (first | exact At.head _ | apply At.tail))); infer_instance; exact rfl; exact rfl; exact rfl; exact rfl; clear HO; intro w HO; (simp only [Act.put])) | ((with_reducible apply wpList_storePart HO); exact rfl; exact rfl; (first | (simp [Act.eval]; rfl) | exact rfl); exact rfl; (repeat (with_reducible (first | exact At.head _ | apply At.tail))); infer_instance; exact rfl; exact (by simp); (simp only [putL, List.drop_succ_cons, List.drop_zero, List.take_succ_cons, List.take_zero, List.length_cons, List.length_nil, List.cons_append, List.nil_append, Nat.reduceAdd]; rfl); exact rfl; exact rfl; clear HO; intro w HO; (simp only [Act.put])))
        refine bodyPost_ret (results_box HO rfl rfl (by (repeat (with_reducible (first | exact At.head _ | apply At.tail)))) inferInstance rfl rfl) rfl ?_
        exact HF.out _ _ rfl HO.grown
    · by_cases hle : q ≤ A.q2
      · have he : accE A 2 q rs = 93 := by simp [accE, hok, InS.seq, hle]
        rw [he, if_neg (by decide)] at HF
        have hle' : decide (q ≤ A.q2) = true := by simpa using hle
        simp only [zeroI] at HF
        clear hok he hle
        go_enter Tryz.func89, Tryz.ntmps89
        go_wp2_with (first | ((with_reducible apply wpList_boxAgg _ HO rfl); exact rfl; exact rfl; exact rfl; clear HO; intro b2 w HO; (simp only [Act.put, zA, zB, zC])) | ((have _h : Own W _ (box _ _ :: box _ _ :: _) := HO); clear _h; ((with_reducible apply wpList_allocAgg _ HO rfl); exact rfl; infer_instance; exact rfl; clear HO; intro b4 w HO; (simp only [Act.put, zA, zB, zC]))) | (first | go_big_skip | ((with_reducible apply wpList_loadAll HO); exact rfl; exact rfl; (repeat (with_reducible (first | exact At.head _ | apply At.tail))); infer_instance; exact rfl; exact rfl; (simp only [Act.put, zA, zB, zC])) | ((with_reducible apply wpList_loadOne HO); exact rfl; exact rfl; (repeat (with_reducible (first | exact At.head _ | apply At.tail))); exact rfl; infer_instance; exact rfl; (simp only [Act.put, zA, zB, zC]))) | ((with_reducible apply wpList_storeAll HO); exact rfl; exact rfl; exact rfl; (repeat (with_reducible (first | exact At.head _ | apply At.tail))); infer_instance; exact rfl; exact rfl; exact rfl; exact rfl; clear HO; intro w HO; (simp only [Act.put])) | (go_at_call 136; go_must ((with_reducible refine (V _ HO.grown).mono ?_); rintro e w ⟨rfl, hb⟩; replace HO := HO.call hb; clear hb)))
        refine region_own HO (by kernel_rfl) (by kernel_rfl) ?_
        clear HO
        intro F HF
        repeat (first | (first | go_big_quiet_skip | ((with_reducible apply wpQuiet_loadAll HF); exact rfl; exact rfl; (repeat (with_reducible (first | exact At.head _ | apply At.tail))); infer_instance; exact rfl; exact rfl; (simp only [Act.put, zA, zB, zC])) | ((with_reducible apply wpQuiet_loadOne HF); exact rfl; exact rfl; (repeat (with_reducible (first | exact At.head _ | apply At.tail))); exact rfl; infer_instance; exact rfl; (simp only [Act.put, zA, zB, zC])) | ((with_reducible apply wpQuiet_loadPart HF); exact rfl; exact rfl; (repeat (with_reducible (first | exact At.head _ | apply At.tail))); infer_instance; exact (Nat.le_of_ble_eq_true rfl); (simp only [List.drop_succ_cons, List.drop_zero, List.take_succ_cons, List.take_zero]; rfl); exact rfl; (simp only [Act.put, zA, zB, zC]))) | go_big_quiet_step (fail))
        refine wpQuiet_nil ?_
        intro x
        have HO := HF.own x
        clear HF
        generalize F x = w at *
        clear x F
        go_wp2_with (first | (first | go_big_skip | ((with_reducible apply wpList_loadAll HO); exact rfl; exact rfl; (repeat (with_reducible (first | exact At.head _ | apply At.tail))); infer_instance; exact rfl; exact rfl; (simp only [Act.put, zA, zB, zC])) | ((with_reducible apply wpList_loadOne HO); exact rfl; exact rfl; (repeat (with_reducible (first | exact At.head _ | apply At.tail))); exact rfl; infer_instance; exact rfl; (simp only [Act.put, zA, zB, zC]))) | ((with_reducible apply wpList_storeAll HO); exact rfl; exact rfl; exact rfl; (repeat (with_reducible (first | exact At.head _ | apply At.tail))); infer_instance; exact rfl; exact rfl; exact rfl; exact rfl; clear HO; intro w HO; (simp only [Act.put])))
        refine bodyPost_ret (results_box HO rfl rfl (by (repeat (with_reducible (first | exact At.head _ | apply At.tail)))) inferInstance rfl rfl) rfl ?_
        exact HF.out _ _ rfl HO.grown
      · have he : accE A 2 q rs = 0 := by simp [accE, hok, InS.seq, hle]
        rw [if_pos he] at HF
        have hle' : decide (q ≤ A.q2) = false := by simpa using hle
        clear hok he hle
        go_enter Tryz.func89, Tryz.ntmps89
        go_wp2_with (first | ((with_reducible apply wpList_boxAgg _ HO rfl); exact rfl; exact rfl; exact rfl; clear HO; intro b2 w HO; (simp only [Act.put, zA, zB, zC])) | ((have _h : Own W _ (box _ _ :: box _ _ :: _) := HO); clear _h; ((with_reducible apply wpList_allocAgg _ HO rfl); exact rfl; infer_instance; exact rfl; clear HO; intro b4 w HO; (simp only [Act.put, zA, zB, zC]))) | (first | go_big_skip | ((with_reducible apply wpList_loadAll HO); exact rfl; exact rfl; (repeat (with_reducible (first | exact At.head _ | apply At.tail))); infer_instance; exact rfl; exact rfl; (simp only [Act.put, zA, zB, zC])) | ((with_reducible apply wpList_loadOne HO); exact rfl; exact rfl; (repeat (with_reducible (first | exact At.head _ | apply At.tail))); exact rfl; infer_instance; exact rfl; (simp only [Act.put, zA, zB, zC]))) | ((with_reducible apply wpList_storeAll HO); exact rfl; exact rfl; exact rfl; (repeat (with_reducible (first | exact At.head _ | apply At.tail))); infer_instance; exact rfl; exact rfl; exact rfl; exact rfl; clear HO; intro w HO; (simp only [Act.put])) | (go_at_call 136; go_must ((with_reducible refine (V _ HO.grown).mono ?_); rintro e w ⟨rfl, hb⟩; replace HO := HO.call hb; clear hb)))
        refine region_own HO (by kernel_rfl) (by kernel_rfl) ?_
        clear HO
        intro F HF
        repeat (first | (first | go_big_quiet_skip | ((with_reducible apply wpQuiet_loadAll HF); exact rfl; exact rfl; (repeat (with_reducible (first | exact At.head _ | apply At.tail))); infer_instance; exact rfl; exact rfl; (simp only [Act.put, zA, zB, zC])) | ((with_reducible apply wpQuiet_loadOne HF); exact rfl; exact rfl; (repeat (with_reducible (first | exact At.head _ | apply At.tail))); exact rfl; infer_instance; exact rfl; (simp only [Act.put, zA, zB, zC])) | ((with_reducible apply wpQuiet_loadPart HF); exact rfl; exact rfl; (repeat (with_reducible (first | exact At.head _ | apply At.tail))); infer_instance; exact (Nat.le_of_ble_eq_true rfl); (simp only [List.drop_succ_cons, List.drop_zero, List.take_succ_cons, List.take_zero]; rfl); exact rfl; (simp only [Act.put, zA, zB, zC]))) | go_big_quiet_step (fail))
        refine wpQuiet_nil ?_
        intro x
        have HO := HF.own x
        clear HF
        generalize F x = w at *
        clear x F
        go_wp2_with (first | (first | go_big_skip | ((with_reducible apply wpList_loadAll HO); exact rfl; exact rfl; (repeat (with_reducible (first | exact At.head _ | apply At.tail))); infer_instance; exact rfl; exact rfl; (simp only [Act.put, zA, zB, zC])) | ((with_reducible apply wpList_loadOne HO); exact rfl; exact rfl; (repeat (with_reducible (first | exact At.head _ | apply At.tail))); exact rfl; infer_instance; exact rfl; (simp only [Act.put, zA, zB, zC]))) | ((with_reducible apply wpList_storeAll HO); exact rfl; exact rfl; exact rfl; (repeat (with_reducible (first | exact At.head _ | apply At.tail))); infer_instance; exact rfl; exact rfl; exact rfl; exact rfl; clear HO; intro w HO; (simp only [Act.put])) | ((with_reducible apply wpList_storePart HO); exact rfl; exact rfl; (first | (simp [Act.eval]; rfl) | exact rfl); exact rfl; (repeat (with_reducible (first | exact At.head _ | apply At.tail))); infer_instance; exact rfl; exact (by simp); (simp only [putL, List.drop_succ_cons, List.drop_zero, List.take_succ_cons, List.take_zero, List.length_cons, List.length_nil, List.cons_append, List.nil_append, List.append_nil, Nat.reduceAdd]; rfl); exact rfl; exact rfl; clear HO; intro w HO; (simp only [Act.put])))
        refine bodyPost_ret (results_box HO rfl rfl (by (repeat (with_reducible (first | exact At.head _ | apply At.tail)))) inferInstance rfl rfl) rfl ?_
        exact HF.out _ _ rfl HO.grown
end Go.Proofs.YtibabfedpdoofaaGreatDoor
namespace Go.Own
end Go.Own
namespace Go.Proofs.YtibabfedpdoofaaGreatDoor
open Go.RowKit Go.Own Go.Maps

def rPaid : RowS := ⟨1, 1, 1, 500, 0⟩
theorem nilRows (w : World) : IsRows w (.slice none 0 0) [] := .none _ _ (fun _ => rfl)
end Go.Proofs.YtibabfedpdoofaaGreatDoor
namespace Go.Proofs.YtibabfedpdoofaaGreatDoor
open Go.RowKit Go.Own Go.Maps

/-- An intake's map, as a piece of memory. -/
def mapM (m : Value) (g : Lit → Option Value) : Ent := ⟨match m with
  | .map (some b) => [b]
  | _ => [], fun w => MapIs m g w⟩
theorem mapM_ok (m : Value) (g : Lit → Option Value) : (mapM m g).Ok := fun w w' h hF => by
  rcases hF with hF | ⟨b, n, rfl, hF⟩
  · exact .inl hF
  · exact .inr ⟨b, n, rfl, mapE_ok _ _ _ _ _ w w' h hF⟩
theorem Own.nilIsl {W w : World} {L : List Ent} (h : Own W w L) : Own W w (isl 5 (.slice none 0 0) (([] : List RowS).map rowC) :: L) := by
  refine h.more (Below.refl _ _) (fun w w' _ _ => .none _ _ (fun _ => rfl)) (.none _ _ (fun _ => rfl)) (fun b hb => ?_) (fun b hb => ?_) <;> cases hb
theorem Own.nilMap {W w : World} {L : List Ent} (h : Own W w L) : Own W w (mapM (.map none) (allF zeroI) :: L) := by
  refine h.more (Below.refl _ _) (mapM_ok _ _) (.inl ⟨rfl, fun l => rfl⟩) (fun b hb => ?_) (fun b hb => ?_) <;> cases hb
theorem Own.rowIsl {W w : World} {L L' : List Ent} {t : Nat} {v : Value} {rs : List RowS} (h : Own W w L) (hat : At (row t 5 v (rs.map rowC)) (isl 5 v (rs.map rowC)) L L') : Own W w L' := h.read hat (rowC_len rs)
theorem Own.mapIsM {W w : World} {L L' : List Ent} {b n : Nat} {g : Lit → Option Value} (h : Own W w L) (hat : At (mapE Tryz.prog 29 b n g) (mapM (.map (some b)) g) L L') : Own W w L' :=
  h.as hat (mapM_ok _ _) (fun hF => .inr ⟨b, n, rfl, hF⟩) (fun _ hb => hb)
end Go.Proofs.YtibabfedpdoofaaGreatDoor
namespace Go.Proofs.YtibabfedpdoofaaGreatDoor
open Go.RowKit Go.Own Go.Maps

def hasL (L : List (OrdS × D6)) (ref : List UInt8) : Bool := L.any (fun x => decide (x.1.ref = ref))
set_option maxHeartbeats 8000000 in
set_option maxRecDepth 100000 in
theorem coHas_any {w : World} {a : CoA} {S : CoS} {i : InA} {A : InS} (h : CoAt w a S i A) (ref : List UInt8) : Calls Tryz.prog 126 #[.pointer (some ⟨a.c, 0, none⟩), .string ⟨ref.toArray⟩] w fun e w' => e = .returned (.bool (hasL S.L ref)) ∧ Below w.heap.size w w' := by
  have HO := Own.start w
  obtain ⟨p, c, hv, hmx⟩ := h.row.slice
  rw [List.length_map] at hv hmx
  have HR := Lib.hid h.row
  have h0 := old_cell h.box 0 rfl
  have hlt := old_lt h.box
  have hmx' : (S.L.length : Int) ≤ 9223372036854775807 := by unfold maxLen at hmx; omega
  rw [hv] at h0
  generalize ha : a.v = av at *
  subst hv
  clear h ha
  generalize hg : hasL S.L ref = g0
  replace hg := Lib.hid hg
  go_enter Tryz.func126, Tryz.ntmps126
  go_wp2_with (first | go_big_skip | ((with_reducible apply wpList_loadOld1 HO); exact rfl; exact rfl; exact hlt; exact h0; infer_instance; exact rfl; (simp only [Act.put, zA, zB, zC])))
  go_loopw [12] (fun i wr => ∃ j : Nat, j ≤ S.L.length ∧ i = .int .i64 (j : Int) ∧ hasL (S.L.take j) ref = false ∧ Own w wr []) (fun i _ => S.L.length - (intOf i).toNat)
  case atStart => exact ⟨0, by omega, rfl, rfl, HO⟩
  case round =>
    clear HO
    obtain ⟨j, hj, rfl, hnf, HO⟩ := hrel
    by_cases hjl : j < S.L.length
    · have hjI : (j : Int) < (S.L.length : Int) := by omega
      obtain ⟨b, rfl, hst⟩ := oldAt HR.out rfl hjl
      have HX := Lib.hid (show S.L[j].1.ref ≠ ref → hasL (S.L.take (j + 1)) ref = false from fun hx => by
        unfold hasL at hnf ⊢
        rw [List.take_succ_eq_append_getElem hjl, List.any_append, hnf]
        simpa using hx)
      have HY := Lib.hid (show S.L[j].1.ref = ref → hasL S.L ref = true from fun hx => by
        unfold hasL
        rw [List.any_eq_true]
        exact ⟨S.L[j], List.getElem_mem hjl, by simpa using hx⟩)
      clear hnf
      generalize S.L[j] = y at *
      obtain ⟨o, s⟩ := y
      unfold sagaL at hst
      replace hst := Lib.hid hst
      by_cases hz : o.ref = ref
      · obtain rfl : g0 = true := hg.out.symm.trans (HY.out hz)
        have hD : (o.ref == ref) = true := by simpa using hz
        clear HX HY hz
        go_wp2_with (first | (first | go_big_skip | ((with_reducible apply wpList_loadAll HO); exact rfl; exact rfl; (repeat (with_reducible (first | exact At.head _ | apply At.tail))); infer_instance; exact rfl; exact rfl; (simp only [Act.put, zA, zB, zC])) | ((with_reducible apply wpList_loadOne HO); exact rfl; exact rfl; (repeat (with_reducible (first | exact At.head _ | apply At.tail))); exact rfl; infer_instance; exact rfl; (simp only [Act.put, zA, zB, zC]))) | ((with_reducible apply wpList_loadAt HO); exact rfl; exact rfl; exact (fun w' h1 => hst.out w' h1.grown); infer_instance; exact rfl; exact rfl; (simp only [Act.put, zA, zB, zC])) | (first | ((with_reducible apply wpList_boxAgg _ HO rfl); exact rfl; exact rfl; exact rfl; clear HO; intro b1 w HO; (simp only [Act.put, zA, zB, zC])) | ((with_reducible apply wpList_allocAgg _ HO rfl); exact rfl; infer_instance; exact rfl; clear HO; intro b1 w HO; (simp only [Act.put, zA, zB, zC]))) | ((with_reducible apply wpList_storeAll HO); exact rfl; exact rfl; exact rfl; (repeat (with_reducible (first | exact At.head _ | apply At.tail))); infer_instance; exact rfl; exact rfl; exact rfl; exact rfl; clear HO; intro w HO; (simp only [Act.put])))
        go_ret
        exact ⟨rfl, HO.grown⟩
      · have HZ := Lib.hid (HX.out hz)
        have hD : (o.ref == ref) = false := by simpa using hz
        clear HX HY hz
        go_wp2_with (first | (first | go_big_skip | ((with_reducible apply wpList_loadAll HO); exact rfl; exact rfl; (repeat (with_reducible (first | exact At.head _ | apply At.tail))); infer_instance; exact rfl; exact rfl; (simp only [Act.put, zA, zB, zC])) | ((with_reducible apply wpList_loadOne HO); exact rfl; exact rfl; (repeat (with_reducible (first | exact At.head _ | apply At.tail))); exact rfl; infer_instance; exact rfl; (simp only [Act.put, zA, zB, zC]))) | ((with_reducible apply wpList_loadAt HO); exact rfl; exact rfl; exact (fun w' h1 => hst.out w' h1.grown); infer_instance; exact rfl; exact rfl; (simp only [Act.put, zA, zB, zC])) | (first | ((with_reducible apply wpList_boxAgg _ HO rfl); exact rfl; exact rfl; exact rfl; clear HO; intro b1 w HO; (simp only [Act.put, zA, zB, zC])) | ((with_reducible apply wpList_allocAgg _ HO rfl); exact rfl; infer_instance; exact rfl; clear HO; intro b1 w HO; (simp only [Act.put, zA, zB, zC]))) | ((with_reducible apply wpList_storeAll HO); exact rfl; exact rfl; exact rfl; (repeat (with_reducible (first | exact At.head _ | apply At.tail))); infer_instance; exact rfl; exact rfl; exact rfl; exact rfl; clear HO; intro w HO; (simp only [Act.put])))
        replace HO := HO.tail
        go_roundw
        case rel => exact ⟨j + 1, by omega, by go_num, HZ.out, HO⟩
        case measure => simp [intOf] <;> omega
    · obtain rfl : j = S.L.length := by omega
      rw [List.take_length] at hnf
      obtain rfl : g0 = false := hg.out.symm.trans hnf
      clear hnf
      go_wp2_with fail
      go_ret
      exact ⟨rfl, HO.grown⟩

/-- A core's own memory; the intake's. -/
def coPs (a : CoA) (S : CoS) (i : InA) (A : InS) : List Ent := [box a.c (.cells (coC a.v a.k A i.v0 i.v1 i.v2 i.m).toArray 143), row 72 12 a.v (S.L.map sagaL), bkE a.k a.u a.pm a.bm S.P]
noncomputable def inPs (i : InA) (A : InS) : List Ent := [isl 5 i.v0 (A.r0.map rowC), isl 5 i.v1 (A.r1.map rowC), isl 5 i.v2 (A.r2.map rowC), mapM i.m (allF A)]
def inNil : InA := ⟨.slice none 0 0, .slice none 0 0, .slice none 0 0, .map none⟩
theorem sagaL_len (L : List (OrdS × D6)) : ∀ x ∈ L.map sagaL, x.length = 12 := fun x hx => by
  obtain ⟨y, _, rfl⟩ := List.mem_map.1 hx
  rfl
/-- What is known of a core that is one's own. -/
theorem Own.coAt {W w : World} {L : List Ent} {a : CoA} {S : CoS} {i : InA} {A : InS} (h : Own W w L) (h1 : box a.c (.cells (coC a.v a.k A i.v0 i.v1 i.v2 i.m).toArray 143) ∈ L) (h2 : row 72 12 a.v (S.L.map sagaL) ∈ L) (h3 : bkE a.k a.u a.pm a.bm S.P ∈ L) : CoAt w a S i A := by
  obtain ⟨h4, _⟩ := h.has _ h3
  exact ⟨h.has _ h1, isL_of_owns (sagaL_len _) (h.has _ h2), ⟨h4 _ (.head _), h4 _ (.tail _ (.head _)), h4 _ (.tail _ (.tail _ (.head _))), h4 _ (.tail _ (.tail _ (.tail _ (.head _))))⟩⟩

set_option maxHeartbeats 4000000 in
set_option maxRecDepth 100000 in
theorem coNew_any (W : World) : Calls Tryz.prog 25 #[] W fun e w' => ∃ a : CoA, e = .returned (.pointer (some ⟨a.c, 0, none⟩)) ∧ Own W w' (coPs a ⟨[], []⟩ inNil zeroI ++ inPs inNil zeroI) := by
  have HO := Own.start W
  go_enter Tryz.func25, Tryz.ntmps25
  go_wp2_with (first | (go_at_call 78; go_must ((with_reducible refine (bkNew_any _).mono ?_); rintro e w ⟨b, pm, bm, rfl, HO1⟩; replace HO := HO.lift HO1; clear HO1; simp only [List.cons_append, List.nil_append] at HO)) | (first | ((with_reducible apply wpList_boxAgg _ HO rfl); exact rfl; exact rfl; exact rfl; clear HO; intro b1 w HO; (simp only [Act.put, zA, zB, zC])) | ((with_reducible apply wpList_allocAgg _ HO rfl); exact rfl; infer_instance; exact rfl; clear HO; intro b1 w HO; (simp only [Act.put, zA, zB, zC]))) | go_big_skip)
  go_ret
  refine ⟨⟨b1, .slice none 0 0, b, .slice none 0 0, pm, bm⟩, rfl, ?_⟩
  have h1 := Own.nil (Own.nilIsl (Own.nilIsl (Own.nilIsl (Own.nilMap HO)))) 72 12
  exact h1.perm ((List.perm_append_comm (l₁ := [_, _, _, _, _]) (l₂ := [_, _])).trans ((List.Perm.swap _ _ _).cons _))

end Go.Proofs.YtibabfedpdoofaaGreatDoor
namespace Go.Proofs.YtibabfedpdoofaaGreatDoor
open Go.RowKit Go.Own

def stateOf (s : D6) : Int := if backOf s = true then (if (waitsOf s).2 = true then 1 else if s.x = true then 4 else 3) else (if (waitsOf s).2 = true then 0 else 2)
def onOf (s : D6) : D6 :=
  if backOf s = true then
    if (s.c = 2 ∨ s.c = 4) ∧ s.f = 0 then { s with f := 1 } else if (s.b = 2 ∨ s.b = 4) ∧ s.e = 0 then { s with e := 1 } else if (s.a = 2 ∨ s.a = 4) ∧ s.d = 0 then { s with d := 1 } else s
  else if s.a = 0 then { s with a := 1 } else if s.b = 0 then { s with b := 1 } else if s.c = 0 then { s with c := 1 } else s

theorem onOf_fwd {s : D6} (h : backOf s = false) : onOf s = if s.a = 0 then { s with a := 1 } else if s.b = 0 then { s with b := 1 } else if s.c = 0 then { s with c := 1 } else s := by
  unfold onOf; rw [h]; rfl
theorem onOf_bwd {s : D6} (h : backOf s = true) : onOf s = if (s.c = 2 ∨ s.c = 4) ∧ s.f = 0 then { s with f := 1 } else if (s.b = 2 ∨ s.b = 4) ∧ s.e = 0 then { s with e := 1 } else if (s.a = 2 ∨ s.a = 4) ∧ s.d = 0 then { s with d := 1 } else s := by
  unfold onOf; rw [h]; rfl

set_option maxHeartbeats 2000000 in
set_option maxRecDepth 100000 in
theorem state_any (o : OrdS) (s : D6) (w : World) : Calls Tryz.prog 38 #[sagaV o s] w fun e w' => e = .returned (.int .i64 (stateOf s)) ∧ Below w.heap.size w w' := by
  have W := fun w => waits_any o s w
  have B := fun w => back_any o s w
  obtain ⟨a, b, c, d, e, f, x⟩ := s
  simp only [sagaV] at W B ⊢
  have HQ := Lib.hid (show stateOf ⟨a, b, c, d, e, f, x⟩ = _ from rfl)
  conv at HQ => arg 1; rhs; unfold stateOf
  simp only at HQ
  generalize waitsOf ⟨a, b, c, d, e, f, x⟩ = p at *
  generalize backOf ⟨a, b, c, d, e, f, x⟩ = k at *
  obtain ⟨n, v⟩ := p
  simp only at W HQ
  cases v <;> cases k <;> cases x
  all_goals
    go_enter Tryz.func38, Tryz.ntmps38
    go_wp2_with (first | (go_at_call 98; go_must ((with_reducible refine (W _).mono ?_); rintro e w1 ⟨rfl, hb⟩; obtain ⟨hc, hf⟩ := bcell hb; have hz := hb.size; (try simp at hz); (try have hzT := Nat.lt_of_succ_le hz); have hzA : w.heap.size < w1.heap.size := (by omega); have hzA2 := Nat.le_of_lt hzA)) | (go_at_call 99; go_must ((with_reducible refine (B _).mono ?_); rintro e w1 ⟨rfl, hb⟩; obtain ⟨hc, hf⟩ := bcell hb; have hz := hb.size; (try simp at hz); (try have hzT := Nat.lt_of_succ_le hz); have hzA : w.heap.size < w1.heap.size := (by omega); have hzA2 := Nat.le_of_lt hzA)))
    go_ret
    exact ⟨by rw [HQ.out]; rfl, (by with_reducible (repeat (first | assumption | exact Below.refl _ _ | refine Below.drew ?_ | refine below_drewN ?_ _ | refine Below.alloc ?_ (by first | (simp; done) | omega | (simp; omega)) _ | refine Below.setCell ?_ (by first | (simp; done) | omega | (simp; omega)) _ | refine Below.trans ?_ (Below.mono (by assumption) (by first | (simp; done) | omega | (simp; omega))))))⟩

set_option maxHeartbeats 2000000 in
set_option maxRecDepth 100000 in
theorem refState_any (o : OrdS) (s : D6) (w : World) : Calls Tryz.prog 70 #[sagaV o s] w fun e w' => e = .returned (.int .i64 (stateOf s)) ∧ Below w.heap.size w w' := by
  have W := fun w => refWaits_any o s w
  have B := fun w => refBack_any o s w
  obtain ⟨a, b, c, d, e, f, x⟩ := s
  simp only [sagaV] at W B ⊢
  have HQ := Lib.hid (show stateOf ⟨a, b, c, d, e, f, x⟩ = _ from rfl)
  conv at HQ => arg 1; rhs; unfold stateOf
  simp only at HQ
  generalize waitsOf ⟨a, b, c, d, e, f, x⟩ = p at *
  generalize backOf ⟨a, b, c, d, e, f, x⟩ = k at *
  obtain ⟨n, v⟩ := p
  simp only at W HQ
  cases v <;> cases k <;> cases x
  all_goals
    go_enter Tryz.func70, Tryz.ntmps70
    go_wp2_with (first | (go_at_call 118; go_must ((with_reducible refine (W _).mono ?_); rintro e w1 ⟨rfl, hb⟩; obtain ⟨hc, hf⟩ := bcell hb; have hz := hb.size; (try simp at hz); (try have hzT := Nat.lt_of_succ_le hz); have hzA : w.heap.size < w1.heap.size := (by omega); have hzA2 := Nat.le_of_lt hzA)) | (go_at_call 124; go_must ((with_reducible refine (B _).mono ?_); rintro e w1 ⟨rfl, hb⟩; obtain ⟨hc, hf⟩ := bcell hb; have hz := hb.size; (try simp at hz); (try have hzT := Nat.lt_of_succ_le hz); have hzA : w.heap.size < w1.heap.size := (by omega); have hzA2 := Nat.le_of_lt hzA)))
    go_ret
    exact ⟨by rw [HQ.out]; rfl, (by with_reducible (repeat (first | assumption | exact Below.refl _ _ | refine Below.drew ?_ | refine below_drewN ?_ _ | refine Below.alloc ?_ (by first | (simp; done) | omega | (simp; omega)) _ | refine Below.setCell ?_ (by first | (simp; done) | omega | (simp; omega)) _ | refine Below.trans ?_ (Below.mono (by assumption) (by first | (simp; done) | omega | (simp; omega))))))⟩

end Go.Proofs.YtibabfedpdoofaaGreatDoor
namespace Go.Own
open Go.RowKit

theorem after2 {w w1 : World} {A C : Array Value} {T U : TypeId} (hb : Below ((w.alloc (.cells A T)).alloc (.cells C U)).heap.size ((w.alloc (.cells A T)).alloc (.cells C U)) w1) :
    (∀ i v, A[i]? = some v → w1.cell? ⟨w.heap.size, i, none⟩ = some v) ∧ (∀ i v, C[i]? = some v → w1.cell? ⟨w.heap.size + 1, i, none⟩ = some v) ∧
      (∀ i, w1.frozen? ⟨w.heap.size, i, none⟩ = false) ∧ (∀ i, w1.frozen? ⟨w.heap.size + 1, i, none⟩ = false) := by
  have h1 : w1.heap[w.heap.size]? = some (.cells A T (0, 0)) := by
    rw [hb.block _ (by simp; omega), Below.heap_alloc _ _ _ (by simp)]
    exact heap_alloc_new w _
  have h2 : w1.heap[w.heap.size + 1]? = some (.cells C U (0, 0)) := by
    rw [hb.block _ (by simp)]
    have := heap_alloc_new (w.alloc (.cells A T)) (.cells C U)
    simpa using this
  refine ⟨fun i v hi => ?_, fun i v hi => ?_, fun i => ?_, fun i => ?_⟩
  · rw [cell_of_row w1 w.heap.size i A T (0, 0) h1]; exact hi
  · rw [cell_of_row w1 (w.heap.size + 1) i C U (0, 0) h2]; exact hi
  · simp [World.frozen?, h1]
  · simp [World.frozen?, h2]
end Go.Own
namespace Go.Proofs.YtibabfedpdoofaaGreatDoor
open Go.RowKit Go.Own

set_option maxHeartbeats 8000000 in
set_option maxRecDepth 100000 in
theorem on_any (o : OrdS) (s : D6) (w : World) : Calls Tryz.prog 155 #[sagaV o s] w fun e w' => e = .returned (sagaV o (onOf s)) ∧ Below w.heap.size w w' := by
  have B := fun w => back_any o s w
  obtain ⟨a, b, c, d, e, f, x⟩ := s
  cases hk : backOf ⟨a, b, c, d, e, f, x⟩
  · rw [(show sagaV o ⟨a, b, c, d, e, f, x⟩ = .agg #[.int .i64 o.id, .string ⟨o.ref.toArray⟩, .string ⟨o.sku.toArray⟩, .int .i64 o.qty, .int .i64 o.amt, .int .i64 a, .int .i64 b, .int .i64 c, .int .i64 d, .int .i64 e, .int .i64 f, .bool x] from rfl), hk] at B
    rw [(show sagaV o ⟨a, b, c, d, e, f, x⟩ = .agg #[.int .i64 o.id, .string ⟨o.ref.toArray⟩, .string ⟨o.sku.toArray⟩, .int .i64 o.qty, .int .i64 o.amt, .int .i64 a, .int .i64 b, .int .i64 c, .int .i64 d, .int .i64 e, .int .i64 f, .bool x] from rfl)]
    by_cases ha : a = 0
    · have HQ := Lib.hid (show onOf ⟨a, b, c, d, e, f, x⟩ = ⟨1, b, c, d, e, f, x⟩ from (onOf_fwd hk).trans (by simp [ha]))
      have hab : (a == 0) = true := by simpa using ha
      clear hk ha
      go_enter Tryz.func155, Tryz.ntmps155
      go_wp2_with (go_at_call 99; go_must ((with_reducible refine (B _).mono ?_); rintro e w1 ⟨rfl, hb⟩; obtain ⟨hc, hf⟩ := bcell hb; have hz := hb.size; (try simp at hz); (try have hzT := Nat.lt_of_succ_le hz); have hzA : w.heap.size < w1.heap.size := (by omega); have hzB : w.heap.size + 1 < w1.heap.size := (by omega); have hzA2 := Nat.le_of_lt hzA; have hzB2 := Nat.le_of_lt hzB))
      obtain ⟨L1, L2, f1, f2⟩ := after2 hb; have k0 := L1 0 _ rfl; have k1 := L1 1 _ rfl; have k2 := L1 2 _ rfl; have k3 := L1 3 _ rfl; have k4 := L1 4 _ rfl; have k5 := L1 5 _ rfl; have k6 := L1 6 _ rfl; have k7 := L1 7 _ rfl; have k8 := L1 8 _ rfl; have k9 := L1 9 _ rfl; have k10 := L1 10 _ rfl; have k11 := L1 11 _ rfl; have m0 := L2 0 _ rfl; have m1 := L2 1 _ rfl; have m2 := L2 2 _ rfl; have m3 := L2 3 _ rfl; have m4 := L2 4 _ rfl; have m5 := L2 5 _ rfl; have m6 := L2 6 _ rfl; have m7 := L2 7 _ rfl; have m8 := L2 8 _ rfl; have m9 := L2 9 _ rfl; have m10 := L2 10 _ rfl; have m11 := L2 11 _ rfl; clear L1 L2 hc hf
      refine wp_loop_rounds 4 ?_
      rw [rounds_succ]
      go_wp2_with fail
      all_goals (try (rw [rounds_succ]; go_wp2_with fail))
      all_goals (try (rw [rounds_succ]; go_wp2_with fail))
      all_goals (try (rw [rounds_succ]; go_wp2_with fail))
      refine bodyPost_ret (v := sagaV o ⟨1, b, c, d, e, f, x⟩) (by unfold sagaV; simp [results, Tryz.results155, go_sem, *]) rfl ⟨by rw [HQ.out], (by with_reducible (repeat (first | assumption | exact Below.refl _ _ | refine Below.drew ?_ | refine below_drewN ?_ _ | refine Below.alloc ?_ (by first | (simp; done) | omega | (simp; omega)) _ | refine Below.setCell ?_ (by first | (simp; done) | omega | (simp; omega)) _ | refine Below.trans ?_ (Below.mono (by assumption) (by first | (simp; done) | omega | (simp; omega))))))⟩
    · have hab : (a == 0) = false := by simpa using ha
      by_cases hb : b = 0
      · have HQ := Lib.hid (show onOf ⟨a, b, c, d, e, f, x⟩ = ⟨a, 1, c, d, e, f, x⟩ from (onOf_fwd hk).trans (by simp [ha, hb]))
        have hbb : (b == 0) = true := by simpa using hb
        clear hk hb ha
        go_enter Tryz.func155, Tryz.ntmps155
        go_wp2_with (go_at_call 99; go_must ((with_reducible refine (B _).mono ?_); rintro e w1 ⟨rfl, hb⟩; obtain ⟨hc, hf⟩ := bcell hb; have hz := hb.size; (try simp at hz); (try have hzT := Nat.lt_of_succ_le hz); have hzA : w.heap.size < w1.heap.size := (by omega); have hzB : w.heap.size + 1 < w1.heap.size := (by omega); have hzA2 := Nat.le_of_lt hzA; have hzB2 := Nat.le_of_lt hzB))
        obtain ⟨L1, L2, f1, f2⟩ := after2 hb; have k0 := L1 0 _ rfl; have k1 := L1 1 _ rfl; have k2 := L1 2 _ rfl; have k3 := L1 3 _ rfl; have k4 := L1 4 _ rfl; have k5 := L1 5 _ rfl; have k6 := L1 6 _ rfl; have k7 := L1 7 _ rfl; have k8 := L1 8 _ rfl; have k9 := L1 9 _ rfl; have k10 := L1 10 _ rfl; have k11 := L1 11 _ rfl; have m0 := L2 0 _ rfl; have m1 := L2 1 _ rfl; have m2 := L2 2 _ rfl; have m3 := L2 3 _ rfl; have m4 := L2 4 _ rfl; have m5 := L2 5 _ rfl; have m6 := L2 6 _ rfl; have m7 := L2 7 _ rfl; have m8 := L2 8 _ rfl; have m9 := L2 9 _ rfl; have m10 := L2 10 _ rfl; have m11 := L2 11 _ rfl; clear L1 L2 hc hf
        refine wp_loop_rounds 4 ?_
        rw [rounds_succ]
        go_wp2_with fail
        all_goals (try (rw [rounds_succ]; go_wp2_with fail))
        all_goals (try (rw [rounds_succ]; go_wp2_with fail))
        all_goals (try (rw [rounds_succ]; go_wp2_with fail))
        refine bodyPost_ret (v := sagaV o ⟨a, 1, c, d, e, f, x⟩) (by unfold sagaV; simp [results, Tryz.results155, go_sem, *]) rfl ⟨by rw [HQ.out], (by with_reducible (repeat (first | assumption | exact Below.refl _ _ | refine Below.drew ?_ | refine below_drewN ?_ _ | refine Below.alloc ?_ (by first | (simp; done) | omega | (simp; omega)) _ | refine Below.setCell ?_ (by first | (simp; done) | omega | (simp; omega)) _ | refine Below.trans ?_ (Below.mono (by assumption) (by first | (simp; done) | omega | (simp; omega))))))⟩
      · have hbb : (b == 0) = false := by simpa using hb
        by_cases hc : c = 0
        · have HQ := Lib.hid (show onOf ⟨a, b, c, d, e, f, x⟩ = ⟨a, b, 1, d, e, f, x⟩ from (onOf_fwd hk).trans (by simp [ha, hb, hc]))
          have hcb : (c == 0) = true := by simpa using hc
          clear hk hc ha hb
          go_enter Tryz.func155, Tryz.ntmps155
          go_wp2_with (go_at_call 99; go_must ((with_reducible refine (B _).mono ?_); rintro e w1 ⟨rfl, hb⟩; obtain ⟨hc, hf⟩ := bcell hb; have hz := hb.size; (try simp at hz); (try have hzT := Nat.lt_of_succ_le hz); have hzA : w.heap.size < w1.heap.size := (by omega); have hzB : w.heap.size + 1 < w1.heap.size := (by omega); have hzA2 := Nat.le_of_lt hzA; have hzB2 := Nat.le_of_lt hzB))
          obtain ⟨L1, L2, f1, f2⟩ := after2 hb; have k0 := L1 0 _ rfl; have k1 := L1 1 _ rfl; have k2 := L1 2 _ rfl; have k3 := L1 3 _ rfl; have k4 := L1 4 _ rfl; have k5 := L1 5 _ rfl; have k6 := L1 6 _ rfl; have k7 := L1 7 _ rfl; have k8 := L1 8 _ rfl; have k9 := L1 9 _ rfl; have k10 := L1 10 _ rfl; have k11 := L1 11 _ rfl; have m0 := L2 0 _ rfl; have m1 := L2 1 _ rfl; have m2 := L2 2 _ rfl; have m3 := L2 3 _ rfl; have m4 := L2 4 _ rfl; have m5 := L2 5 _ rfl; have m6 := L2 6 _ rfl; have m7 := L2 7 _ rfl; have m8 := L2 8 _ rfl; have m9 := L2 9 _ rfl; have m10 := L2 10 _ rfl; have m11 := L2 11 _ rfl; clear L1 L2 hc hf
          refine wp_loop_rounds 4 ?_
          rw [rounds_succ]
          go_wp2_with fail
          all_goals (try (rw [rounds_succ]; go_wp2_with fail))
          all_goals (try (rw [rounds_succ]; go_wp2_with fail))
          all_goals (try (rw [rounds_succ]; go_wp2_with fail))
          refine bodyPost_ret (v := sagaV o ⟨a, b, 1, d, e, f, x⟩) (by unfold sagaV; simp [results, Tryz.results155, go_sem, *]) rfl ⟨by rw [HQ.out], (by with_reducible (repeat (first | assumption | exact Below.refl _ _ | refine Below.drew ?_ | refine below_drewN ?_ _ | refine Below.alloc ?_ (by first | (simp; done) | omega | (simp; omega)) _ | refine Below.setCell ?_ (by first | (simp; done) | omega | (simp; omega)) _ | refine Below.trans ?_ (Below.mono (by assumption) (by first | (simp; done) | omega | (simp; omega))))))⟩
        · have hcb : (c == 0) = false := by simpa using hc
          have HQ := Lib.hid (show onOf ⟨a, b, c, d, e, f, x⟩ = ⟨a, b, c, d, e, f, x⟩ from (onOf_fwd hk).trans (by simp [ha, hb, hc]))
          clear hk ha hb hc
          go_enter Tryz.func155, Tryz.ntmps155
          go_wp2_with (go_at_call 99; go_must ((with_reducible refine (B _).mono ?_); rintro e w1 ⟨rfl, hb⟩; obtain ⟨hc, hf⟩ := bcell hb; have hz := hb.size; (try simp at hz); (try have hzT := Nat.lt_of_succ_le hz); have hzA : w.heap.size < w1.heap.size := (by omega); have hzB : w.heap.size + 1 < w1.heap.size := (by omega); have hzA2 := Nat.le_of_lt hzA; have hzB2 := Nat.le_of_lt hzB))
          obtain ⟨L1, L2, f1, f2⟩ := after2 hb; have k0 := L1 0 _ rfl; have k1 := L1 1 _ rfl; have k2 := L1 2 _ rfl; have k3 := L1 3 _ rfl; have k4 := L1 4 _ rfl; have k5 := L1 5 _ rfl; have k6 := L1 6 _ rfl; have k7 := L1 7 _ rfl; have k8 := L1 8 _ rfl; have k9 := L1 9 _ rfl; have k10 := L1 10 _ rfl; have k11 := L1 11 _ rfl; have m0 := L2 0 _ rfl; have m1 := L2 1 _ rfl; have m2 := L2 2 _ rfl; have m3 := L2 3 _ rfl; have m4 := L2 4 _ rfl; have m5 := L2 5 _ rfl; have m6 := L2 6 _ rfl; have m7 := L2 7 _ rfl; have m8 := L2 8 _ rfl; have m9 := L2 9 _ rfl; have m10 := L2 10 _ rfl; have m11 := L2 11 _ rfl; clear L1 L2 hc hf
          refine wp_loop_rounds 4 ?_
          rw [rounds_succ]
          go_wp2_with fail
          all_goals (try (rw [rounds_succ]; go_wp2_with fail))
          all_goals (try (rw [rounds_succ]; go_wp2_with fail))
          all_goals (try (rw [rounds_succ]; go_wp2_with fail))
          refine bodyPost_ret (v := sagaV o ⟨a, b, c, d, e, f, x⟩) (by unfold sagaV; simp [results, Tryz.results155, go_sem, *]) rfl ⟨by rw [HQ.out], (by with_reducible (repeat (first | assumption | exact Below.refl _ _ | refine Below.drew ?_ | refine below_drewN ?_ _ | refine Below.alloc ?_ (by first | (simp; done) | omega | (simp; omega)) _ | refine Below.setCell ?_ (by first | (simp; done) | omega | (simp; omega)) _ | refine Below.trans ?_ (Below.mono (by assumption) (by first | (simp; done) | omega | (simp; omega))))))⟩
  · rw [(show sagaV o ⟨a, b, c, d, e, f, x⟩ = .agg #[.int .i64 o.id, .string ⟨o.ref.toArray⟩, .string ⟨o.sku.toArray⟩, .int .i64 o.qty, .int .i64 o.amt, .int .i64 a, .int .i64 b, .int .i64 c, .int .i64 d, .int .i64 e, .int .i64 f, .bool x] from rfl), hk] at B
    rw [(show sagaV o ⟨a, b, c, d, e, f, x⟩ = .agg #[.int .i64 o.id, .string ⟨o.ref.toArray⟩, .string ⟨o.sku.toArray⟩, .int .i64 o.qty, .int .i64 o.amt, .int .i64 a, .int .i64 b, .int .i64 c, .int .i64 d, .int .i64 e, .int .i64 f, .bool x] from rfl)]
    have HK := Lib.hid hk
    clear hk
    go_enter Tryz.func155, Tryz.ntmps155
    go_wp2_with (go_at_call 99; go_must ((with_reducible refine (B _).mono ?_); rintro e w1 ⟨rfl, hb⟩; obtain ⟨hc, hf⟩ := bcell hb; have hz := hb.size; (try simp at hz); (try have hzT := Nat.lt_of_succ_le hz); have hzA : w.heap.size < w1.heap.size := (by omega); have hzB : w.heap.size + 1 < w1.heap.size := (by omega); have hzA2 := Nat.le_of_lt hzA; have hzB2 := Nat.le_of_lt hzB))
    obtain ⟨L1, L2, f1, f2⟩ := after2 hb; have k0 := L1 0 _ rfl; have k1 := L1 1 _ rfl; have k2 := L1 2 _ rfl; have k3 := L1 3 _ rfl; have k4 := L1 4 _ rfl; have k5 := L1 5 _ rfl; have k6 := L1 6 _ rfl; have k7 := L1 7 _ rfl; have k8 := L1 8 _ rfl; have k9 := L1 9 _ rfl; have k10 := L1 10 _ rfl; have k11 := L1 11 _ rfl; have m0 := L2 0 _ rfl; have m1 := L2 1 _ rfl; have m2 := L2 2 _ rfl; have m3 := L2 3 _ rfl; have m4 := L2 4 _ rfl; have m5 := L2 5 _ rfl; have m6 := L2 6 _ rfl; have m7 := L2 7 _ rfl; have m8 := L2 8 _ rfl; have m9 := L2 9 _ rfl; have m10 := L2 10 _ rfl; have m11 := L2 11 _ rfl; clear L1 L2 hc hf
    go_loop [4] (fun k => k = .int .i64 2 ∨ (k = .int .i64 1 ∧ ¬ ((c = 2 ∨ c = 4) ∧ f = 0)) ∨ (k = .int .i64 0 ∧ ¬ ((c = 2 ∨ c = 4) ∧ f = 0) ∧ ¬ ((b = 2 ∨ b = 4) ∧ e = 0)) ∨ (k = .int .i64 (-1) ∧ ¬ ((c = 2 ∨ c = 4) ∧ f = 0) ∧ ¬ ((b = 2 ∨ b = 4) ∧ e = 0) ∧ ¬ ((a = 2 ∨ a = 4) ∧ d = 0))) (fun k => (intOf k + 1).toNat)
    case atStart => exact .inl rfl
    case round =>
      rcases hrel with rfl | ⟨rfl, n2⟩ | ⟨rfl, n2, n1⟩ | ⟨rfl, n2, n1, n0⟩
      · by_cases hu : f = 0
        · by_cases h2 : c = 2
          · have HQ := Lib.hid (show onOf ⟨a, b, c, d, e, f, x⟩ = ⟨a, b, c, d, e, 1, x⟩ from (onOf_bwd HK.out).trans (by simp [hu, h2]))
            have hub : (f == 0) = true := by simpa using hu
            have h2b : (c == 2) = true := by simpa using h2
            clear hu h2
            go_wp2_with fail
            refine bodyPost_ret (v := sagaV o ⟨a, b, c, d, e, 1, x⟩) (by unfold sagaV; simp [results, Tryz.results155, go_sem, *]) rfl ⟨by rw [HQ.out], (by with_reducible (repeat (first | assumption | exact Below.refl _ _ | refine Below.drew ?_ | refine below_drewN ?_ _ | refine Below.alloc ?_ (by first | (simp; done) | omega | (simp; omega)) _ | refine Below.setCell ?_ (by first | (simp; done) | omega | (simp; omega)) _ | refine Below.trans ?_ (Below.mono (by assumption) (by first | (simp; done) | omega | (simp; omega))))))⟩
          · by_cases h4 : c = 4
            · have HQ := Lib.hid (show onOf ⟨a, b, c, d, e, f, x⟩ = ⟨a, b, c, d, e, 1, x⟩ from (onOf_bwd HK.out).trans (by simp [hu, h4]))
              have hub : (f == 0) = true := by simpa using hu
              have h2b : (c == 2) = false := by simpa using h2
              have h4b : (c == 4) = true := by simpa using h4
              clear hu h2 h4
              go_wp2_with fail
              refine bodyPost_ret (v := sagaV o ⟨a, b, c, d, e, 1, x⟩) (by unfold sagaV; simp [results, Tryz.results155, go_sem, *]) rfl ⟨by rw [HQ.out], (by with_reducible (repeat (first | assumption | exact Below.refl _ _ | refine Below.drew ?_ | refine below_drewN ?_ _ | refine Below.alloc ?_ (by first | (simp; done) | omega | (simp; omega)) _ | refine Below.setCell ?_ (by first | (simp; done) | omega | (simp; omega)) _ | refine Below.trans ?_ (Below.mono (by assumption) (by first | (simp; done) | omega | (simp; omega))))))⟩
            · have h2b : (c == 2) = false := by simpa using h2
              have h4b : (c == 4) = false := by simpa using h4
              have NN := Lib.hid (show ¬ ((c = 2 ∨ c = 4) ∧ f = 0) from fun h => h.1.elim h2 h4)
              clear hu h2 h4
              go_wp2_with fail
              go_round
              case rel => exact .inr (.inl ⟨rfl, NN.out⟩)
              case measure => simp [intOf] <;> omega
        · have NN := Lib.hid (show ¬ ((c = 2 ∨ c = 4) ∧ f = 0) from fun h => hu h.2)
          have hub : (f == 0) = false := by simpa using hu
          clear hu
          by_cases h2 : c = 2
          · have h2b : (c == 2) = true := by simpa using h2
            clear h2
            go_wp2_with fail
            go_round
            case rel => exact .inr (.inl ⟨rfl, NN.out⟩)
            case measure => simp [intOf] <;> omega
          · have h2b : (c == 2) = false := by simpa using h2
            clear h2
            by_cases h4 : c = 4
            · have h4b : (c == 4) = true := by simpa using h4
              clear h4
              go_wp2_with fail
              go_round
              case rel => exact .inr (.inl ⟨rfl, NN.out⟩)
              case measure => simp [intOf] <;> omega
            · have h4b : (c == 4) = false := by simpa using h4
              clear h4
              go_wp2_with fail
              go_round
              case rel => exact .inr (.inl ⟨rfl, NN.out⟩)
              case measure => simp [intOf] <;> omega
      · have N2 := Lib.hid n2
        clear n2
        by_cases hu : e = 0
        · by_cases h2 : b = 2
          · have HQ := Lib.hid (show onOf ⟨a, b, c, d, e, f, x⟩ = ⟨a, b, c, d, 1, f, x⟩ from (onOf_bwd HK.out).trans (by rw [if_neg N2.out]; simp [hu, h2]))
            have hub : (e == 0) = true := by simpa using hu
            have h2b : (b == 2) = true := by simpa using h2
            clear hu h2
            go_wp2_with fail
            refine bodyPost_ret (v := sagaV o ⟨a, b, c, d, 1, f, x⟩) (by unfold sagaV; simp [results, Tryz.results155, go_sem, *]) rfl ⟨by rw [HQ.out], (by with_reducible (repeat (first | assumption | exact Below.refl _ _ | refine Below.drew ?_ | refine below_drewN ?_ _ | refine Below.alloc ?_ (by first | (simp; done) | omega | (simp; omega)) _ | refine Below.setCell ?_ (by first | (simp; done) | omega | (simp; omega)) _ | refine Below.trans ?_ (Below.mono (by assumption) (by first | (simp; done) | omega | (simp; omega))))))⟩
          · by_cases h4 : b = 4
            · have HQ := Lib.hid (show onOf ⟨a, b, c, d, e, f, x⟩ = ⟨a, b, c, d, 1, f, x⟩ from (onOf_bwd HK.out).trans (by rw [if_neg N2.out]; simp [hu, h4]))
              have hub : (e == 0) = true := by simpa using hu
              have h2b : (b == 2) = false := by simpa using h2
              have h4b : (b == 4) = true := by simpa using h4
              clear hu h2 h4
              go_wp2_with fail
              refine bodyPost_ret (v := sagaV o ⟨a, b, c, d, 1, f, x⟩) (by unfold sagaV; simp [results, Tryz.results155, go_sem, *]) rfl ⟨by rw [HQ.out], (by with_reducible (repeat (first | assumption | exact Below.refl _ _ | refine Below.drew ?_ | refine below_drewN ?_ _ | refine Below.alloc ?_ (by first | (simp; done) | omega | (simp; omega)) _ | refine Below.setCell ?_ (by first | (simp; done) | omega | (simp; omega)) _ | refine Below.trans ?_ (Below.mono (by assumption) (by first | (simp; done) | omega | (simp; omega))))))⟩
            · have h2b : (b == 2) = false := by simpa using h2
              have h4b : (b == 4) = false := by simpa using h4
              have NN := Lib.hid (show ¬ ((b = 2 ∨ b = 4) ∧ e = 0) from fun h => h.1.elim h2 h4)
              clear hu h2 h4
              go_wp2_with fail
              go_round
              case rel => exact .inr (.inr (.inl ⟨rfl, N2.out, NN.out⟩))
              case measure => simp [intOf] <;> omega
        · have NN := Lib.hid (show ¬ ((b = 2 ∨ b = 4) ∧ e = 0) from fun h => hu h.2)
          have hub : (e == 0) = false := by simpa using hu
          clear hu
          by_cases h2 : b = 2
          · have h2b : (b == 2) = true := by simpa using h2
            clear h2
            go_wp2_with fail
            go_round
            case rel => exact .inr (.inr (.inl ⟨rfl, N2.out, NN.out⟩))
            case measure => simp [intOf] <;> omega
          · have h2b : (b == 2) = false := by simpa using h2
            clear h2
            by_cases h4 : b = 4
            · have h4b : (b == 4) = true := by simpa using h4
              clear h4
              go_wp2_with fail
              go_round
              case rel => exact .inr (.inr (.inl ⟨rfl, N2.out, NN.out⟩))
              case measure => simp [intOf] <;> omega
            · have h4b : (b == 4) = false := by simpa using h4
              clear h4
              go_wp2_with fail
              go_round
              case rel => exact .inr (.inr (.inl ⟨rfl, N2.out, NN.out⟩))
              case measure => simp [intOf] <;> omega
      · have N2 := Lib.hid n2
        clear n2
        have N1 := Lib.hid n1
        clear n1
        by_cases hu : d = 0
        · by_cases h2 : a = 2
          · have HQ := Lib.hid (show onOf ⟨a, b, c, d, e, f, x⟩ = ⟨a, b, c, 1, e, f, x⟩ from (onOf_bwd HK.out).trans (by rw [if_neg N2.out]; rw [if_neg N1.out]; simp [hu, h2]))
            have hub : (d == 0) = true := by simpa using hu
            have h2b : (a == 2) = true := by simpa using h2
            clear hu h2
            go_wp2_with fail
            refine bodyPost_ret (v := sagaV o ⟨a, b, c, 1, e, f, x⟩) (by unfold sagaV; simp [results, Tryz.results155, go_sem, *]) rfl ⟨by rw [HQ.out], (by with_reducible (repeat (first | assumption | exact Below.refl _ _ | refine Below.drew ?_ | refine below_drewN ?_ _ | refine Below.alloc ?_ (by first | (simp; done) | omega | (simp; omega)) _ | refine Below.setCell ?_ (by first | (simp; done) | omega | (simp; omega)) _ | refine Below.trans ?_ (Below.mono (by assumption) (by first | (simp; done) | omega | (simp; omega))))))⟩
          · by_cases h4 : a = 4
            · have HQ := Lib.hid (show onOf ⟨a, b, c, d, e, f, x⟩ = ⟨a, b, c, 1, e, f, x⟩ from (onOf_bwd HK.out).trans (by rw [if_neg N2.out]; rw [if_neg N1.out]; simp [hu, h4]))
              have hub : (d == 0) = true := by simpa using hu
              have h2b : (a == 2) = false := by simpa using h2
              have h4b : (a == 4) = true := by simpa using h4
              clear hu h2 h4
              go_wp2_with fail
              refine bodyPost_ret (v := sagaV o ⟨a, b, c, 1, e, f, x⟩) (by unfold sagaV; simp [results, Tryz.results155, go_sem, *]) rfl ⟨by rw [HQ.out], (by with_reducible (repeat (first | assumption | exact Below.refl _ _ | refine Below.drew ?_ | refine below_drewN ?_ _ | refine Below.alloc ?_ (by first | (simp; done) | omega | (simp; omega)) _ | refine Below.setCell ?_ (by first | (simp; done) | omega | (simp; omega)) _ | refine Below.trans ?_ (Below.mono (by assumption) (by first | (simp; done) | omega | (simp; omega))))))⟩
            · have h2b : (a == 2) = false := by simpa using h2
              have h4b : (a == 4) = false := by simpa using h4
              have NN := Lib.hid (show ¬ ((a = 2 ∨ a = 4) ∧ d = 0) from fun h => h.1.elim h2 h4)
              clear hu h2 h4
              go_wp2_with fail
              go_round
              case rel => exact .inr (.inr (.inr ⟨rfl, N2.out, N1.out, NN.out⟩))
              case measure => simp [intOf] <;> omega
        · have NN := Lib.hid (show ¬ ((a = 2 ∨ a = 4) ∧ d = 0) from fun h => hu h.2)
          have hub : (d == 0) = false := by simpa using hu
          clear hu
          by_cases h2 : a = 2
          · have h2b : (a == 2) = true := by simpa using h2
            clear h2
            go_wp2_with fail
            go_round
            case rel => exact .inr (.inr (.inr ⟨rfl, N2.out, N1.out, NN.out⟩))
            case measure => simp [intOf] <;> omega
          · have h2b : (a == 2) = false := by simpa using h2
            clear h2
            by_cases h4 : a = 4
            · have h4b : (a == 4) = true := by simpa using h4
              clear h4
              go_wp2_with fail
              go_round
              case rel => exact .inr (.inr (.inr ⟨rfl, N2.out, N1.out, NN.out⟩))
              case measure => simp [intOf] <;> omega
            · have h4b : (a == 4) = false := by simpa using h4
              clear h4
              go_wp2_with fail
              go_round
              case rel => exact .inr (.inr (.inr ⟨rfl, N2.out, N1.out, NN.out⟩))
              case measure => simp [intOf] <;> omega
      · have HQ := Lib.hid (show onOf ⟨a, b, c, d, e, f, x⟩ = ⟨a, b, c, d, e, f, x⟩ from (onOf_bwd HK.out).trans (by rw [if_neg n2, if_neg n1, if_neg n0]))
        clear n2 n1 n0
        go_wp2_with fail
        refine bodyPost_ret (v := sagaV o ⟨a, b, c, d, e, f, x⟩) (by unfold sagaV; simp [results, Tryz.results155, go_sem, *]) rfl ⟨by rw [HQ.out], (by with_reducible (repeat (first | assumption | exact Below.refl _ _ | refine Below.drew ?_ | refine below_drewN ?_ _ | refine Below.alloc ?_ (by first | (simp; done) | omega | (simp; omega)) _ | refine Below.setCell ?_ (by first | (simp; done) | omega | (simp; omega)) _ | refine Below.trans ?_ (Below.mono (by assumption) (by first | (simp; done) | omega | (simp; omega))))))⟩
end Go.Proofs.YtibabfedpdoofaaGreatDoor
namespace Go.Proofs.YtibabfedpdoofaaGreatDoor
open Go.RowKit Go.Own

def setD (s : D6) (d n : Int) : D6 := if d = 0 then { s with a := n } else if d = 1 then { s with b := n } else if d = 2 then { s with c := n } else if d = 3 then { s with d := n } else if d = 4 then { s with e := n } else { s with f := n }
def noneV : Value := .agg #[.int .i64 0, .string ⟨#[]⟩, .string ⟨#[]⟩, .int .i64 0, .int .i64 0, .int .i64 0, .int .i64 0, .int .i64 0, .int .i64 0, .int .i64 0, .int .i64 0, .bool false]
/-- What a reply makes of it. -/
def replyOf (s : D6) (deed code : Int) : Option D6 :=
  if (waitsOf s).2 = true ∧ (waitsOf s).1 = deed ∧ (code = 1 ∨ (code = 2 ∧ deed ≤ 2)) then some (onOf (setD s deed (code + 1))) else none
def stopOf (s : D6) : Option D6 := if stateOf s = 0 then some (onOf { setD s (waitsOf s).1 4 with x := true }) else none
def replyV (o : OrdS) (r : Option D6) : Value := match r with
  | some t => .tuple #[sagaV o t, .bool true]
  | none => .tuple #[noneV, .bool false]
def stopV (o : OrdS) (r : Option D6) : Value := match r with
  | some t => .tuple #[sagaV o t, .int .i64 0]
  | none => .tuple #[noneV, .int .i64 92]
def netS (o : OrdS) (s : D6) : Int := if s.b = 2 ∧ s.e ≠ 2 then o.amt else 0
def beginD : D6 := ⟨1, 0, 0, 0, 0, 0, false⟩

theorem waitsOf_cases (s : D6) : (waitsOf s).2 = false ∧ (waitsOf s).1 = 0 ∨ (waitsOf s).2 = true ∧ ((waitsOf s).1 = 0 ∨ (waitsOf s).1 = 1 ∨ (waitsOf s).1 = 2 ∨ (waitsOf s).1 = 3 ∨ (waitsOf s).1 = 4 ∨ (waitsOf s).1 = 5) := by
  unfold waitsOf
  (repeat' split) <;> simp

set_option maxHeartbeats 2000000 in
theorem begin_any (o : OrdS) (w : World) : Calls Tryz.prog 120 #[ordV o] w fun e w' => e = .returned (sagaV o beginD) ∧ Below w.heap.size w w' := by
  rw [show ordV o = .agg #[.int .i64 o.id, .string ⟨o.ref.toArray⟩, .string ⟨o.sku.toArray⟩, .int .i64 o.qty, .int .i64 o.amt] from rfl]
  go_enter Tryz.func120, Tryz.ntmps120
  go_wp2_with fail
  refine bodyPost_ret (v := sagaV o beginD) (by unfold sagaV; simp [results, Tryz.results120, go_sem, beginD]) rfl ⟨rfl, (by with_reducible (repeat (first | assumption | exact Below.refl _ _ | refine Below.drew ?_ | refine below_drewN ?_ _ | refine Below.alloc ?_ (by first | (simp; done) | omega | (simp; omega)) _ | refine Below.setCell ?_ (by first | (simp; done) | omega | (simp; omega)) _ | refine Below.trans ?_ (Below.mono (by assumption) (by first | (simp; done) | omega | (simp; omega))))))⟩
end Go.Proofs.YtibabfedpdoofaaGreatDoor
namespace Go.Own
open Go.RowKit
/-- Two boxes, side by side, known whole. -/
structure Two (w : World) (B : Nat) (A C : Array Value) : Prop where
  c1 : ∀ i v, A[i]? = some v → w.cell? ⟨B, i, none⟩ = some v
  c2 : ∀ i v, C[i]? = some v → w.cell? ⟨B + 1, i, none⟩ = some v
  f1 : ∀ i, w.frozen? ⟨B, i, none⟩ = false
  f2 : ∀ i, w.frozen? ⟨B + 1, i, none⟩ = false
  lt : B + 1 < w.heap.size
theorem Two.of {w w1 : World} {A C : Array Value} {T U : TypeId} (hb : Below ((w.alloc (.cells A T)).alloc (.cells C U)).heap.size ((w.alloc (.cells A T)).alloc (.cells C U)) w1) : Two w1 w.heap.size A C := by
  obtain ⟨a, b, c, d⟩ := after2 hb
  have := hb.size
  simp at this
  exact ⟨a, b, c, d, by omega⟩
theorem Two.below {w w1 : World} {B : Nat} {A C : Array Value} (h : Two w B A C) (hb : Below w.heap.size w w1) : Two w1 B A C := by
  have hs := hb.size
  have hl := h.lt
  obtain ⟨hc, hf⟩ := bcell hb
  exact ⟨fun i v hi => (hc B i (by omega)).trans (h.c1 i v hi), fun i v hi => (hc (B + 1) i hl).trans (h.c2 i v hi), fun i => (hf B i (by omega)).trans (h.f1 i), fun i => (hf (B + 1) i hl).trans (h.f2 i), by omega⟩
theorem Two.set {w : World} {B k : Nat} {A C : Array Value} (h : Two w B A C) (hk : k < A.size) (u : Value) : Two (w.setCell ⟨B, k, none⟩ u) B (A.setIfInBounds k u) C := by
  refine ⟨fun i v hi => ?_, fun i v hi => ?_, fun i => ?_, fun i => ?_, by rw [World.size_setCell]; exact h.lt⟩
  · by_cases e : k = i
    · subst e
      rw [World.cell?_setCell_same _ _ _ (h.c1 k _ (Array.getElem?_eq_getElem hk))]
      rw [Array.getElem?_setIfInBounds_self_of_lt hk] at hi
      exact hi
    · rw [World.cell?_setCell_other _ _ _ _ (fun h => by cases h; exact e rfl)]
      rw [Array.getElem?_setIfInBounds_ne e] at hi
      exact h.c1 i v hi
  · rw [World.cell?_setCell_other _ _ _ _ (by simp)]
    exact h.c2 i v hi
  · rw [World.frozen?_setCell]; exact h.f1 i
  · rw [World.frozen?_setCell]; exact h.f2 i
theorem Two.cells1 {w : World} {B : Nat} {C : Array Value} {v0 v1 v2 v3 v4 v5 v6 v7 v8 v9 v10 v11 : Value} (h : Two w B #[v0, v1, v2, v3, v4, v5, v6, v7, v8, v9, v10, v11] C) : w.cell? ⟨B, 0, none⟩ = some v0 ∧ w.cell? ⟨B, 1, none⟩ = some v1 ∧ w.cell? ⟨B, 2, none⟩ = some v2 ∧ w.cell? ⟨B, 3, none⟩ = some v3 ∧ w.cell? ⟨B, 4, none⟩ = some v4 ∧ w.cell? ⟨B, 5, none⟩ = some v5 ∧ w.cell? ⟨B, 6, none⟩ = some v6 ∧ w.cell? ⟨B, 7, none⟩ = some v7 ∧ w.cell? ⟨B, 8, none⟩ = some v8 ∧ w.cell? ⟨B, 9, none⟩ = some v9 ∧ w.cell? ⟨B, 10, none⟩ = some v10 ∧ w.cell? ⟨B, 11, none⟩ = some v11 :=
  ⟨h.c1 0 v0 rfl, h.c1 1 v1 rfl, h.c1 2 v2 rfl, h.c1 3 v3 rfl, h.c1 4 v4 rfl, h.c1 5 v5 rfl, h.c1 6 v6 rfl, h.c1 7 v7 rfl, h.c1 8 v8 rfl, h.c1 9 v9 rfl, h.c1 10 v10 rfl, h.c1 11 v11 rfl⟩
theorem Two.cells2 {w : World} {B : Nat} {A : Array Value} {v0 v1 v2 v3 v4 v5 v6 v7 v8 v9 v10 v11 : Value} (h : Two w B A #[v0, v1, v2, v3, v4, v5, v6, v7, v8, v9, v10, v11]) : w.cell? ⟨B + 1, 0, none⟩ = some v0 ∧ w.cell? ⟨B + 1, 1, none⟩ = some v1 ∧ w.cell? ⟨B + 1, 2, none⟩ = some v2 ∧ w.cell? ⟨B + 1, 3, none⟩ = some v3 ∧ w.cell? ⟨B + 1, 4, none⟩ = some v4 ∧ w.cell? ⟨B + 1, 5, none⟩ = some v5 ∧ w.cell? ⟨B + 1, 6, none⟩ = some v6 ∧ w.cell? ⟨B + 1, 7, none⟩ = some v7 ∧ w.cell? ⟨B + 1, 8, none⟩ = some v8 ∧ w.cell? ⟨B + 1, 9, none⟩ = some v9 ∧ w.cell? ⟨B + 1, 10, none⟩ = some v10 ∧ w.cell? ⟨B + 1, 11, none⟩ = some v11 :=
  ⟨h.c2 0 v0 rfl, h.c2 1 v1 rfl, h.c2 2 v2 rfl, h.c2 3 v3 rfl, h.c2 4 v4 rfl, h.c2 5 v5 rfl, h.c2 6 v6 rfl, h.c2 7 v7 rfl, h.c2 8 v8 rfl, h.c2 9 v9 rfl, h.c2 10 v10 rfl, h.c2 11 v11 rfl⟩
end Go.Own

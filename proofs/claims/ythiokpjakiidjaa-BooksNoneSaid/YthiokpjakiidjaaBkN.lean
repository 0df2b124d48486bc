/-
  Books that are none, by walking the program's text, and the law on them; conditions: none.
-/
import Derived.Test.YthiokpjakiidjaaBkP
namespace Go.Proofs.Ythiokpjakiidjaa
open Go.RowKit Go.Own Go.Maps

/-- No books: nil, or books that were not made. -/
inductive NoneAt (w : World) : Value → Prop
  | nil : NoneAt w (.pointer none)
  | no (b : Nat) (v : Value) (h : w.heap[b]? = some (.cells [v, .map none, .map none].toArray 46)) : NoneAt w (.pointer (some ⟨b, 0, none⟩))
theorem NoneAt.below {w w' : World} {q : Value} (h : NoneAt w q) (hb : Below w.heap.size w w') : NoneAt w' q := by
  cases h with
  | nil => exact .nil
  | no b v h => exact .no b v (by rw [hb.block b (old_lt h)]; exact h)
theorem noneNo_any {w : World} {q : Value} (h : NoneAt w q) : Calls Try.prog 21 #[q] w fun e w' => e = .returned (.bool true) ∧ Below w.heap.size w w' := by
  cases h with
  | nil => exact bkNoneNil_any w
  | no b v h => exact bkNoneNo_any h

set_option maxHeartbeats 4000000 in
set_option maxRecDepth 100000 in
theorem noPost_any {W : World} {q : Value} (h : NoneAt W q) (p : Pst) : Calls Try.prog 11 #[q, pstV p] W fun e w' => e = .returned (.int .i64 1) ∧ Below W.heap.size W w' := by
  have HO := Own.start W
  have N := fun w (hb : Below W.heap.size W w) => noneNo_any (h.below hb)
  clear h
  obtain ⟨id, o, d, c, a⟩ := p
  simp only [pstV, pstC]
  go_enter Try.func11, Try.ntmps11
  go_wp2_with (first | (first | ((with_reducible apply wpList_boxAgg _ HO rfl); exact rfl; exact rfl; exact rfl; clear HO; intro b3 w HO; (simp only [Act.put, List.setIfInBounds_toArray, List.set_cons_succ, List.set_cons_zero])) | ((with_reducible apply wpList_allocAgg _ HO rfl); exact rfl; infer_instance; exact rfl; clear HO; intro b3 w HO; (simp only [Act.put, List.setIfInBounds_toArray, List.set_cons_succ, List.set_cons_zero]))) | (go_at_call 21; go_must ((with_reducible refine (N _ HO.grown).mono ?_); rintro e w ⟨rfl, hb⟩; replace HO := HO.call hb; clear hb)))
  go_ret
  exact ⟨rfl, HO.grown⟩

set_option maxHeartbeats 4000000 in
set_option maxRecDepth 100000 in
theorem noBal_any {W : World} {q : Value} (h : NoneAt W q) (n o : Int) : Calls Try.prog 13 #[q, .int .i64 n, .int .i64 o] W fun e w' => e = .returned (.int .i64 0) ∧ Below W.heap.size W w' := by
  have HO := Own.start W
  have N := fun w (hb : Below W.heap.size W w) => noneNo_any (h.below hb)
  clear h
  go_enter Try.func13, Try.ntmps13
  go_wp2_with (first | (first | ((with_reducible apply wpList_boxAgg _ HO rfl); exact rfl; exact rfl; exact rfl; clear HO; intro b3 w HO; (simp only [Act.put, List.setIfInBounds_toArray, List.set_cons_succ, List.set_cons_zero])) | ((with_reducible apply wpList_allocAgg _ HO rfl); exact rfl; infer_instance; exact rfl; clear HO; intro b3 w HO; (simp only [Act.put, List.setIfInBounds_toArray, List.set_cons_succ, List.set_cons_zero]))) | (go_at_call 21; go_must ((with_reducible refine (N _ HO.grown).mono ?_); rintro e w ⟨rfl, hb⟩; replace HO := HO.call hb; clear hb)))
  go_ret
  exact ⟨rfl, HO.grown⟩

set_option maxHeartbeats 4000000 in
set_option maxRecDepth 100000 in
theorem noZero_any {W : World} {q : Value} (h : NoneAt W q) : Calls Try.prog 14 #[q] W fun e w' => e = .returned (.bool false) ∧ Below W.heap.size W w' := by
  have HO := Own.start W
  have N := fun w (hb : Below W.heap.size W w) => noneNo_any (h.below hb)
  clear h
  go_enter Try.func14, Try.ntmps14
  go_wp2_with (first | (first | ((with_reducible apply wpList_boxAgg _ HO rfl); exact rfl; exact rfl; exact rfl; clear HO; intro b3 w HO; (simp only [Act.put, List.setIfInBounds_toArray, List.set_cons_succ, List.set_cons_zero])) | ((with_reducible apply wpList_allocAgg _ HO rfl); exact rfl; infer_instance; exact rfl; clear HO; intro b3 w HO; (simp only [Act.put, List.setIfInBounds_toArray, List.set_cons_succ, List.set_cons_zero]))) | (go_at_call 21; go_must ((with_reducible refine (N _ HO.grown).mono ?_); rintro e w ⟨rfl, hb⟩; replace HO := HO.call hb; clear hb)))
  go_ret
  exact ⟨rfl, HO.grown⟩

set_option maxHeartbeats 4000000 in
set_option maxRecDepth 100000 in
theorem noMany_any {W : World} {q : Value} (h : NoneAt W q) : Calls Try.prog 15 #[q] W fun e w' => e = .returned (.int .i64 0) ∧ Below W.heap.size W w' := by
  have HO := Own.start W
  have N := fun w (hb : Below W.heap.size W w) => noneNo_any (h.below hb)
  clear h
  go_enter Try.func15, Try.ntmps15
  go_wp2_with (first | (first | ((with_reducible apply wpList_boxAgg _ HO rfl); exact rfl; exact rfl; exact rfl; clear HO; intro b3 w HO; (simp only [Act.put, List.setIfInBounds_toArray, List.set_cons_succ, List.set_cons_zero])) | ((with_reducible apply wpList_allocAgg _ HO rfl); exact rfl; infer_instance; exact rfl; clear HO; intro b3 w HO; (simp only [Act.put, List.setIfInBounds_toArray, List.set_cons_succ, List.set_cons_zero]))) | (go_at_call 21; go_must ((with_reducible refine (N _ HO.grown).mono ?_); rintro e w ⟨rfl, hb⟩; replace HO := HO.call hb; clear hb)))
  go_ret
  exact ⟨rfl, HO.grown⟩

set_option maxHeartbeats 4000000 in
set_option maxRecDepth 100000 in
theorem noList_any {W : World} {q : Value} (h : NoneAt W q) : Calls Try.prog 18 #[q] W fun e w' => e = .returned (.slice none 0 0) ∧ Below W.heap.size W w' := by
  have HO := Own.start W
  have N := fun w (hb : Below W.heap.size W w) => noneNo_any (h.below hb)
  clear h
  go_enter Try.func18, Try.ntmps18
  go_wp2_with (first | (first | ((with_reducible apply wpList_boxAgg _ HO rfl); exact rfl; exact rfl; exact rfl; clear HO; intro b3 w HO; (simp only [Act.put, List.setIfInBounds_toArray, List.set_cons_succ, List.set_cons_zero])) | ((with_reducible apply wpList_allocAgg _ HO rfl); exact rfl; infer_instance; exact rfl; clear HO; intro b3 w HO; (simp only [Act.put, List.setIfInBounds_toArray, List.set_cons_succ, List.set_cons_zero]))) | (go_at_call 21; go_must ((with_reducible refine (N _ HO.grown).mono ?_); rintro e w ⟨rfl, hb⟩; replace HO := HO.call hb; clear hb)))
  go_ret
  exact ⟨rfl, HO.grown⟩

set_option maxHeartbeats 4000000 in
set_option maxRecDepth 100000 in
theorem noCopy_any {W : World} {q : Value} (h : NoneAt W q) : Calls Try.prog 20 #[q] W fun e w' => e = .returned (.pointer none) ∧ Below W.heap.size W w' := by
  have HO := Own.start W
  have N := fun w (hb : Below W.heap.size W w) => noneNo_any (h.below hb)
  clear h
  go_enter Try.func20, Try.ntmps20
  go_wp2_with (first | (first | ((with_reducible apply wpList_boxAgg _ HO rfl); exact rfl; exact rfl; exact rfl; clear HO; intro b3 w HO; (simp only [Act.put, List.setIfInBounds_toArray, List.set_cons_succ, List.set_cons_zero])) | ((with_reducible apply wpList_allocAgg _ HO rfl); exact rfl; infer_instance; exact rfl; clear HO; intro b3 w HO; (simp only [Act.put, List.setIfInBounds_toArray, List.set_cons_succ, List.set_cons_zero]))) | (go_at_call 21; go_must ((with_reducible refine (N _ HO.grown).mono ?_); rintro e w ⟨rfl, hb⟩; replace HO := HO.call hb; clear hb)))
  go_ret
  exact ⟨rfl, HO.grown⟩

set_option maxHeartbeats 16000000 in
set_option maxRecDepth 100000 in
theorem booksNone_any (p : Pst) (n o : Int) (W : World) : Calls Try.prog 6 #[pstV p, .int .i64 n, .int .i64 o] W fun e w' => e = .returned (.bool true) ∧ Below W.heap.size W w' := by
  have HO := Own.start W
  have NP := fun (q : Value) (w : World) (h : NoneAt w q) => noPost_any h p
  have NB := fun (q : Value) (w : World) (h : NoneAt w q) => noBal_any h n o
  have NZ := fun (q : Value) (w : World) (h : NoneAt w q) => noZero_any h
  have NM := fun (q : Value) (w : World) (h : NoneAt w q) => noMany_any h
  have NL := fun (q : Value) (w : World) (h : NoneAt w q) => noList_any h
  have NC := fun (q : Value) (w : World) (h : NoneAt w q) => noCopy_any h
  have HP2 := fun (b : Nat) => NP (.pointer (some ⟨b, 0, none⟩))
  obtain ⟨id, o1, d, c, a⟩ := p
  simp only [pstV, pstC] at *
  replace NP := NP (.pointer none)
  replace NB := NB (.pointer none)
  replace NZ := NZ (.pointer none)
  replace NM := NM (.pointer none)
  replace NL := NL (.pointer none)
  replace NC := NC (.pointer none)
  have PO := fun w => posted_any w
  go_enter Try.func6, Try.ntmps6
  go_wp2_with (first | (first | ((with_reducible apply wpList_boxAgg _ HO rfl); exact rfl; exact rfl; exact rfl; clear HO; intro b3 w HO; (simp only [Act.put, List.setIfInBounds_toArray, List.set_cons_succ, List.set_cons_zero])) | ((with_reducible apply wpList_allocAgg _ HO rfl); exact rfl; infer_instance; exact rfl; clear HO; intro b3 w HO; (simp only [Act.put, List.setIfInBounds_toArray, List.set_cons_succ, List.set_cons_zero]))))
  refine wp_loop_rounds 3 ?_
  rw [rounds_succ]
  go_wp2_with (first | (first | go_big_skip | ((with_reducible apply wpList_loadAll HO); exact rfl; exact rfl; (repeat (with_reducible (first | exact At.head _ | apply At.tail))); infer_instance; exact rfl; exact rfl; (simp only [Act.put, List.setIfInBounds_toArray, List.set_cons_succ, List.set_cons_zero])) | ((with_reducible apply wpList_loadOne HO); exact rfl; exact rfl; (repeat (with_reducible (first | exact At.head _ | apply At.tail))); exact rfl; infer_instance; exact rfl; (simp only [Act.put, List.setIfInBounds_toArray, List.set_cons_succ, List.set_cons_zero]))) | (first | ((with_reducible apply wpList_boxAgg _ HO rfl); exact rfl; exact rfl; exact rfl; clear HO; intro b4 w HO; (simp only [Act.put, List.setIfInBounds_toArray, List.set_cons_succ, List.set_cons_zero])) | ((with_reducible apply wpList_allocAgg _ HO rfl); exact rfl; infer_instance; exact rfl; clear HO; intro b4 w HO; (simp only [Act.put, List.setIfInBounds_toArray, List.set_cons_succ, List.set_cons_zero]))) | (go_at_call 11; go_must ((with_reducible refine (NP _ .nil).mono ?_); rintro e w ⟨rfl, hb⟩; replace HO := HO.call hb; clear hb)) | (go_at_call 13; go_must ((with_reducible refine (NB _ .nil).mono ?_); rintro e w ⟨rfl, hb⟩; replace HO := HO.call hb; clear hb)) | (go_at_call 14; go_must ((with_reducible refine (NZ _ .nil).mono ?_); rintro e w ⟨rfl, hb⟩; replace HO := HO.call hb; clear hb)) | (go_at_call 15; go_must ((with_reducible refine (NM _ .nil).mono ?_); rintro e w ⟨rfl, hb⟩; replace HO := HO.call hb; clear hb)) | (go_at_call 18; go_must ((with_reducible refine (NL _ .nil).mono ?_); rintro e w ⟨rfl, hb⟩; replace HO := HO.call hb; clear hb)) | (go_at_call 20; go_must ((with_reducible refine (NC _ .nil).mono ?_); rintro e w ⟨rfl, hb⟩; replace HO := HO.call hb; clear hb)))
  rw [rounds_succ]
  go_wp2_with (first | (first | go_big_skip | ((with_reducible apply wpList_loadAll HO); exact rfl; exact rfl; (repeat (with_reducible (first | exact At.head _ | apply At.tail))); infer_instance; exact rfl; exact rfl; (simp only [Act.put, List.setIfInBounds_toArray, List.set_cons_succ, List.set_cons_zero])) | ((with_reducible apply wpList_loadOne HO); exact rfl; exact rfl; (repeat (with_reducible (first | exact At.head _ | apply At.tail))); exact rfl; infer_instance; exact rfl; (simp only [Act.put, List.setIfInBounds_toArray, List.set_cons_succ, List.set_cons_zero]))) | (first | ((with_reducible apply wpList_boxAgg _ HO rfl); exact rfl; exact rfl; exact rfl; clear HO; intro b5 w HO; (simp only [Act.put, List.setIfInBounds_toArray, List.set_cons_succ, List.set_cons_zero])) | ((with_reducible apply wpList_allocAgg _ HO rfl); exact rfl; infer_instance; exact rfl; clear HO; intro b5 w HO; (simp only [Act.put, List.setIfInBounds_toArray, List.set_cons_succ, List.set_cons_zero]))) | (go_at_call 11; go_must ((with_reducible refine (HP2 _ _ (.no _ _ (HO.boxAt (by repeat (first | exact List.mem_cons_self | apply List.mem_cons_of_mem))))).mono ?_); rintro e w ⟨rfl, hb⟩; replace HO := HO.call hb; clear hb)) | (go_at_call 13; go_must ((with_reducible refine ((noBal_any (.no _ _ (HO.boxAt (by repeat (first | exact List.mem_cons_self | apply List.mem_cons_of_mem)))) n o)).mono ?_); rintro e w ⟨rfl, hb⟩; replace HO := HO.call hb; clear hb)) | (go_at_call 14; go_must ((with_reducible refine ((noZero_any (.no _ _ (HO.boxAt (by repeat (first | exact List.mem_cons_self | apply List.mem_cons_of_mem)))))).mono ?_); rintro e w ⟨rfl, hb⟩; replace HO := HO.call hb; clear hb)) | (go_at_call 15; go_must ((with_reducible refine ((noMany_any (.no _ _ (HO.boxAt (by repeat (first | exact List.mem_cons_self | apply List.mem_cons_of_mem)))))).mono ?_); rintro e w ⟨rfl, hb⟩; replace HO := HO.call hb; clear hb)) | (go_at_call 18; go_must ((with_reducible refine ((noList_any (.no _ _ (HO.boxAt (by repeat (first | exact List.mem_cons_self | apply List.mem_cons_of_mem)))))).mono ?_); rintro e w ⟨rfl, hb⟩; replace HO := HO.call hb; clear hb)) | (go_at_call 20; go_must ((with_reducible refine ((noCopy_any (.no _ _ (HO.boxAt (by repeat (first | exact List.mem_cons_self | apply List.mem_cons_of_mem)))))).mono ?_); rintro e w ⟨rfl, hb⟩; replace HO := HO.call hb; clear hb)))
  rw [rounds_succ]
  go_wp2_with (first | (go_at_call 9; go_must ((with_reducible refine (PO _).mono ?_); rintro e w ⟨rfl, hb⟩; replace HO := HO.call hb; clear hb)))
  go_ret
  exact ⟨rfl, HO.grown⟩
end Go.Proofs.Ythiokpjakiidjaa

/-
  DeskNone, by walking the law's text; conditions: the act is one that comes, the laid tables.
-/
import Derived.Test.YtibabfedpdoofaaGreatDoorQa1
import Derived.Test.YtibabfedpdoofaaGreatDoorQc2
namespace Go.Proofs.YtibabfedpdoofaaGreatDoor
open Go.RowKit Go.Own Go.Maps

set_option maxHeartbeats 4000000 in
set_option maxRecDepth 100000 in
theorem dkPropNil_any {d : Value} {w : World} (N : ∀ w', Below w.heap.size w w' → Calls Tryz.prog 101 #[d] w' fun e w'' => e = .returned (.bool true) ∧ Below w'.heap.size w' w'') (c : Value) (b : ByteArray) (o a s : Int) : Calls Tryz.prog 42 #[d, c, .agg #[.string b, .int .i64 o, .int .i64 a, .int .i64 s]] w fun e w' => e = .returned (.tuple #[.int .i64 0, .int .i64 1]) ∧ Below w.heap.size w w' := by
  have HO := Own.start w
  obtain ⟨W, hW⟩ : ∃ W, W = w := ⟨_, rfl⟩
  subst hW
  go_enter Tryz.func42, Tryz.ntmps42
  go_wp2_with (first | go_big_skip | (first | ((with_reducible apply wpList_boxAgg _ HO rfl); exact rfl; exact rfl; exact rfl; clear HO; intro b5 w HO; (simp only [Act.put, zA, zB, zC])) | ((with_reducible apply wpList_allocAgg _ HO rfl); exact rfl; infer_instance; exact rfl; clear HO; intro b5 w HO; (simp only [Act.put, zA, zB, zC]))) | (go_at_call 101; go_must ((with_reducible refine (N _ HO.grown).mono ?_); rintro e w ⟨rfl, hb⟩; replace HO := HO.call hb; clear hb)))
  go_ret2
  exact ⟨rfl, HO.grown⟩
set_option maxHeartbeats 4000000 in
set_option maxRecDepth 100000 in
theorem dkApprNil_any {d : Value} {w : World} (N : ∀ w', Below w.heap.size w w' → Calls Tryz.prog 101 #[d] w' fun e w'' => e = .returned (.bool true) ∧ Below w'.heap.size w' w'') (c : Value) (b : ByteArray) (n : Int) : Calls Tryz.prog 47 #[d, c, .string b, .int .i64 n] w fun e w' => e = .returned (.int .i64 1) ∧ Below w.heap.size w w' := by
  have HO := Own.start w
  have PN := dkPendNil_any (fun w' hb => N w' hb) b n
  go_enter Tryz.func47, Tryz.ntmps47
  go_wp2_with (first | go_big_skip | (go_at_call 107; go_must ((with_reducible refine (PN).mono ?_); rintro e w ⟨rfl, hb⟩; replace HO := HO.call hb; clear hb)))
  go_ret
  exact ⟨rfl, HO.grown⟩
theorem coNewB_any (w : World) : Calls Tryz.prog 25 #[] w fun e w' => ∃ c : Nat, e = .returned (.pointer (some ⟨c, 0, none⟩)) ∧ Below w.heap.size w w' := (coNew_any w).mono fun e w' h => by
  obtain ⟨a, he, hO⟩ := h
  exact ⟨a.c, he, hO.grown⟩
theorem dkItemNil2_any {d : Value} {w : World} (N : ∀ w', Below w.heap.size w w' → Calls Tryz.prog 101 #[d] w' fun e w'' => e = .returned (.bool true) ∧ Below w'.heap.size w' w'') (n : Int) : Calls Tryz.prog 46 #[d, .int .i64 n] w fun e w' => e = .returned (.tuple #[.agg #[.string ⟨#[]⟩, .int .i64 0, .int .i64 0, .int .i64 0], .bool false]) ∧ Below w.heap.size w w' := dkItemNil_any N n
theorem one_acts {W w : World} {v : Value} {x : ActI} {L : List Ent} (hO : Own W w (row 86 19 v [actC x] :: L)) (hx : ActOk W x) : IsActs w v [x] :=
  ⟨isL_of_owns (fun y hy => by rw [List.mem_singleton.1 hy]; rfl) (hO.has _ List.mem_cons_self), fun y hy => by rw [List.mem_singleton.1 hy]; exact hx.below hO.grown⟩

set_option maxHeartbeats 32000000 in
set_option maxRecDepth 100000 in
theorem deskNone_any {W : World} (x : ActI) (hx : ActOk W x) (hL : LaidE W) : Calls Tryz.prog 7 #[.agg (actC x).toArray] W fun e w' => e = .returned (.bool true) ∧ Below W.heap.size W w' := by
  have HO := Own.start W
  have AD := fun (w : World) (hb : Below W.heap.size W w) => signed_any w (hL.below hb)
  have GR := fun (w : World) (v : Value) (h : IsActs w v [x]) => great32_any 1 h
  have HX := Lib.hid hx
  have CN := fun (w : World) => coNewB_any w
  clear hx
  obtain ⟨xk, xb, xn, ⟨ib, io, ia, is⟩, ⟨ex, ev⟩⟩ := x
  have hA : actC ⟨xk, xb, xn, ⟨ib, io, ia, is⟩, ⟨ex, ev⟩⟩ = [.int .u8 (xk : Int), .string ⟨xb.toArray⟩, .int .i64 xn, .string ⟨ib.toArray⟩, .int .i64 io, .int .i64 ia, .int .i64 is, .int .i64 ex.k, .int .i64 ex.id, .string ⟨ex.ref.toArray⟩, .string ⟨ex.sku.toArray⟩, .int .i64 ex.qty, .int .i64 ex.amt, .int .i64 ex.o, .int .i64 ex.d, .int .i64 ex.c, .int .i64 ex.p, .int .i64 ex.q, ev] := rfl
  rw [hA]
  have hone : ev.oneCell' = true := by
    obtain ⟨p, c, hv, -⟩ := HX.out.r.slice
    simp only at hv
    rw [hv]; rfl
  cases hg : greatA [⟨xk, xb, xn, ⟨ib, io, ia, is⟩, ⟨ex, ev⟩⟩] 1
  rotate_left
  · rw [hg] at GR
    clear hg CN
    replace hA := Lib.hid hA
    go_enter Tryz.func7, Tryz.ntmps7
    go_wp2_with (first | go_big_skip | (first | go_big_skip | ((with_reducible apply wpList_loadAll HO); exact rfl; exact rfl; (repeat (with_reducible (first | exact At.head _ | apply At.tail))); infer_instance; exact rfl; exact rfl; (simp only [Act.put, zA, zB, zC])) | ((with_reducible apply wpList_loadOne HO); exact rfl; exact rfl; (repeat (with_reducible (first | exact At.head _ | apply At.tail))); exact rfl; infer_instance; exact rfl; (simp only [Act.put, zA, zB, zC]))) | (first | ((with_reducible apply wpList_boxAgg _ HO rfl); exact rfl; exact rfl; exact rfl; clear HO; intro b1 w HO; (simp only [Act.put, zA, zB, zC])) | ((with_reducible apply wpList_allocAgg _ HO rfl); exact rfl; infer_instance; exact rfl; clear HO; intro b1 w HO; (simp only [Act.put, zA, zB, zC]))) | (first | ((with_reducible apply wpList_lit1 HO); exact rfl; infer_instance; infer_instance; exact rfl; exact rfl; exact (by decide); exact rfl; clear HO; intro bl w HO; (simp only [Act.put, zA, zB, zC])) | ((with_reducible apply wpList_lit1c HO); exact rfl; infer_instance; infer_instance; (first | (simp [Act.eval]; rfl) | exact rfl); exact rfl; exact rfl; clear HO; intro bl w HO; (simp only [Act.put, zA, zB, zC]))) | (go_at_call 45; go_must ((have HO2 : Own W w (row 86 19 (.slice (some ⟨bl, 0, none⟩) 1 1) [actC ⟨xk, xb, xn, ⟨ib, io, ia, is⟩, ⟨ex, ev⟩⟩] :: _) := HO.litRow (A := [actC ⟨xk, xb, xn, ⟨ib, io, ia, is⟩, ⟨ex, ev⟩⟩]) (k := 19) (fun x hx => by rw [List.mem_singleton.1 hx]; rfl) rfl rfl (show (1 : Nat) ≤ maxLen by unfold maxLen; omega)); (with_reducible refine (GR _ _ (one_acts HO2 HX.out)).mono ?_); clear HO2; rintro e w ⟨rfl, hb⟩; replace HO := HO.call hb; clear hb)) | (go_at_call 39; go_must ((with_reducible refine (AD _ HO.grown).mono ?_); rintro e w ⟨rfl, hb⟩; replace HO := HO.call hb; clear hb)))
    go_ret
    exact ⟨rfl, HO.grown⟩
  rw [hg] at GR
  clear hg
  replace hA := Lib.hid hA
  go_enter Tryz.func7, Tryz.ntmps7
  go_wp2_with (first | go_big_skip | (first | go_big_skip | ((with_reducible apply wpList_loadAll HO); exact rfl; exact rfl; (repeat (with_reducible (first | exact At.head _ | apply At.tail))); infer_instance; exact rfl; exact rfl; (simp only [Act.put, zA, zB, zC])) | ((with_reducible apply wpList_loadOne HO); exact rfl; exact rfl; (repeat (with_reducible (first | exact At.head _ | apply At.tail))); exact rfl; infer_instance; exact rfl; (simp only [Act.put, zA, zB, zC]))) | (first | ((with_reducible apply wpList_boxAgg _ HO rfl); exact rfl; exact rfl; exact rfl; clear HO; intro b1 w HO; (simp only [Act.put, zA, zB, zC])) | ((with_reducible apply wpList_allocAgg _ HO rfl); exact rfl; infer_instance; exact rfl; clear HO; intro b1 w HO; (simp only [Act.put, zA, zB, zC]))) | (first | ((with_reducible apply wpList_lit1 HO); exact rfl; infer_instance; infer_instance; exact rfl; exact rfl; exact (by decide); exact rfl; clear HO; intro bl w HO; (simp only [Act.put, zA, zB, zC])) | ((with_reducible apply wpList_lit1c HO); exact rfl; infer_instance; infer_instance; (first | (simp [Act.eval]; rfl) | exact rfl); exact rfl; exact rfl; clear HO; intro bl w HO; (simp only [Act.put, zA, zB, zC]))) | (go_at_call 45; go_must ((have HO2 : Own W w (row 86 19 (.slice (some ⟨bl, 0, none⟩) 1 1) [actC ⟨xk, xb, xn, ⟨ib, io, ia, is⟩, ⟨ex, ev⟩⟩] :: _) := HO.litRow (A := [actC ⟨xk, xb, xn, ⟨ib, io, ia, is⟩, ⟨ex, ev⟩⟩]) (k := 19) (fun x hx => by rw [List.mem_singleton.1 hx]; rfl) rfl rfl (show (1 : Nat) ≤ maxLen by unfold maxLen; omega)); (with_reducible refine (GR _ _ (one_acts HO2 HX.out)).mono ?_); clear HO2; rintro e w ⟨rfl, hb⟩; replace HO := HO.call hb; clear hb)))
  replace HO := HO.tail
  have hN0 : ∀ w', (∀ e ∈ ([] : List Ent), e.F w') → Calls Tryz.prog 101 #[.pointer none] w' fun e w'' => e = .returned (.bool true) ∧ Below w'.heap.size w' w'' := fun w' _ => dkNoneNil_any w'
  go_loopw [3, 4] (fun dv tv wr => ∃ (k : Nat) (Z : List Ent), k ≤ 2 ∧ tv = .int .i64 (k : Int) ∧ dv.oneCell' = true ∧ (∀ w', (∀ e ∈ Z, e.F w') → Calls Tryz.prog 101 #[dv] w' fun e w'' => e = .returned (.bool true) ∧ Below w'.heap.size w' w'') ∧ Own W wr (box b1 (.cells #[.int .u8 (xk : Int), .string ⟨xb.toArray⟩, .int .i64 xn, .string ⟨ib.toArray⟩, .int .i64 io, .int .i64 ia, .int .i64 is, .int .i64 ex.k, .int .i64 ex.id, .string ⟨ex.ref.toArray⟩, .string ⟨ex.sku.toArray⟩, .int .i64 ex.qty, .int .i64 ex.amt, .int .i64 ex.o, .int .i64 ex.d, .int .i64 ex.c, .int .i64 ex.p, .int .i64 ex.q, ev] 86) :: Z)) (fun _ tv _ => 2 - (intOf tv).toNat)
  case atStart => exact ⟨0, [], by omega, rfl, rfl, hN0, HO⟩
  case round =>
    clear HO hN0
    obtain ⟨k, Z, hk, rfl, hd1, hN, HO⟩ := hrel
    by_cases hk2 : k < 2
    rotate_left
    · have hkI : ¬ ((k : Int) < 2) := by omega
      go_wp2_with (first | go_big_skip | (go_at_call 39; go_must ((with_reducible refine (AD _ HO.grown).mono ?_); rintro e w ⟨rfl, hb⟩; replace HO := HO.call hb; clear hb)))
      go_ret
      exact ⟨rfl, HO.grown⟩
    have hkI : (k : Int) < 2 := by omega
    have NF := Lib.hid (fun (w : World) (X : List Ent) (h : Own W w (X ++ Z)) => fun w' (hb : Below w.heap.size w w') => hN w' (fun e he => (h.call hb).has e (List.mem_append_right _ he)))
    replace hN := Lib.hid hN
    go_upto_region 7 with (first | go_big_skip)
    refine region_sched2 ([box b1 (.cells #[.int .u8 (xk : Int), .string ⟨xb.toArray⟩, .int .i64 xn, .string ⟨ib.toArray⟩, .int .i64 io, .int .i64 ia, .int .i64 is, .int .i64 ex.k, .int .i64 ex.id, .string ⟨ex.ref.toArray⟩, .string ⟨ex.sku.toArray⟩, .int .i64 ex.qty, .int .i64 ex.amt, .int .i64 ex.o, .int .i64 ex.d, .int .i64 ex.c, .int .i64 ex.p, .int .i64 ex.q, ev] 86)]) [(0, true), (2, true), (3, true), (1, false), (4, false), (5, true), (6, true), (7, true), (8, true), (9, true)] HO (by with_reducible (repeat (first | exact List.nil_sublist _ | apply List.Sublist.cons_cons | apply List.Sublist.cons))) (by kernel_rfl) (by kernel_rfl) ?_
    clear HO
    intro w HO
    repeat (first | ((with_reducible apply wpSched_loadPart); exact rfl; exact rfl; (first | (simp [Act.eval]; rfl) | exact rfl); (repeat (with_reducible (first | exact At.head _ | apply At.tail))); infer_instance; exact (Nat.le_of_ble_eq_true rfl); (simp only [List.drop_succ_cons, List.drop_zero, List.take_succ_cons, List.take_zero]; rfl); exact rfl; (simp only [Act.put, zA, zB, zC])) | ((with_reducible apply wpSched_loadOne); exact rfl; exact rfl; exact rfl; (repeat (with_reducible (first | exact At.head _ | apply At.tail))); exact rfl; infer_instance; exact rfl; (simp only [Act.put, zA, zB, zC])) | ((with_reducible apply wpSched_loadAll); exact rfl; exact rfl; exact rfl; (repeat (with_reducible (first | exact At.head _ | apply At.tail))); infer_instance; exact rfl; exact rfl; (simp only [Act.put, zA, zB, zC])) | ((with_reducible apply wpSched_pure); exact rfl; exact rfl; (intro w'; go_simp; try with_reducible rfl); (simp only [Act.put, zA, zB, zC])))
    ((with_reducible apply wpSched_loud); exact rfl; go_wp2_with ((go_at_call 25; go_must ((with_reducible refine (CN _).mono ?_); rintro e w ⟨a9, rfl, hb⟩; replace HO := HO.call hb; clear hb))))
    refine thenQ_keep (HO.held (by with_reducible (repeat (first | exact List.nil_sublist _ | apply List.Sublist.cons_cons | apply List.Sublist.cons)))) ?_
    ((with_reducible apply wpSched_loud); exact rfl; go_wp2_with ((go_at_call 42; go_must ((with_reducible refine (dkPropNil_any (NF.out _ [_] HO) _ _ _ _ _).mono ?_); rintro e w ⟨rfl, hb⟩; replace HO := HO.call hb; clear hb))))
    refine thenQ_keep (HO.held (by with_reducible (repeat (first | exact List.nil_sublist _ | apply List.Sublist.cons_cons | apply List.Sublist.cons)))) ?_
    repeat (first | ((with_reducible apply wpSched_pure); exact rfl; exact rfl; (intro w'; go_simp; try with_reducible rfl); (simp only [Act.put, zA, zB, zC])))
    refine wpSched_end ?_
    go_upto_region 9 with (first | go_big_skip | (first | go_big_skip | ((with_reducible apply wpList_loadAll HO); exact rfl; exact rfl; (repeat (with_reducible (first | exact At.head _ | apply At.tail))); infer_instance; exact rfl; exact rfl; (simp only [Act.put, zA, zB, zC])) | ((with_reducible apply wpList_loadOne HO); exact rfl; exact rfl; (repeat (with_reducible (first | exact At.head _ | apply At.tail))); exact rfl; infer_instance; exact rfl; (simp only [Act.put, zA, zB, zC]))) | ((with_reducible apply wpList_storeAll HO); exact rfl; exact rfl; exact rfl; (repeat (with_reducible (first | exact At.head _ | apply At.tail))); infer_instance; exact rfl; exact rfl; exact rfl; exact rfl; clear HO; intro w HO; (simp only [Act.put])) | (first | ((with_reducible apply wpList_boxAgg _ HO rfl); exact rfl; exact rfl; exact rfl; clear HO; intro b7 w HO; (simp only [Act.put, zA, zB, zC])) | ((with_reducible apply wpList_allocAgg _ HO rfl); exact rfl; infer_instance; exact rfl; clear HO; intro b7 w HO; (simp only [Act.put, zA, zB, zC]))) | (go_at_call 46; go_must ((with_reducible refine (dkItemNil2_any (NF.out _ [_] HO) _).mono ?_); rintro e w ⟨rfl, hb⟩; replace HO := HO.call hb; clear hb)))
    replace HO := HO.tail
    refine region_sched2 ([box b1 (.cells #[.int .u8 (xk : Int), .string ⟨xb.toArray⟩, .int .i64 xn, .string ⟨ib.toArray⟩, .int .i64 io, .int .i64 ia, .int .i64 is, .int .i64 ex.k, .int .i64 ex.id, .string ⟨ex.ref.toArray⟩, .string ⟨ex.sku.toArray⟩, .int .i64 ex.qty, .int .i64 ex.amt, .int .i64 ex.o, .int .i64 ex.d, .int .i64 ex.c, .int .i64 ex.p, .int .i64 ex.q, ev] 86)]) [(0, true), (2, true), (3, true), (1, false), (4, false), (5, true), (6, true), (7, true), (8, true), (9, true)] HO (by with_reducible (repeat (first | exact List.nil_sublist _ | apply List.Sublist.cons_cons | apply List.Sublist.cons))) (by kernel_rfl) (by kernel_rfl) ?_
    clear HO
    intro w HO
    repeat (first | ((with_reducible apply wpSched_loadPart); exact rfl; exact rfl; (first | (simp [Act.eval]; rfl) | exact rfl); (repeat (with_reducible (first | exact At.head _ | apply At.tail))); infer_instance; exact (Nat.le_of_ble_eq_true rfl); (simp only [List.drop_succ_cons, List.drop_zero, List.take_succ_cons, List.take_zero]; rfl); exact rfl; (simp only [Act.put, zA, zB, zC])) | ((with_reducible apply wpSched_loadOne); exact rfl; exact rfl; exact rfl; (repeat (with_reducible (first | exact At.head _ | apply At.tail))); exact rfl; infer_instance; exact rfl; (simp only [Act.put, zA, zB, zC])) | ((with_reducible apply wpSched_loadAll); exact rfl; exact rfl; exact rfl; (repeat (with_reducible (first | exact At.head _ | apply At.tail))); infer_instance; exact rfl; exact rfl; (simp only [Act.put, zA, zB, zC])) | ((with_reducible apply wpSched_pure); exact rfl; exact rfl; (intro w'; go_simp; try with_reducible rfl); (simp only [Act.put, zA, zB, zC])))
    ((with_reducible apply wpSched_loud); exact rfl; go_wp2_with ((go_at_call 25; go_must ((with_reducible refine (CN _).mono ?_); rintro e w ⟨a9, rfl, hb⟩; replace HO := HO.call hb; clear hb))))
    refine thenQ_keep (HO.held (by with_reducible (repeat (first | exact List.nil_sublist _ | apply List.Sublist.cons_cons | apply List.Sublist.cons)))) ?_
    ((with_reducible apply wpSched_loud); exact rfl; go_wp2_with ((go_at_call 41; go_must ((with_reducible refine (dkOpenNil_any (NF.out _ [_] HO) _ _).mono ?_); rintro e w ⟨rfl, hb⟩; replace HO := HO.call hb; clear hb))))
    refine thenQ_keep (HO.held (by with_reducible (repeat (first | exact List.nil_sublist _ | apply List.Sublist.cons_cons | apply List.Sublist.cons)))) ?_
    repeat (first | ((with_reducible apply wpSched_pure); exact rfl; exact rfl; (intro w'; go_simp; try with_reducible rfl); (simp only [Act.put, zA, zB, zC])))
    refine wpSched_end ?_
    go_wp2_with (first | go_big_skip | (first | go_big_skip | ((with_reducible apply wpList_loadAll HO); exact rfl; exact rfl; (repeat (with_reducible (first | exact At.head _ | apply At.tail))); infer_instance; exact rfl; exact rfl; (simp only [Act.put, zA, zB, zC])) | ((with_reducible apply wpList_loadOne HO); exact rfl; exact rfl; (repeat (with_reducible (first | exact At.head _ | apply At.tail))); exact rfl; infer_instance; exact rfl; (simp only [Act.put, zA, zB, zC]))) | (first | ((with_reducible apply wpList_boxAgg _ HO rfl); exact rfl; exact rfl; exact rfl; clear HO; intro b8 w HO; (simp only [Act.put, zA, zB, zC])) | ((with_reducible apply wpList_allocAgg _ HO rfl); exact rfl; infer_instance; exact rfl; clear HO; intro b8 w HO; (simp only [Act.put, zA, zB, zC]))) | (go_at_call 47; go_must ((with_reducible refine (dkApprNil_any (NF.out _ [_] HO) _ _ _).mono ?_); rintro e w ⟨rfl, hb⟩; replace HO := HO.call hb; clear hb)) | (go_at_call 44; go_must ((with_reducible refine (dkRefuseNil_any (NF.out _ [_] HO) _ _).mono ?_); rintro e w ⟨rfl, hb⟩; replace HO := HO.call hb; clear hb)) | (go_at_call 43; go_must ((with_reducible refine (dkManyNil_any (NF.out _ [_] HO)).mono ?_); rintro e w ⟨rfl, hb⟩; replace HO := HO.call hb; clear hb)) | (go_at_call 48; go_must ((with_reducible refine (dkBooksNil_any (NF.out _ [_] HO)).mono ?_); rintro e w ⟨rfl, hb⟩; replace HO := HO.call hb; clear hb)))
    go_roundw
    case rel => exact ⟨k + 1, [box b8 (.cells #[.slice none 0 0, .pointer none] 96)], by omega, by go_num, rfl, (fun w' hF => dkNoneNo_any (hF _ (.head _))), (HO.swap.sub (.cons_cons _ (.cons_cons _ (List.nil_sublist _))))⟩
    case measure => simp [intOf] <;> omega
end Go.Proofs.YtibabfedpdoofaaGreatDoor

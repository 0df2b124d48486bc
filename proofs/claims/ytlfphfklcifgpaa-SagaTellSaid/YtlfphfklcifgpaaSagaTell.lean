/-
  The law SagaTell returns true, by walking its text; conditions: texts no longer than memory bears.
-/
import Derived.Test.YtlfphfklcifgpaaSagaVr
import Derived.Test.YtlfphfklcifgpaaSagaDn
import Derived.Test.YtlfphfklcifgpaaSagaLed
namespace Go.Proofs.Ytlfphfklcifgpaa
open Go.RowKit Go.Own

theorem stopV_form (o : OrdS) (r : Option D6) : ∃ (o' : OrdS) (s' : D6) (e : Int), stopV o r = .tuple #[.agg (sagaCs o' s').toArray, .int .i64 e] := by
  cases r with
  | none => exact ⟨⟨0, [], [], 0, 0⟩, ⟨0, 0, 0, 0, 0, 0, false⟩, 92, rfl⟩
  | some t => exact ⟨o, t, 0, rfl⟩
theorem replyV_form (o : OrdS) (r : Option D6) : ∃ (o' : OrdS) (s' : D6) (b : Bool), replyV o r = .tuple #[.agg (sagaCs o' s').toArray, .bool b] := by
  cases r with
  | none => exact ⟨⟨0, [], [], 0, 0⟩, ⟨0, 0, 0, 0, 0, 0, false⟩, false, rfl⟩
  | some t => exact ⟨o, t, true, rfl⟩
theorem run_op_same {a : Act} {p : Oper} {x y : Operand} {T : TypeId} (o : OrdS) (s : D6) (ho : p.op = .binOp .neq 34 x y T) (hx : a.eval x = .agg (sagaCs o s).toArray) (hy : a.eval y = .agg (sagaCs o s).toArray) (w : World) :
    (execOp a.eval p).run Try.prog w = .ok (.value (.bool false)) w := by
  rw [run_op_neq o o s s ho hx hy, sagaEqB_self]; rfl
theorem run_op_same' {a : Act} {p : Oper} {x y : Operand} {T : TypeId} (o : OrdS) (s : D6) (ho : p.op = .binOp .eql 34 x y T) (hx : a.eval x = .agg (sagaCs o s).toArray) (hy : a.eval y = .agg (sagaCs o s).toArray) (w : World) :
    (execOp a.eval p).run Try.prog w = .ok (.value (.bool true)) w := by
  rw [run_op_eql o o s s ho hx hy, sagaEqB_self]

set_option maxHeartbeats 16000000 in
set_option maxRecDepth 100000 in
theorem sagaTell_any (o : OrdS) (s : D6) (deed code : Int) (W : World) (h1 : o.ref.length ≤ maxLen) (h2 : o.sku.length ≤ maxLen) :
    Calls Try.prog 4 #[sagaV o s, .int .i64 deed, .int .i64 code] W fun e w' => e = .returned (.bool true) ∧ Below W.heap.size W w' := by
  have X := fun w => waits_any o s w
  have Y := fun w => refWaits_any o s w
  have P := fun w => stop_any o s w
  have RP := fun w => refStop_any o s w
  have S := fun w => state_any o s w
  have RS := fun w => refState_any o s w
  have N := fun w => sagaNet_any o s w
  have RN := fun w => refSagaNet_any o s w
  have V := fun w => valid_any o s w h1 h2
  have RV := fun w => refValid_any o s w h1 h2
  have G := fun w => begin_any o w
  have RG := fun w => refBegin_any o w
  have O := fun w => led_any w
  have HR := Lib.hid (fun d c w => reply_any o s d c w)
  have HRR := Lib.hid (fun d c w => refReply_any o s d c w)
  obtain ⟨o', s', e', hs⟩ := stopV_form o (stopOf s)
  rw [hs] at P RP
  clear hs
  generalize waitsOf s = p at *
  obtain ⟨n, b⟩ := p
  generalize stateOf s = q at *
  generalize netS o s = m at *
  generalize validS o s = v at *
  simp only [sagaV_cs, ordV] at *
  (try simp only at X Y)
  unfold sagaCs at X Y P RP S RS N RN V RV HR HRR ⊢
  go_enter Try.func4, Try.ntmps4
  have HO := Own.start W
  go_wp2_with (first | (first | ((with_reducible apply wpList_boxAgg 0 HO rfl); exact rfl; exact rfl; exact rfl; clear HO; intro b0 w HO; (simp only [Act.put, List.setIfInBounds_toArray, List.set_cons_succ, List.set_cons_zero])) | ((with_reducible apply wpList_allocAgg 0 HO rfl); exact rfl; infer_instance; exact rfl; clear HO; intro b0 w HO; (simp only [Act.put, List.setIfInBounds_toArray, List.set_cons_succ, List.set_cons_zero]))) | (first | ((with_reducible apply wpList_boxAgg 1 HO rfl); exact rfl; exact rfl; exact rfl; clear HO; intro b1 w HO; (simp only [Act.put, List.setIfInBounds_toArray, List.set_cons_succ, List.set_cons_zero])) | ((with_reducible apply wpList_allocAgg 1 HO rfl); exact rfl; infer_instance; exact rfl; clear HO; intro b1 w HO; (simp only [Act.put, List.setIfInBounds_toArray, List.set_cons_succ, List.set_cons_zero]))) | (first | ((with_reducible apply wpList_boxAgg 2 HO rfl); exact rfl; exact rfl; exact rfl; clear HO; intro b2 w HO; (simp only [Act.put, List.setIfInBounds_toArray, List.set_cons_succ, List.set_cons_zero])) | ((with_reducible apply wpList_allocAgg 2 HO rfl); exact rfl; infer_instance; exact rfl; clear HO; intro b2 w HO; (simp only [Act.put, List.setIfInBounds_toArray, List.set_cons_succ, List.set_cons_zero]))) | (first | ((with_reducible apply wpList_boxAgg 3 HO rfl); exact rfl; exact rfl; exact rfl; clear HO; intro b3 w HO; (simp only [Act.put, List.setIfInBounds_toArray, List.set_cons_succ, List.set_cons_zero])) | ((with_reducible apply wpList_allocAgg 3 HO rfl); exact rfl; infer_instance; exact rfl; clear HO; intro b3 w HO; (simp only [Act.put, List.setIfInBounds_toArray, List.set_cons_succ, List.set_cons_zero]))) | (first | go_big_skip | ((with_reducible apply wpList_loadAll HO); exact rfl; exact rfl; (repeat (with_reducible (first | exact At.head _ | apply At.tail))); infer_instance; exact rfl; exact rfl; (simp only [Act.put, List.setIfInBounds_toArray, List.set_cons_succ, List.set_cons_zero])) | ((with_reducible apply wpList_loadOne HO); exact rfl; exact rfl; (repeat (with_reducible (first | exact At.head _ | apply At.tail))); exact rfl; infer_instance; exact rfl; (simp only [Act.put, List.setIfInBounds_toArray, List.set_cons_succ, List.set_cons_zero]))) | ((with_reducible apply wpList_storeAll HO); exact rfl; exact rfl; exact rfl; (repeat (with_reducible (first | exact At.head _ | apply At.tail))); infer_instance; exact rfl; exact rfl; exact rfl; exact rfl; clear HO; intro w HO; (simp only [Act.put, List.setIfInBounds_toArray, List.set_cons_succ, List.set_cons_zero])) | (go_at_call 6; go_must ((with_reducible refine (X _).mono ?_); rintro e w ⟨rfl, hb⟩; replace HO := HO.call hb; clear hb)) | (go_at_call 10; go_must ((with_reducible refine (Y _).mono ?_); rintro e w ⟨rfl, hb⟩; replace HO := HO.call hb; clear hb)) | (go_at_call 11; go_must ((with_reducible refine (P _).mono ?_); rintro e w ⟨rfl, hb⟩; replace HO := HO.call hb; clear hb)) | (go_at_call 12; go_must ((with_reducible refine (RP _).mono ?_); rintro e w ⟨rfl, hb⟩; replace HO := HO.call hb; clear hb)))
  refine region_own HO (by kernel_rfl) (by kernel_rfl) ?_
  clear HO
  intro F HF
  repeat (first | (first | go_big_quiet_skip | ((with_reducible apply wpQuiet_loadAll HF); exact rfl; exact rfl; (repeat (with_reducible (first | exact At.head _ | apply At.tail))); infer_instance; exact rfl; exact rfl; (simp only [Act.put, List.setIfInBounds_toArray, List.set_cons_succ, List.set_cons_zero])) | ((with_reducible apply wpQuiet_loadOne HF); exact rfl; exact rfl; (repeat (with_reducible (first | exact At.head _ | apply At.tail))); exact rfl; infer_instance; exact rfl; (simp only [Act.put, List.setIfInBounds_toArray, List.set_cons_succ, List.set_cons_zero])) | ((with_reducible apply wpQuiet_loadPart HF); exact rfl; exact rfl; (repeat (with_reducible (first | exact At.head _ | apply At.tail))); infer_instance; exact (Nat.le_of_ble_eq_true rfl); (simp only [List.drop_succ_cons, List.drop_zero, List.take_succ_cons, List.take_zero]; rfl); exact rfl; (simp only [Act.put, List.setIfInBounds_toArray, List.set_cons_succ, List.set_cons_zero]))) | ((with_reducible apply wpQuiet_pure); exact run_op_same o' s' rfl rfl rfl; exact rfl; (simp only [Act.put, List.setIfInBounds_toArray, List.set_cons_succ, List.set_cons_zero])) | go_big_quiet_step ((first | (go_at_call 13; (with_reducible exact calls_fam HF (S _))) | (go_at_call 14; (with_reducible exact calls_fam HF (RS _))) | (go_at_call 15; (with_reducible exact calls_fam HF (N _))) | (go_at_call 16; (with_reducible exact calls_fam HF (RN _))) | (go_at_call 8; (with_reducible exact calls_fam HF (V _))) | (go_at_call 17; (with_reducible exact calls_fam HF (RV _))))))
  refine wpQuiet_nil ?_
  intro x
  have HO := HF.own x
  clear HF
  generalize F x = w at *
  clear x F
  go_wp2_with fail
  go_loopw [16] (fun i wr => ∃ k : Int, -1 ≤ k ∧ k ≤ 7 ∧ i = .int .i64 k ∧ Own W wr [box b3 (.cells (sagaCs o' s').toArray 34), box b2 (.cells (sagaCs o' s').toArray 26), box b1 (.cells #[.int .i64 o.id, .string ⟨o.ref.toArray⟩, .string ⟨o.sku.toArray⟩, .int .i64 o.qty, .int .i64 o.amt, .int .i64 s.a, .int .i64 s.b, .int .i64 s.c, .int .i64 s.d, .int .i64 s.e, .int .i64 s.f, .bool s.x] 34), box b0 (.cells #[.int .i64 o.id, .string ⟨o.ref.toArray⟩, .string ⟨o.sku.toArray⟩, .int .i64 o.qty, .int .i64 o.amt, .int .i64 s.a, .int .i64 s.b, .int .i64 s.c, .int .i64 s.d, .int .i64 s.e, .int .i64 s.f, .bool s.x] 26)]) (fun i _ => (7 - intOf i).toNat)
  case atStart => exact ⟨-1, by omega, by omega, rfl, HO⟩
  case round =>
    clear HO
    obtain ⟨k, hk0, hk1, rfl, HO⟩ := hrel
    by_cases hk7 : k < 7
    rotate_left
    · go_wp2_with fail
      refine region_own HO (by kernel_rfl) (by kernel_rfl) ?_
      clear HO
      intro F HF
      repeat (first | (first | go_big_quiet_skip | ((with_reducible apply wpQuiet_loadAll HF); exact rfl; exact rfl; (repeat (with_reducible (first | exact At.head _ | apply At.tail))); infer_instance; exact rfl; exact rfl; (simp only [Act.put, List.setIfInBounds_toArray, List.set_cons_succ, List.set_cons_zero])) | ((with_reducible apply wpQuiet_loadOne HF); exact rfl; exact rfl; (repeat (with_reducible (first | exact At.head _ | apply At.tail))); exact rfl; infer_instance; exact rfl; (simp only [Act.put, List.setIfInBounds_toArray, List.set_cons_succ, List.set_cons_zero])) | ((with_reducible apply wpQuiet_loadPart HF); exact rfl; exact rfl; (repeat (with_reducible (first | exact At.head _ | apply At.tail))); infer_instance; exact (Nat.le_of_ble_eq_true rfl); (simp only [List.drop_succ_cons, List.drop_zero, List.take_succ_cons, List.take_zero]; rfl); exact rfl; (simp only [Act.put, List.setIfInBounds_toArray, List.set_cons_succ, List.set_cons_zero]))) | ((with_reducible apply wpQuiet_pure); exact run_op_same' o beginD rfl rfl rfl; exact rfl; (simp only [Act.put, List.setIfInBounds_toArray, List.set_cons_succ, List.set_cons_zero])) | go_big_quiet_step ((first | (go_at_call 19; (with_reducible exact calls_fam HF (G _))) | (go_at_call 20; (with_reducible exact calls_fam HF (RG _))) | (go_at_call 9; (with_reducible exact calls_fam HF (O _))))))
      refine wpQuiet_nil ?_
      intro x
      have HO := HF.own x
      clear HF
      generalize F x = w at *
      clear x F
      go_wp2_with fail
      go_ret
      exact ⟨rfl, HO.grown⟩
    · go_wp2_with fail
      go_loopw [17] (fun i wr => ∃ c : Int, -1 ≤ c ∧ c ≤ 4 ∧ i = .int .i64 c ∧ Own W wr [box b3 (.cells (sagaCs o' s').toArray 34), box b2 (.cells (sagaCs o' s').toArray 26), box b1 (.cells #[.int .i64 o.id, .string ⟨o.ref.toArray⟩, .string ⟨o.sku.toArray⟩, .int .i64 o.qty, .int .i64 o.amt, .int .i64 s.a, .int .i64 s.b, .int .i64 s.c, .int .i64 s.d, .int .i64 s.e, .int .i64 s.f, .bool s.x] 34), box b0 (.cells #[.int .i64 o.id, .string ⟨o.ref.toArray⟩, .string ⟨o.sku.toArray⟩, .int .i64 o.qty, .int .i64 o.amt, .int .i64 s.a, .int .i64 s.b, .int .i64 s.c, .int .i64 s.d, .int .i64 s.e, .int .i64 s.f, .bool s.x] 26)]) (fun i _ => (4 - intOf i).toNat)
      case atStart => exact ⟨-1, by omega, by omega, rfl, HO⟩
      case round =>
        clear HO
        obtain ⟨c, hc0, hc1, rfl, HO⟩ := hrel
        by_cases hc4 : c < 4
        rotate_left
        · go_wp2_with fail
          go_roundw
          case rel => exact ⟨k + 1, by omega, by omega, rfl, HO⟩
          case measure => simp [intOf] <;> omega
        by_cases hkn : k < 0 <;> by_cases hcn : c < 0
        · obtain ⟨o2, s2, b2', hr⟩ := replyV_form o (replyOf s deed code)
          have R := fun w => HR.out deed code w
          have RR := fun w => HRR.out deed code w
          rw [hr] at R RR
          clear hr
          go_wp2_with (first | (first | go_big_skip | ((with_reducible apply wpList_loadAll HO); exact rfl; exact rfl; (repeat (with_reducible (first | exact At.head _ | apply At.tail))); infer_instance; exact rfl; exact rfl; (simp only [Act.put, List.setIfInBounds_toArray, List.set_cons_succ, List.set_cons_zero])) | ((with_reducible apply wpList_loadOne HO); exact rfl; exact rfl; (repeat (with_reducible (first | exact At.head _ | apply At.tail))); exact rfl; infer_instance; exact rfl; (simp only [Act.put, List.setIfInBounds_toArray, List.set_cons_succ, List.set_cons_zero])) | ((with_reducible apply wpList_storeAll HO); exact rfl; exact rfl; exact rfl; (repeat (with_reducible (first | exact At.head _ | apply At.tail))); infer_instance; exact rfl; exact rfl; exact rfl; exact rfl; clear HO; intro w HO; (simp only [Act.put, List.setIfInBounds_toArray, List.set_cons_succ, List.set_cons_zero])) | (first | ((with_reducible apply wpList_boxAgg _ HO rfl); exact rfl; exact rfl; exact rfl; clear HO; intro b9 w HO; (simp only [Act.put, List.setIfInBounds_toArray, List.set_cons_succ, List.set_cons_zero])) | ((with_reducible apply wpList_allocAgg _ HO rfl); exact rfl; infer_instance; exact rfl; clear HO; intro b9 w HO; (simp only [Act.put, List.setIfInBounds_toArray, List.set_cons_succ, List.set_cons_zero])))) | (go_at_call 7; go_must ((with_reducible refine (R _).mono ?_); rintro e w ⟨rfl, hb⟩; replace HO := HO.call hb; clear hb)) | (go_at_call 18; go_must ((with_reducible refine (RR _).mono ?_); rintro e w ⟨rfl, hb⟩; replace HO := HO.call hb; clear hb)) | ((with_reducible apply wpList_pure); exact run_op_same o2 s2 rfl rfl rfl; exact rfl; (simp only [Act.put, List.setIfInBounds_toArray, List.set_cons_succ, List.set_cons_zero])))
          go_roundw
          case rel => exact ⟨c + 1, by omega, by omega, rfl, HO.tail.tail⟩
          case measure => simp [intOf] <;> omega
        · obtain ⟨o2, s2, b2', hr⟩ := replyV_form o (replyOf s deed c)
          have R := fun w => HR.out deed c w
          have RR := fun w => HRR.out deed c w
          rw [hr] at R RR
          clear hr
          go_wp2_with (first | (first | go_big_skip | ((with_reducible apply wpList_loadAll HO); exact rfl; exact rfl; (repeat (with_reducible (first | exact At.head _ | apply At.tail))); infer_instance; exact rfl; exact rfl; (simp only [Act.put, List.setIfInBounds_toArray, List.set_cons_succ, List.set_cons_zero])) | ((with_reducible apply wpList_loadOne HO); exact rfl; exact rfl; (repeat (with_reducible (first | exact At.head _ | apply At.tail))); exact rfl; infer_instance; exact rfl; (simp only [Act.put, List.setIfInBounds_toArray, List.set_cons_succ, List.set_cons_zero])) | ((with_reducible apply wpList_storeAll HO); exact rfl; exact rfl; exact rfl; (repeat (with_reducible (first | exact At.head _ | apply At.tail))); infer_instance; exact rfl; exact rfl; exact rfl; exact rfl; clear HO; intro w HO; (simp only [Act.put, List.setIfInBounds_toArray, List.set_cons_succ, List.set_cons_zero])) | (first | ((with_reducible apply wpList_boxAgg _ HO rfl); exact rfl; exact rfl; exact rfl; clear HO; intro b9 w HO; (simp only [Act.put, List.setIfInBounds_toArray, List.set_cons_succ, List.set_cons_zero])) | ((with_reducible apply wpList_allocAgg _ HO rfl); exact rfl; infer_instance; exact rfl; clear HO; intro b9 w HO; (simp only [Act.put, List.setIfInBounds_toArray, List.set_cons_succ, List.set_cons_zero])))) | (go_at_call 7; go_must ((with_reducible refine (R _).mono ?_); rintro e w ⟨rfl, hb⟩; replace HO := HO.call hb; clear hb)) | (go_at_call 18; go_must ((with_reducible refine (RR _).mono ?_); rintro e w ⟨rfl, hb⟩; replace HO := HO.call hb; clear hb)) | ((with_reducible apply wpList_pure); exact run_op_same o2 s2 rfl rfl rfl; exact rfl; (simp only [Act.put, List.setIfInBounds_toArray, List.set_cons_succ, List.set_cons_zero])))
          go_roundw
          case rel => exact ⟨c + 1, by omega, by omega, rfl, HO.tail.tail⟩
          case measure => simp [intOf] <;> omega
        · obtain ⟨o2, s2, b2', hr⟩ := replyV_form o (replyOf s k code)
          have R := fun w => HR.out k code w
          have RR := fun w => HRR.out k code w
          rw [hr] at R RR
          clear hr
          go_wp2_with (first | (first | go_big_skip | ((with_reducible apply wpList_loadAll HO); exact rfl; exact rfl; (repeat (with_reducible (first | exact At.head _ | apply At.tail))); infer_instance; exact rfl; exact rfl; (simp only [Act.put, List.setIfInBounds_toArray, List.set_cons_succ, List.set_cons_zero])) | ((with_reducible apply wpList_loadOne HO); exact rfl; exact rfl; (repeat (with_reducible (first | exact At.head _ | apply At.tail))); exact rfl; infer_instance; exact rfl; (simp only [Act.put, List.setIfInBounds_toArray, List.set_cons_succ, List.set_cons_zero])) | ((with_reducible apply wpList_storeAll HO); exact rfl; exact rfl; exact rfl; (repeat (with_reducible (first | exact At.head _ | apply At.tail))); infer_instance; exact rfl; exact rfl; exact rfl; exact rfl; clear HO; intro w HO; (simp only [Act.put, List.setIfInBounds_toArray, List.set_cons_succ, List.set_cons_zero])) | (first | ((with_reducible apply wpList_boxAgg _ HO rfl); exact rfl; exact rfl; exact rfl; clear HO; intro b9 w HO; (simp only [Act.put, List.setIfInBounds_toArray, List.set_cons_succ, List.set_cons_zero])) | ((with_reducible apply wpList_allocAgg _ HO rfl); exact rfl; infer_instance; exact rfl; clear HO; intro b9 w HO; (simp only [Act.put, List.setIfInBounds_toArray, List.set_cons_succ, List.set_cons_zero])))) | (go_at_call 7; go_must ((with_reducible refine (R _).mono ?_); rintro e w ⟨rfl, hb⟩; replace HO := HO.call hb; clear hb)) | (go_at_call 18; go_must ((with_reducible refine (RR _).mono ?_); rintro e w ⟨rfl, hb⟩; replace HO := HO.call hb; clear hb)) | ((with_reducible apply wpList_pure); exact run_op_same o2 s2 rfl rfl rfl; exact rfl; (simp only [Act.put, List.setIfInBounds_toArray, List.set_cons_succ, List.set_cons_zero])))
          go_roundw
          case rel => exact ⟨c + 1, by omega, by omega, rfl, HO.tail.tail⟩
          case measure => simp [intOf] <;> omega
        · obtain ⟨o2, s2, b2', hr⟩ := replyV_form o (replyOf s k c)
          have R := fun w => HR.out k c w
          have RR := fun w => HRR.out k c w
          rw [hr] at R RR
          clear hr
          go_wp2_with (first | (first | go_big_skip | ((with_reducible apply wpList_loadAll HO); exact rfl; exact rfl; (repeat (with_reducible (first | exact At.head _ | apply At.tail))); infer_instance; exact rfl; exact rfl; (simp only [Act.put, List.setIfInBounds_toArray, List.set_cons_succ, List.set_cons_zero])) | ((with_reducible apply wpList_loadOne HO); exact rfl; exact rfl; (repeat (with_reducible (first | exact At.head _ | apply At.tail))); exact rfl; infer_instance; exact rfl; (simp only [Act.put, List.setIfInBounds_toArray, List.set_cons_succ, List.set_cons_zero])) | ((with_reducible apply wpList_storeAll HO); exact rfl; exact rfl; exact rfl; (repeat (with_reducible (first | exact At.head _ | apply At.tail))); infer_instance; exact rfl; exact rfl; exact rfl; exact rfl; clear HO; intro w HO; (simp only [Act.put, List.setIfInBounds_toArray, List.set_cons_succ, List.set_cons_zero])) | (first | ((with_reducible apply wpList_boxAgg _ HO rfl); exact rfl; exact rfl; exact rfl; clear HO; intro b9 w HO; (simp only [Act.put, List.setIfInBounds_toArray, List.set_cons_succ, List.set_cons_zero])) | ((with_reducible apply wpList_allocAgg _ HO rfl); exact rfl; infer_instance; exact rfl; clear HO; intro b9 w HO; (simp only [Act.put, List.setIfInBounds_toArray, List.set_cons_succ, List.set_cons_zero])))) | (go_at_call 7; go_must ((with_reducible refine (R _).mono ?_); rintro e w ⟨rfl, hb⟩; replace HO := HO.call hb; clear hb)) | (go_at_call 18; go_must ((with_reducible refine (RR _).mono ?_); rintro e w ⟨rfl, hb⟩; replace HO := HO.call hb; clear hb)) | ((with_reducible apply wpList_pure); exact run_op_same o2 s2 rfl rfl rfl; exact rfl; (simp only [Act.put, List.setIfInBounds_toArray, List.set_cons_succ, List.set_cons_zero])))
          go_roundw
          case rel => exact ⟨c + 1, by omega, by omega, rfl, HO.tail.tail⟩
          case measure => simp [intOf] <;> omega
end Go.Proofs.Ytlfphfklcifgpaa

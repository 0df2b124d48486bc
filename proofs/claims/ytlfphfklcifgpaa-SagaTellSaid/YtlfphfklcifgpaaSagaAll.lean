/-
  All sagas that can be come to, by walking the document's text; conditions: none.
-/
import Derived.Test.YtlfphfklcifgpaaSagaEq
import Derived.Test.YtlfphfklcifgpaaSagaEr
import Derived.Test.YtlfphfklcifgpaaSagaFr
import Derived.Test.YtlfphfklcifgpaaOwn2
namespace Go.Proofs.Ytlfphfklcifgpaa
open Go.RowKit Go.Own

def wayOf (s : D6) : Nat → Option D6
  | 0 => replyOf s (waitsOf s).1 1
  | 1 => replyOf s (waitsOf s).1 2
  | _ => stopOf s
def addS (l : List D6) : Option D6 → List D6
  | some t => if t ∈ l then l else l ++ [t]
  | none => l
def allW (l : List D6) (s : D6) : Nat → List D6
  | 0 => l
  | n + 1 => addS (allW l s n) (wayOf s n)
def allI : Nat → List D6
  | 0 => [beginD]
  | i + 1 => allW (allI i) ((allI i).getD i beginD) 3
theorem allI_len : ∀ i, i < 19 → i < (allI i).length ∧ ∀ n, n ≤ 3 → (allW (allI i) ((allI i).getD i beginD) n).length ≤ 19 := by
  have h : ((List.range 19).all fun i => decide (i < (allI i).length) && (List.range 4).all fun n => decide ((allW (allI i) ((allI i).getD i beginD) n).length ≤ 19)) = true := by decide +kernel
  intro i hi
  have h1 := List.all_eq_true.1 h i (List.mem_range.2 hi)
  simp only [Bool.and_eq_true, decide_eq_true_eq] at h1
  exact ⟨h1.1, fun n hn => by simpa using List.all_eq_true.1 h1.2 n (List.mem_range.2 (by omega))⟩
theorem allI_end : (allI 19).length = 19 := by decide +kernel
theorem allI_RL (s : D6) : s ∈ allI 19 ↔ s ∈ RL := by
  have h1 : ((allI 19).all fun s => decide (s ∈ RL)) = true := by decide +kernel
  have h2 : (RL.all fun s => decide (s ∈ allI 19)) = true := by decide +kernel
  exact ⟨fun h => by simpa using List.all_eq_true.1 h1 s h, fun h => by simpa using List.all_eq_true.1 h2 s h⟩
theorem addS_pre {l : List D6} {t : Option D6} {i : Nat} {s : D6} (h : l[i]? = some s) : (addS l t)[i]? = some s := by
  unfold addS
  have hi := (List.getElem?_eq_some_iff.1 h).1
  split
  · split
    · exact h
    · rw [List.getElem?_append_left hi]; exact h
  · exact h
theorem allW_pre {l : List D6} {i : Nat} {s : D6} (h : l[i]? = some s) : ∀ n, (allW l s n)[i]? = some s
  | 0 => h
  | n + 1 => addS_pre (allW_pre h n)
theorem csLen (o : OrdS) (l : List D6) : ∀ c ∈ l.map (sagaCs o), c.length = 12 := fun c hc => by
  obtain ⟨s, _, rfl⟩ := List.mem_map.1 hc
  rfl
theorem cs_get {o : OrdS} {l : List D6} {i : Nat} {s : D6} (h : l[i]? = some s) : (l.map (sagaCs o))[i]? = some (sagaCs o s) := by rw [List.getElem?_map, h]; rfl

theorem sagaV_cs (o : OrdS) (s : D6) : sagaV o s = .agg (sagaCs o s).toArray := rfl
theorem addS_in {A : List D6} {t : D6} (h : t ∈ A) : addS A (some t) = A := by simp [addS, h]
theorem addS_out {A : List D6} {t : D6} (h : t ∉ A) : addS A (some t) = A ++ [t] := by simp [addS, h]
theorem take_in {A : List D6} {t : D6} {k : Nat} (hk : k < A.length) (h : t ∉ A.take k) : (!decide (t ∈ A.take (k + 1))) = !decide (A[k] = t) := by
  rw [List.take_succ_eq_append_getElem hk]
  congr 1
  rw [Bool.eq_iff_iff]
  simp only [List.mem_append, h, false_or, List.mem_singleton, decide_eq_true_eq]
  exact eq_comm
def AllPost (o : OrdS) (W : World) (L : List Ent) (e : Ending) (w' : World) : Prop := ∃ v', e = .returned v' ∧ Own W w' (row 34 12 v' ((allI 19).map (sagaCs o)) :: L)
set_option maxHeartbeats 16000000 in
set_option maxRecDepth 100000 in
theorem refAll_any (o : OrdS) {W w : World} {L : List Ent} {v : Value} (HO : Own W w (row 34 12 v [sagaCs o beginD] :: L)) : Calls Try.prog 27 #[v] w (AllPost o W L) := by
  obtain ⟨q, c, rfl⟩ := (HO.rowForm (.head _)).2 (by simp)
  go_enter Try.func27, Try.ntmps27
  go_wp2_with fail
  go_loopw [0, 3] (fun u i wr => ∃ j : Nat, j ≤ 19 ∧ i = .int .i64 (j : Int) ∧ Own W wr (row 34 12 u ((allI j).map (sagaCs o)) :: L)) (fun _ i _ => 19 - (intOf i).toNat)
  case atStart => exact ⟨0, by omega, rfl, HO⟩
  case round =>
    clear HO
    obtain ⟨j, hj, rfl, HO⟩ := hrel
    by_cases hj19 : j = 19
    · subst hj19
      obtain ⟨p, c, rfl⟩ := (HO.rowForm (.head _)).1
      rw [List.length_map, allI_end] at HO ⊢
      go_wp2_with fail
      go_ret
      exact ⟨_, rfl, HO⟩
    · have hj' : j < 19 := by omega
      obtain ⟨hlt, hle⟩ := allI_len j hj'
      obtain ⟨p, c, rfl⟩ := (HO.rowForm (.head _)).1
      have hN : ∃ N : Nat, N = (allI j).length := ⟨_, rfl⟩
      obtain ⟨N, hN⟩ := hN
      rw [List.length_map, ← hN] at HO ⊢
      have hltN : (j : Int) < (N : Int) := by omega
      have HLE := Lib.hid hle
      have HS := Lib.hid (show (allI j)[j]? = some ((allI j).getD j beginD) by rw [List.getD_eq_getElem?_getD, List.getElem?_eq_getElem hlt]; rfl)
      have HI : Hid (allI (j + 1) = allW (allI j) ((allI j).getD j beginD) 3) := rfl
      have HLT := Lib.hid hlt
      clear hle hlt hN
      generalize (allI j).getD j beginD = s at *
      go_wp2_with fail
      go_loopw [0, 4] (fun u i wr => ∃ m : Nat, m ≤ 3 ∧ i = .int .i64 (m : Int) ∧ Own W wr (row 34 12 u ((allW (allI j) s m).map (sagaCs o)) :: L)) (fun _ i _ => 3 - (intOf i).toNat)
      case atStart => exact ⟨0, by omega, rfl, HO⟩
      case round =>
        clear HO
        obtain ⟨m, hm, rfl, HO⟩ := hrel
        by_cases hm3 : m = 3
        · subst hm3
          have HI2 := Lib.hid (show Own W _ (row 34 12 _ ((allI (j + 1)).map (sagaCs o)) :: L) by rw [HI.out]; exact HO)
          go_wp2_with fail
          go_roundw
          case rel => exact ⟨j + 1, by omega, by go_num, HI2.out⟩
          case measure => simp [intOf] <;> omega
        · have hm' : m < 3 := by omega
          have HA := Lib.hid (cs_get (o := o) (allW_pre HS.out m))
          have hlen := HLE.out m hm
          have HIW : Hid (allW (allI j) s (m + 1) = addS (allW (allI j) s m) (wayOf s m)) := rfl
          have hjl : j < ((allW (allI j) s m).map (sagaCs o)).length := (List.getElem?_eq_some_iff.1 HA.out).1
          obtain ⟨q, c, rfl⟩ := (HO.rowForm (.head _)).2 (by omega)
          generalize allW (allI j) s m = A at *
          have HL := Lib.hid (csLen o A)
          rw [List.length_map] at hjl HO ⊢
          have hnx : ∃ N : Nat, N = A.length := ⟨_, rfl⟩
          obtain ⟨N, hN⟩ := hnx
          rw [← hN] at hjl HO ⊢ hlen
          have hjN : (j : Int) < (N : Int) := by omega
          have HN := Lib.hid hN
          clear hN
          by_cases hm2 : m < 2
          · have hm2i : (m : Int) < 2 := by omega
            have X := fun w => refWaits_any o s w
            have R := fun w => refReply_any o s (waitsOf s).1 ((m : Int) + 1) w
            have hrw : replyOf s (waitsOf s).1 ((m : Int) + 1) = wayOf s m := by
              have : m = 0 ∨ m = 1 := by omega
              rcases this with rfl | rfl <;> rfl
            have HBT := Lib.hid (show ∀ t : D6, wayOf s m = some t → (waitsOf s).2 = true from fun t h => by
              rw [← hrw] at h
              cases hb : (waitsOf s).2
              · simp [replyOf, hb] at h
              · rfl)
            rw [hrw] at R
            clear hrw
            generalize waitsOf s = y at *
            obtain ⟨n, b⟩ := y
            simp only at X R
            cases ht : wayOf s m with
            | none =>
              rw [ht] at R HIW
              simp only [replyV, noneV, sagaV_cs] at R X
              clear ht
              go_wp2_with (first | ((with_reducible apply wpList_loadRow HO); exact rfl; exact rfl; (repeat (with_reducible (first | exact At.head _ | apply At.tail))); exact (HL).out; exact (HA).out; infer_instance; exact rfl; exact rfl; (simp only [Act.put, List.setIfInBounds_toArray, List.set_cons_succ, List.set_cons_zero])) | (first | go_big_skip | ((with_reducible apply wpList_loadAll HO); exact rfl; exact rfl; (repeat (with_reducible (first | exact At.head _ | apply At.tail))); infer_instance; exact rfl; exact rfl; (simp only [Act.put, List.setIfInBounds_toArray, List.set_cons_succ, List.set_cons_zero])) | ((with_reducible apply wpList_loadOne HO); exact rfl; exact rfl; (repeat (with_reducible (first | exact At.head _ | apply At.tail))); exact rfl; infer_instance; exact rfl; (simp only [Act.put, List.setIfInBounds_toArray, List.set_cons_succ, List.set_cons_zero])) | ((with_reducible apply wpList_storeAll HO); exact rfl; exact rfl; exact rfl; (repeat (with_reducible (first | exact At.head _ | apply At.tail))); infer_instance; exact rfl; exact rfl; exact rfl; exact rfl; clear HO; intro w HO; (simp only [Act.put, List.setIfInBounds_toArray, List.set_cons_succ, List.set_cons_zero])) | (first | ((with_reducible apply wpList_boxAgg _ HO rfl); exact rfl; exact rfl; exact rfl; clear HO; intro b5 w HO; (simp only [Act.put, List.setIfInBounds_toArray, List.set_cons_succ, List.set_cons_zero])) | ((with_reducible apply wpList_allocAgg _ HO rfl); exact rfl; infer_instance; exact rfl; clear HO; intro b5 w HO; (simp only [Act.put, List.setIfInBounds_toArray, List.set_cons_succ, List.set_cons_zero])))) | (go_at_call 10; go_must ((with_reducible refine (X _).mono ?_); rintro e w ⟨rfl, hb⟩; replace HO := HO.call hb; clear hb)) | (go_at_call 18; go_must ((with_reducible refine (R _).mono ?_); rintro e w ⟨rfl, hb⟩; replace HO := HO.call hb; clear hb)))
              refine wp_loop_rounds 1 ?_
              rw [rounds_succ]
              go_wp2_with fail
              go_roundw
              case rel => exact ⟨m + 1, by omega, by go_num, by rw [HIW.out]; exact HO.tail⟩
              case measure => simp [intOf] <;> omega
            | some t =>
              have hbt : b = true := by
                have := HBT.out t ht
                exact this
              subst hbt
              rw [ht] at R HIW
              simp only [replyV, sagaV_cs] at R X
              clear ht
              go_wp2_with (first | ((with_reducible apply wpList_loadRow HO); exact rfl; exact rfl; (repeat (with_reducible (first | exact At.head _ | apply At.tail))); exact (HL).out; exact (HA).out; infer_instance; exact rfl; exact rfl; (simp only [Act.put, List.setIfInBounds_toArray, List.set_cons_succ, List.set_cons_zero])) | (first | go_big_skip | ((with_reducible apply wpList_loadAll HO); exact rfl; exact rfl; (repeat (with_reducible (first | exact At.head _ | apply At.tail))); infer_instance; exact rfl; exact rfl; (simp only [Act.put, List.setIfInBounds_toArray, List.set_cons_succ, List.set_cons_zero])) | ((with_reducible apply wpList_loadOne HO); exact rfl; exact rfl; (repeat (with_reducible (first | exact At.head _ | apply At.tail))); exact rfl; infer_instance; exact rfl; (simp only [Act.put, List.setIfInBounds_toArray, List.set_cons_succ, List.set_cons_zero])) | ((with_reducible apply wpList_storeAll HO); exact rfl; exact rfl; exact rfl; (repeat (with_reducible (first | exact At.head _ | apply At.tail))); infer_instance; exact rfl; exact rfl; exact rfl; exact rfl; clear HO; intro w HO; (simp only [Act.put, List.setIfInBounds_toArray, List.set_cons_succ, List.set_cons_zero])) | (first | ((with_reducible apply wpList_boxAgg _ HO rfl); exact rfl; exact rfl; exact rfl; clear HO; intro b5 w HO; (simp only [Act.put, List.setIfInBounds_toArray, List.set_cons_succ, List.set_cons_zero])) | ((with_reducible apply wpList_allocAgg _ HO rfl); exact rfl; infer_instance; exact rfl; clear HO; intro b5 w HO; (simp only [Act.put, List.setIfInBounds_toArray, List.set_cons_succ, List.set_cons_zero])))) | (go_at_call 10; go_must ((with_reducible refine (X _).mono ?_); rintro e w ⟨rfl, hb⟩; replace HO := HO.call hb; clear hb)) | (go_at_call 18; go_must ((with_reducible refine (R _).mono ?_); rintro e w ⟨rfl, hb⟩; replace HO := HO.call hb; clear hb)))
              go_loopw [6, 11] (fun u i wr => ∃ k : Nat, k ≤ N ∧ i = .int .i64 (k : Int) ∧ u = .bool (!decide (t ∈ A.take k)) ∧ Own W wr (box b5 (.cells (sagaCs o t).toArray 34) :: row 34 12 (.slice (some q) N c) (A.map (sagaCs o)) :: L)) (fun _ i _ => N - (intOf i).toNat)
              case atStart => exact ⟨0, by omega, rfl, by simp, HO⟩
              case round =>
                clear HO
                obtain ⟨k, hk, rfl, rfl, HO⟩ := hrel
                by_cases hkN : k = N
                · subst hkN
                  by_cases hin : t ∈ A.take k
                  · have hb : decide (t ∈ A.take k) = true := by simpa using hin
                    have HX := Lib.hid (addS_in (A := A) (t := t) (List.mem_of_mem_take hin))
                    rw [hb]
                    clear hb hin
                    go_wp2_with fail
                    go_roundw
                    case rel => exact ⟨m + 1, by omega, by go_num, by rw [HIW.out, HX.out]; exact HO.tail⟩
                    case measure => simp [intOf] <;> omega
                  · have hb : decide (t ∈ A.take k) = false := by simpa using hin
                    have HX := Lib.hid (addS_out (A := A) (t := t) (by rw [HN.out, List.take_length] at hin; exact hin))
                    have hAl : A.length + 1 ≤ 1000000 := by rw [← HN.out]; omega
                    rw [hb]
                    clear hb hin
                    go_wp2_with (first | (first | go_big_skip | ((with_reducible apply wpList_loadAll HO); exact rfl; exact rfl; (repeat (with_reducible (first | exact At.head _ | apply At.tail))); infer_instance; exact rfl; exact rfl; (simp only [Act.put, List.setIfInBounds_toArray, List.set_cons_succ, List.set_cons_zero])) | ((with_reducible apply wpList_loadOne HO); exact rfl; exact rfl; (repeat (with_reducible (first | exact At.head _ | apply At.tail))); exact rfl; infer_instance; exact rfl; (simp only [Act.put, List.setIfInBounds_toArray, List.set_cons_succ, List.set_cons_zero])) | ((with_reducible apply wpList_storeAll HO); exact rfl; exact rfl; exact rfl; (repeat (with_reducible (first | exact At.head _ | apply At.tail))); infer_instance; exact rfl; exact rfl; exact rfl; exact rfl; clear HO; intro w HO; (simp only [Act.put, List.setIfInBounds_toArray, List.set_cons_succ, List.set_cons_zero])) | (first | ((with_reducible apply wpList_boxAgg _ HO rfl); exact rfl; exact rfl; exact rfl; clear HO; intro b7 w HO; (simp only [Act.put, List.setIfInBounds_toArray, List.set_cons_succ, List.set_cons_zero])) | ((with_reducible apply wpList_allocAgg _ HO rfl); exact rfl; infer_instance; exact rfl; clear HO; intro b7 w HO; (simp only [Act.put, List.setIfInBounds_toArray, List.set_cons_succ, List.set_cons_zero])))) | (first | ((with_reducible apply wpList_lit1 HO); exact rfl; infer_instance; infer_instance; exact rfl; exact rfl; exact (by decide); exact rfl; clear HO; intro b7 w HO; (simp only [Act.put, List.setIfInBounds_toArray, List.set_cons_succ, List.set_cons_zero])) | ((with_reducible apply wpList_lit1c HO); exact rfl; infer_instance; infer_instance; (first | (simp [Act.eval]; rfl) | exact rfl); exact rfl; exact rfl; clear HO; intro b7 w HO; (simp only [Act.put, List.setIfInBounds_toArray, List.set_cons_succ, List.set_cons_zero]))) | ((with_reducible apply wpList_push1 HO); exact rfl; infer_instance; infer_instance; (first | (simp [Act.eval]; rfl) | exact rfl); exact rfl; intro _; (repeat (with_reducible (first | exact At.head _ | apply At.tail))); exact rfl; exact rfl; (first | omega | (simp; omega)); decide; exact rfl; clear HO; intro v2 w HO hv2; (simp only [Act.put, List.setIfInBounds_toArray, List.set_cons_succ, List.set_cons_zero])))
                    obtain ⟨p2, n2, c2, rfl⟩ := hv2
                    go_roundw
                    case rel => exact ⟨m + 1, by omega, by go_num, by rw [HIW.out, HX.out, List.map_append]; exact HO.tail⟩
                    case measure => simp [intOf] <;> omega
                · have hkl : (k : Int) < (N : Int) := by omega
                  by_cases hin : t ∈ A.take k
                  · have hb : decide (t ∈ A.take k) = true := by simpa using hin
                    have HX := Lib.hid (addS_in (A := A) (t := t) (List.mem_of_mem_take hin))
                    rw [hb]
                    clear hb hin
                    go_wp2_with fail
                    go_roundw
                    case rel => exact ⟨m + 1, by omega, by go_num, by rw [HIW.out, HX.out]; exact HO.tail⟩
                    case measure => simp [intOf] <;> omega
                  · have hb : decide (t ∈ A.take k) = false := by simpa using hin
                    have hkA : k < A.length := by rw [← HN.out]; omega
                    have HB := Lib.hid (cs_get (o := o) (List.getElem?_eq_getElem hkA))
                    have HX := Lib.hid (take_in (t := t) hkA hin)
                    rw [hb]
                    clear hb hin hkN
                    generalize A[k] = z at *
                    clear hkA
                    go_wp2_with fail
                    refine region_own HO (by kernel_rfl) (by kernel_rfl) ?_
                    clear HO
                    intro F HF
                    repeat (first | (first | go_big_quiet_skip | ((with_reducible apply wpQuiet_loadAll HF); exact rfl; exact rfl; (repeat (with_reducible (first | exact At.head _ | apply At.tail))); infer_instance; exact rfl; exact rfl; (simp only [Act.put, List.setIfInBounds_toArray, List.set_cons_succ, List.set_cons_zero])) | ((with_reducible apply wpQuiet_loadOne HF); exact rfl; exact rfl; (repeat (with_reducible (first | exact At.head _ | apply At.tail))); exact rfl; infer_instance; exact rfl; (simp only [Act.put, List.setIfInBounds_toArray, List.set_cons_succ, List.set_cons_zero])) | ((with_reducible apply wpQuiet_loadPart HF); exact rfl; exact rfl; (repeat (with_reducible (first | exact At.head _ | apply At.tail))); infer_instance; exact (Nat.le_of_ble_eq_true rfl); (simp only [List.drop_succ_cons, List.drop_zero, List.take_succ_cons, List.take_zero]; rfl); exact rfl; (simp only [Act.put, List.setIfInBounds_toArray, List.set_cons_succ, List.set_cons_zero]))) | ((with_reducible apply wpQuiet_loadRow HF); exact rfl; exact rfl; (repeat (with_reducible (first | exact At.head _ | apply At.tail))); exact (HL).out; exact (HB).out; infer_instance; exact rfl; exact rfl; (simp only [Act.put, List.setIfInBounds_toArray, List.set_cons_succ, List.set_cons_zero])) | ((with_reducible apply wpQuiet_pure); exact run_op_neq o o z t rfl rfl rfl; exact rfl; (simp only [Act.put, List.setIfInBounds_toArray, List.set_cons_succ, List.set_cons_zero])) | go_big_quiet_step (fail))
                    refine wpQuiet_nil ?_
                    intro x
                    have HO := HF.own x
                    clear HF
                    generalize F x = w at *
                    clear x F
                    go_wp2_with fail
                    go_roundw
                    case rel => exact ⟨k + 1, by omega, by go_num, by rw [HX.out, sagaEqB_same], HO⟩
                    case measure => simp [intOf] <;> omega
          · obtain rfl : m = 2 := by omega
            have R := fun w => refStop_any o s w
            rw [show stopOf s = wayOf s 2 from rfl] at R
            simp only [sagaV_cs] at R
            simp only [Nat.reduceAdd] at HIW
            cases ht : wayOf s 2 with
            | none =>
              rw [ht] at R HIW
              simp only [stopV, noneV] at R
              clear ht
              go_wp2_with (first | ((with_reducible apply wpList_loadRow HO); exact rfl; exact rfl; (repeat (with_reducible (first | exact At.head _ | apply At.tail))); exact (HL).out; exact (HA).out; infer_instance; exact rfl; exact rfl; (simp only [Act.put, List.setIfInBounds_toArray, List.set_cons_succ, List.set_cons_zero])) | ((have _h : Own W _ (row _ _ _ _ :: _) := HO); clear _h; (first | ((with_reducible apply wpList_boxAgg _ HO rfl); exact rfl; exact rfl; exact rfl; clear HO; intro b5 w HO; (simp only [Act.put, List.setIfInBounds_toArray, List.set_cons_succ, List.set_cons_zero])) | ((with_reducible apply wpList_allocAgg _ HO rfl); exact rfl; infer_instance; exact rfl; clear HO; intro b5 w HO; (simp only [Act.put, List.setIfInBounds_toArray, List.set_cons_succ, List.set_cons_zero])))) | (first | go_big_skip | ((with_reducible apply wpList_loadAll HO); exact rfl; exact rfl; (repeat (with_reducible (first | exact At.head _ | apply At.tail))); infer_instance; exact rfl; exact rfl; (simp only [Act.put, List.setIfInBounds_toArray, List.set_cons_succ, List.set_cons_zero])) | ((with_reducible apply wpList_loadOne HO); exact rfl; exact rfl; (repeat (with_reducible (first | exact At.head _ | apply At.tail))); exact rfl; infer_instance; exact rfl; (simp only [Act.put, List.setIfInBounds_toArray, List.set_cons_succ, List.set_cons_zero])) | ((with_reducible apply wpList_storeAll HO); exact rfl; exact rfl; exact rfl; (repeat (with_reducible (first | exact At.head _ | apply At.tail))); infer_instance; exact rfl; exact rfl; exact rfl; exact rfl; clear HO; intro w HO; (simp only [Act.put, List.setIfInBounds_toArray, List.set_cons_succ, List.set_cons_zero])) | (first | ((with_reducible apply wpList_boxAgg _ HO rfl); exact rfl; exact rfl; exact rfl; clear HO; intro b9 w HO; (simp only [Act.put, List.setIfInBounds_toArray, List.set_cons_succ, List.set_cons_zero])) | ((with_reducible apply wpList_allocAgg _ HO rfl); exact rfl; infer_instance; exact rfl; clear HO; intro b9 w HO; (simp only [Act.put, List.setIfInBounds_toArray, List.set_cons_succ, List.set_cons_zero])))) | (go_at_call 12; go_must ((with_reducible refine (R _).mono ?_); rintro e w ⟨rfl, hb⟩; replace HO := HO.call hb; clear hb)))
              refine wp_loop_rounds 1 ?_
              rw [rounds_succ]
              go_wp2_with fail
              go_roundw
              case rel => exact ⟨3, by omega, rfl, by rw [HIW.out]; exact HO.tail.tail⟩
              case measure => simp [intOf] <;> omega
            | some t =>
              rw [ht] at R HIW
              simp only [stopV] at R
              clear ht
              go_wp2_with (first | ((with_reducible apply wpList_loadRow HO); exact rfl; exact rfl; (repeat (with_reducible (first | exact At.head _ | apply At.tail))); exact (HL).out; exact (HA).out; infer_instance; exact rfl; exact rfl; (simp only [Act.put, List.setIfInBounds_toArray, List.set_cons_succ, List.set_cons_zero])) | ((have _h : Own W _ (row _ _ _ _ :: _) := HO); clear _h; (first | ((with_reducible apply wpList_boxAgg _ HO rfl); exact rfl; exact rfl; exact rfl; clear HO; intro b5 w HO; (simp only [Act.put, List.setIfInBounds_toArray, List.set_cons_succ, List.set_cons_zero])) | ((with_reducible apply wpList_allocAgg _ HO rfl); exact rfl; infer_instance; exact rfl; clear HO; intro b5 w HO; (simp only [Act.put, List.setIfInBounds_toArray, List.set_cons_succ, List.set_cons_zero])))) | (first | go_big_skip | ((with_reducible apply wpList_loadAll HO); exact rfl; exact rfl; (repeat (with_reducible (first | exact At.head _ | apply At.tail))); infer_instance; exact rfl; exact rfl; (simp only [Act.put, List.setIfInBounds_toArray, List.set_cons_succ, List.set_cons_zero])) | ((with_reducible apply wpList_loadOne HO); exact rfl; exact rfl; (repeat (with_reducible (first | exact At.head _ | apply At.tail))); exact rfl; infer_instance; exact rfl; (simp only [Act.put, List.setIfInBounds_toArray, List.set_cons_succ, List.set_cons_zero])) | ((with_reducible apply wpList_storeAll HO); exact rfl; exact rfl; exact rfl; (repeat (with_reducible (first | exact At.head _ | apply At.tail))); infer_instance; exact rfl; exact rfl; exact rfl; exact rfl; clear HO; intro w HO; (simp only [Act.put, List.setIfInBounds_toArray, List.set_cons_succ, List.set_cons_zero])) | (first | ((with_reducible apply wpList_boxAgg _ HO rfl); exact rfl; exact rfl; exact rfl; clear HO; intro b9 w HO; (simp only [Act.put, List.setIfInBounds_toArray, List.set_cons_succ, List.set_cons_zero])) | ((with_reducible apply wpList_allocAgg _ HO rfl); exact rfl; infer_instance; exact rfl; clear HO; intro b9 w HO; (simp only [Act.put, List.setIfInBounds_toArray, List.set_cons_succ, List.set_cons_zero])))) | (go_at_call 12; go_must ((with_reducible refine (R _).mono ?_); rintro e w ⟨rfl, hb⟩; replace HO := HO.call hb; clear hb)))
              go_loopw [6, 11] (fun u i wr => ∃ k : Nat, k ≤ N ∧ i = .int .i64 (k : Int) ∧ u = .bool (!decide (t ∈ A.take k)) ∧ Own W wr (box b9 (.cells (sagaCs o t).toArray 34) :: box b5 (.cells (sagaCs o t).toArray 34) :: row 34 12 (.slice (some q) N c) (A.map (sagaCs o)) :: L)) (fun _ i _ => N - (intOf i).toNat)
              case atStart => exact ⟨0, by omega, rfl, by simp, HO⟩
              case round =>
                clear HO
                obtain ⟨k, hk, rfl, rfl, HO⟩ := hrel
                by_cases hkN : k = N
                · subst hkN
                  by_cases hin : t ∈ A.take k
                  · have hb : decide (t ∈ A.take k) = true := by simpa using hin
                    have HX := Lib.hid (addS_in (A := A) (t := t) (List.mem_of_mem_take hin))
                    rw [hb]
                    clear hb hin
                    go_wp2_with fail
                    go_roundw
                    case rel => exact ⟨3, by omega, rfl, by rw [HIW.out, HX.out]; exact HO.tail.tail⟩
                    case measure => simp [intOf] <;> omega
                  · have hb : decide (t ∈ A.take k) = false := by simpa using hin
                    have HX := Lib.hid (addS_out (A := A) (t := t) (by rw [HN.out, List.take_length] at hin; exact hin))
                    have hAl : A.length + 1 ≤ 1000000 := by rw [← HN.out]; omega
                    rw [hb]
                    clear hb hin
                    go_wp2_with (first | (first | go_big_skip | ((with_reducible apply wpList_loadAll HO); exact rfl; exact rfl; (repeat (with_reducible (first | exact At.head _ | apply At.tail))); infer_instance; exact rfl; exact rfl; (simp only [Act.put, List.setIfInBounds_toArray, List.set_cons_succ, List.set_cons_zero])) | ((with_reducible apply wpList_loadOne HO); exact rfl; exact rfl; (repeat (with_reducible (first | exact At.head _ | apply At.tail))); exact rfl; infer_instance; exact rfl; (simp only [Act.put, List.setIfInBounds_toArray, List.set_cons_succ, List.set_cons_zero])) | ((with_reducible apply wpList_storeAll HO); exact rfl; exact rfl; exact rfl; (repeat (with_reducible (first | exact At.head _ | apply At.tail))); infer_instance; exact rfl; exact rfl; exact rfl; exact rfl; clear HO; intro w HO; (simp only [Act.put, List.setIfInBounds_toArray, List.set_cons_succ, List.set_cons_zero])) | (first | ((with_reducible apply wpList_boxAgg _ HO rfl); exact rfl; exact rfl; exact rfl; clear HO; intro b7 w HO; (simp only [Act.put, List.setIfInBounds_toArray, List.set_cons_succ, List.set_cons_zero])) | ((with_reducible apply wpList_allocAgg _ HO rfl); exact rfl; infer_instance; exact rfl; clear HO; intro b7 w HO; (simp only [Act.put, List.setIfInBounds_toArray, List.set_cons_succ, List.set_cons_zero])))) | (first | ((with_reducible apply wpList_lit1 HO); exact rfl; infer_instance; infer_instance; exact rfl; exact rfl; exact (by decide); exact rfl; clear HO; intro b7 w HO; (simp only [Act.put, List.setIfInBounds_toArray, List.set_cons_succ, List.set_cons_zero])) | ((with_reducible apply wpList_lit1c HO); exact rfl; infer_instance; infer_instance; (first | (simp [Act.eval]; rfl) | exact rfl); exact rfl; exact rfl; clear HO; intro b7 w HO; (simp only [Act.put, List.setIfInBounds_toArray, List.set_cons_succ, List.set_cons_zero]))) | ((with_reducible apply wpList_push1 HO); exact rfl; infer_instance; infer_instance; (first | (simp [Act.eval]; rfl) | exact rfl); exact rfl; intro _; (repeat (with_reducible (first | exact At.head _ | apply At.tail))); exact rfl; exact rfl; (first | omega | (simp; omega)); decide; exact rfl; clear HO; intro v2 w HO hv2; (simp only [Act.put, List.setIfInBounds_toArray, List.set_cons_succ, List.set_cons_zero])))
                    obtain ⟨p2, n2, c2, rfl⟩ := hv2
                    go_roundw
                    case rel => exact ⟨3, by omega, rfl, by rw [HIW.out, HX.out, List.map_append]; exact HO.tail.tail⟩
                    case measure => simp [intOf] <;> omega
                · have hkl : (k : Int) < (N : Int) := by omega
                  by_cases hin : t ∈ A.take k
                  · have hb : decide (t ∈ A.take k) = true := by simpa using hin
                    have HX := Lib.hid (addS_in (A := A) (t := t) (List.mem_of_mem_take hin))
                    rw [hb]
                    clear hb hin
                    go_wp2_with fail
                    go_roundw
                    case rel => exact ⟨3, by omega, rfl, by rw [HIW.out, HX.out]; exact HO.tail.tail⟩
                    case measure => simp [intOf] <;> omega
                  · have hb : decide (t ∈ A.take k) = false := by simpa using hin
                    have hkA : k < A.length := by rw [← HN.out]; omega
                    have HB := Lib.hid (cs_get (o := o) (List.getElem?_eq_getElem hkA))
                    have HX := Lib.hid (take_in (t := t) hkA hin)
                    rw [hb]
                    clear hb hin hkN
                    generalize A[k] = z at *
                    clear hkA
                    go_wp2_with fail
                    refine region_own HO (by kernel_rfl) (by kernel_rfl) ?_
                    clear HO
                    intro F HF
                    repeat (first | (first | go_big_quiet_skip | ((with_reducible apply wpQuiet_loadAll HF); exact rfl; exact rfl; (repeat (with_reducible (first | exact At.head _ | apply At.tail))); infer_instance; exact rfl; exact rfl; (simp only [Act.put, List.setIfInBounds_toArray, List.set_cons_succ, List.set_cons_zero])) | ((with_reducible apply wpQuiet_loadOne HF); exact rfl; exact rfl; (repeat (with_reducible (first | exact At.head _ | apply At.tail))); exact rfl; infer_instance; exact rfl; (simp only [Act.put, List.setIfInBounds_toArray, List.set_cons_succ, List.set_cons_zero])) | ((with_reducible apply wpQuiet_loadPart HF); exact rfl; exact rfl; (repeat (with_reducible (first | exact At.head _ | apply At.tail))); infer_instance; exact (Nat.le_of_ble_eq_true rfl); (simp only [List.drop_succ_cons, List.drop_zero, List.take_succ_cons, List.take_zero]; rfl); exact rfl; (simp only [Act.put, List.setIfInBounds_toArray, List.set_cons_succ, List.set_cons_zero]))) | ((with_reducible apply wpQuiet_loadRow HF); exact rfl; exact rfl; (repeat (with_reducible (first | exact At.head _ | apply At.tail))); exact (HL).out; exact (HB).out; infer_instance; exact rfl; exact rfl; (simp only [Act.put, List.setIfInBounds_toArray, List.set_cons_succ, List.set_cons_zero])) | ((with_reducible apply wpQuiet_pure); exact run_op_neq o o z t rfl rfl rfl; exact rfl; (simp only [Act.put, List.setIfInBounds_toArray, List.set_cons_succ, List.set_cons_zero])) | go_big_quiet_step (fail))
                    refine wpQuiet_nil ?_
                    intro x
                    have HO := HF.own x
                    clear HF
                    generalize F x = w at *
                    clear x F
                    go_wp2_with fail
                    go_roundw
                    case rel => exact ⟨k + 1, by omega, by go_num, by rw [HX.out, sagaEqB_same], HO⟩
                    case measure => simp [intOf] <;> omega
end Go.Proofs.Ytlfphfklcifgpaa

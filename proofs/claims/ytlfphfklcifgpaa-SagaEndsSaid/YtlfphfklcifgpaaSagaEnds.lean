/-
  The law SagaEnds returns true, by walking its text; conditions: texts no longer than memory bears. (Printed by wip/mkends.py.)
-/
import Derived.Test.YtlfphfklcifgpaaSagaOnce
import Derived.Test.YtlfphfklcifgpaaSagaDn
import Derived.Test.YtlfphfklcifgpaaTypes
import Derived.Deep.DeepCutAuto
import Derived.Deep.CutBlock
namespace Go.Proofs.Ytlfphfklcifgpaa
open Go.RowKit Go.Own

def fin1 (x : Int) : Nat := if x = 2 ∨ x = 3 ∨ x = 4 then 1 else 0
/-- How many deeds have come to an end. -/
def fin (t : D6) : Nat := fin1 t.a + fin1 t.b + fin1 t.c + fin1 t.d + fin1 t.e + fin1 t.f
theorem fin_ok : ∀ t ∈ RL, ((waitsOf t).2 = true → fin t ≤ 5) ∧ ∀ u ∈ ways t, ∀ v, u = some v → fin t + 1 ≤ fin v := by
  have h : (RL.all fun t => (!(waitsOf t).2 || decide (fin t ≤ 5)) && (ways t).all fun u => match u with
    | some v => decide (fin t + 1 ≤ fin v)
    | none => true) = true := by decide +kernel
  intro t ht
  have h1 := List.all_eq_true.1 h t ht
  simp only [Bool.and_eq_true] at h1
  refine ⟨fun hw => by simpa [hw] using h1.1, fun u hu v hv => ?_⟩
  have h2 := List.all_eq_true.1 h1.2 u hu
  subst hv
  simpa using h2
theorem refused_ok : ∀ t ∈ RL, (waitsOf t).2 = true → (waitsOf t).1 ≤ 2 → (replyOf t (waitsOf t).1 2).isSome = true := by
  have h : (RL.all fun t => !(waitsOf t).2 || !decide ((waitsOf t).1 ≤ 2) || (replyOf t (waitsOf t).1 2).isSome) = true := by decide +kernel
  intro t ht hw hl
  have h1 := List.all_eq_true.1 h t ht
  simpa [hw, hl] using h1
theorem stop_waits : ∀ t ∈ RL, ∀ z, stopOf t = some z → (waitsOf z).2 = true ∧ z ∈ RL ∧ fin t ≤ fin z := by
  have h : (RL.all fun t => match stopOf t with
    | some z => (waitsOf z).2 && decide (z ∈ RL) && decide (fin t ≤ fin z)
    | none => true) = true := by decide +kernel
  intro t ht z hz
  have h1 := List.all_eq_true.1 h t ht
  rw [hz] at h1
  simpa [and_assoc] using h1
theorem stop_state (t : D6) : (stopOf t = none → stateOf t ≠ 0) ∧ ∀ z, stopOf t = some z → stateOf t = 0 := by
  unfold stopOf
  by_cases h : stateOf t = 0 <;> simp [h]
theorem ended_of : ∀ t ∈ RL, (waitsOf t).2 = false → t = ⟨3, 0, 0, 0, 0, 0, false⟩ ∨ t = ⟨4, 0, 0, 2, 0, 0, true⟩ ∨ t = ⟨2, 2, 2, 0, 0, 0, false⟩ ∨ t = ⟨2, 3, 0, 2, 0, 0, false⟩ ∨ t = ⟨2, 4, 0, 2, 2, 0, true⟩ ∨ t = ⟨2, 2, 3, 2, 2, 0, false⟩ ∨ t = ⟨2, 2, 4, 2, 2, 2, true⟩ := by
  have h : (RL.all fun t => (waitsOf t).2 || decide (t = ⟨3, 0, 0, 0, 0, 0, false⟩ ∨ t = ⟨4, 0, 0, 2, 0, 0, true⟩ ∨ t = ⟨2, 2, 2, 0, 0, 0, false⟩ ∨ t = ⟨2, 3, 0, 2, 0, 0, false⟩ ∨ t = ⟨2, 4, 0, 2, 2, 0, true⟩ ∨ t = ⟨2, 2, 3, 2, 2, 0, false⟩ ∨ t = ⟨2, 2, 4, 2, 2, 2, true⟩)) = true := by decide +kernel
  intro t ht hw
  have h1 := List.all_eq_true.1 h t ht
  simpa [hw] using h1

set_option maxHeartbeats 64000000 in
set_option maxRecDepth 100000 in
theorem sagaEnds_any (o : OrdS) (c0 c1 c2 c3 c4 c5 c6 c7 : Bool) (c : Int) (W : World) (hc0 : 0 ≤ c) (hc1 : c ≤ 255) (h1 : o.ref.length ≤ maxLen) (h2 : o.sku.length ≤ maxLen) :
    Calls Try.prog 5 #[ordV o, .agg #[.bool c0, .bool c1, .bool c2, .bool c3, .bool c4, .bool c5, .bool c6, .bool c7], .int .u8 c] W fun e w' => e = .returned (.bool true) ∧ Below W.heap.size W w' := by
  have CK := fun w => ordCheck_any o.id o.ref o.sku o.qty o.amt w h1 h2
  have G := fun w => begin_any o w
  have O := fun w => led_any w
  simp only [sagaV, ordV, beginD] at G ⊢
  by_cases hk : ordCheck o.id o.ref o.sku o.qty o.amt = 0
  rotate_left
  · generalize ordCheck o.id o.ref o.sku o.qty o.amt = q at *
    have hkn : (q != 0) = true := by simpa using hk
    clear hk
    go_enter Try.func5, Try.ntmps5
    have HO := Own.start W
    go_wp2_with (first | (first | go_big_skip | ((with_reducible apply wpList_loadAll HO); exact rfl; exact rfl; (repeat (with_reducible (first | exact At.head _ | apply At.tail))); infer_instance; exact rfl; exact rfl; (simp only [Act.put, List.setIfInBounds_toArray, List.set_cons_succ, List.set_cons_zero])) | ((with_reducible apply wpList_loadOne HO); exact rfl; exact rfl; (repeat (with_reducible (first | exact At.head _ | apply At.tail))); exact rfl; infer_instance; exact rfl; (simp only [Act.put, List.setIfInBounds_toArray, List.set_cons_succ, List.set_cons_zero])) | ((with_reducible apply wpList_storeAll HO); exact rfl; exact rfl; exact rfl; (repeat (with_reducible (first | exact At.head _ | apply At.tail))); infer_instance; exact rfl; exact rfl; exact rfl; exact rfl; clear HO; intro w HO; (simp only [Act.put, List.setIfInBounds_toArray, List.set_cons_succ, List.set_cons_zero])) | (first | ((with_reducible apply wpList_boxAgg _ HO rfl); exact rfl; exact rfl; exact rfl; clear HO; intro b9 w HO; (simp only [Act.put, List.setIfInBounds_toArray, List.set_cons_succ, List.set_cons_zero])) | ((with_reducible apply wpList_allocAgg _ HO rfl); exact rfl; infer_instance; exact rfl; clear HO; intro b9 w HO; (simp only [Act.put, List.setIfInBounds_toArray, List.set_cons_succ, List.set_cons_zero])))) | (go_at_call 21; go_must ((with_reducible refine (CK _).mono ?_); rintro e w ⟨rfl, hb⟩; replace HO := HO.call hb; clear hb)) | (go_at_call 9; go_must ((with_reducible refine (O _).mono ?_); rintro e w ⟨rfl, hb⟩; replace HO := HO.call hb; clear hb)))
    go_ret
    exact ⟨rfl, HO.grown⟩
  have HV := Lib.hid (fun s (hs : s ∈ RL) => (show validS o s = true by simp [validS, hk, hs]))
  have hamt : (o.amt == 0) = false := by
    have := (ordCheck_ok hk).2.2.2.2.1
    simp; omega
  rw [hk] at CK
  clear hk
  go_enter Try.func5, Try.ntmps5
  have HO := Own.start W
  go_upto_block 0 with (first | (first | go_big_skip | ((with_reducible apply wpList_loadAll HO); exact rfl; exact rfl; (repeat (with_reducible (first | exact At.head _ | apply At.tail))); infer_instance; exact rfl; exact rfl; (simp only [Act.put, List.setIfInBounds_toArray, List.set_cons_succ, List.set_cons_zero])) | ((with_reducible apply wpList_loadOne HO); exact rfl; exact rfl; (repeat (with_reducible (first | exact At.head _ | apply At.tail))); exact rfl; infer_instance; exact rfl; (simp only [Act.put, List.setIfInBounds_toArray, List.set_cons_succ, List.set_cons_zero]))) | ((with_reducible apply wpList_storeAll HO); exact rfl; exact rfl; exact rfl; (repeat (with_reducible (first | exact At.head _ | apply At.tail))); infer_instance; exact rfl; exact rfl; exact rfl; exact rfl; clear HO; intro w HO; (simp only [Act.put, List.setIfInBounds_toArray, List.set_cons_succ, List.set_cons_zero])) | (first | ((with_reducible apply wpList_boxAgg 0 HO rfl); exact rfl; exact rfl; exact rfl; clear HO; intro b0 w HO; (simp only [Act.put, List.setIfInBounds_toArray, List.set_cons_succ, List.set_cons_zero])) | ((with_reducible apply wpList_allocAgg 0 HO rfl); exact rfl; infer_instance; exact rfl; clear HO; intro b0 w HO; (simp only [Act.put, List.setIfInBounds_toArray, List.set_cons_succ, List.set_cons_zero]))) | (first | ((with_reducible apply wpList_boxAgg 1 HO rfl); exact rfl; exact rfl; exact rfl; clear HO; intro b1 w HO; (simp only [Act.put, List.setIfInBounds_toArray, List.set_cons_succ, List.set_cons_zero])) | ((with_reducible apply wpList_allocAgg 1 HO rfl); exact rfl; infer_instance; exact rfl; clear HO; intro b1 w HO; (simp only [Act.put, List.setIfInBounds_toArray, List.set_cons_succ, List.set_cons_zero]))) | (first | ((with_reducible apply wpList_boxAgg 2 HO rfl); exact rfl; exact rfl; exact rfl; clear HO; intro b2 w HO; (simp only [Act.put, List.setIfInBounds_toArray, List.set_cons_succ, List.set_cons_zero])) | ((with_reducible apply wpList_allocAgg 2 HO rfl); exact rfl; infer_instance; exact rfl; clear HO; intro b2 w HO; (simp only [Act.put, List.setIfInBounds_toArray, List.set_cons_succ, List.set_cons_zero]))) | (go_at_call 21; go_must ((with_reducible refine (CK _).mono ?_); rintro e w ⟨rfl, hb⟩; replace HO := HO.call hb; clear hb)) | (go_at_call 19; go_must ((with_reducible refine (G _).mono ?_); rintro e w ⟨rfl, hb⟩; replace HO := HO.call hb; clear hb)))
  go_cut [8] (fun r wx => ∃ (j : Nat) (s : D6), (s = ⟨3, 0, 0, 0, 0, 0, false⟩ ∨ s = ⟨4, 0, 0, 2, 0, 0, true⟩ ∨ s = ⟨2, 2, 2, 0, 0, 0, false⟩ ∨ s = ⟨2, 3, 0, 2, 0, 0, false⟩ ∨ s = ⟨2, 4, 0, 2, 2, 0, true⟩ ∨ s = ⟨2, 2, 3, 2, 2, 0, false⟩ ∨ s = ⟨2, 2, 4, 2, 2, 2, true⟩) ∧ r = .int .i64 (j : Int) ∧ (j : Int) ≤ 6 ∧ Own W wx [box b2 (.cells (cellsOf o s) 26), box b1 (.cells #[.bool c0, .bool c1, .bool c2, .bool c3, .bool c4, .bool c5, .bool c6, .bool c7] 51), box b0 (.cells #[.int .i64 o.id, .string ⟨o.ref.toArray⟩, .string ⟨o.sku.toArray⟩, .int .i64 o.qty, .int .i64 o.amt] 23)])
  case rest =>
    clear HO
    obtain ⟨j, s, hs, rfl, hj6, HO⟩ := hcut
    rcases hs with rfl | rfl | rfl | rfl | rfl | rfl | rfl
    · have S := fun w => state_any o ⟨3, 0, 0, 0, 0, 0, false⟩ w
      rw [show stateOf ⟨3, 0, 0, 0, 0, 0, false⟩ = 3 by decide +kernel] at S
      have NN := fun w => sagaNet_any o ⟨3, 0, 0, 0, 0, 0, false⟩ w
      rw [show netS o ⟨3, 0, 0, 0, 0, 0, false⟩ = 0 by simp [netS]] at NN
      simp only [sagaV] at S NN
      simp only [cellsOf] at HO
      go_wp2_with (first | (first | go_big_skip | ((with_reducible apply wpList_loadAll HO); exact rfl; exact rfl; (repeat (with_reducible (first | exact At.head _ | apply At.tail))); infer_instance; exact rfl; exact rfl; (simp only [Act.put, List.setIfInBounds_toArray, List.set_cons_succ, List.set_cons_zero])) | ((with_reducible apply wpList_loadOne HO); exact rfl; exact rfl; (repeat (with_reducible (first | exact At.head _ | apply At.tail))); exact rfl; infer_instance; exact rfl; (simp only [Act.put, List.setIfInBounds_toArray, List.set_cons_succ, List.set_cons_zero]))) | (go_at_call 13; go_must ((with_reducible refine (S _).mono ?_); rintro e w ⟨rfl, hb⟩; replace HO := HO.call hb; clear hb)))
      refine wp_loop_rounds 4 ?_
      rw [rounds_succ]
      go_wp2_with (first | go_big_skip | ((with_reducible apply wpList_loadAll HO); exact rfl; exact rfl; (repeat (with_reducible (first | exact At.head _ | apply At.tail))); infer_instance; exact rfl; exact rfl; (simp only [Act.put, List.setIfInBounds_toArray, List.set_cons_succ, List.set_cons_zero])) | ((with_reducible apply wpList_loadOne HO); exact rfl; exact rfl; (repeat (with_reducible (first | exact At.head _ | apply At.tail))); exact rfl; infer_instance; exact rfl; (simp only [Act.put, List.setIfInBounds_toArray, List.set_cons_succ, List.set_cons_zero])))
      all_goals (try (rw [rounds_succ]; go_wp2_with (first | go_big_skip | ((with_reducible apply wpList_loadAll HO); exact rfl; exact rfl; (repeat (with_reducible (first | exact At.head _ | apply At.tail))); infer_instance; exact rfl; exact rfl; (simp only [Act.put, List.setIfInBounds_toArray, List.set_cons_succ, List.set_cons_zero])) | ((with_reducible apply wpList_loadOne HO); exact rfl; exact rfl; (repeat (with_reducible (first | exact At.head _ | apply At.tail))); exact rfl; infer_instance; exact rfl; (simp only [Act.put, List.setIfInBounds_toArray, List.set_cons_succ, List.set_cons_zero])))))
      all_goals (try (rw [rounds_succ]; go_wp2_with (first | go_big_skip | ((with_reducible apply wpList_loadAll HO); exact rfl; exact rfl; (repeat (with_reducible (first | exact At.head _ | apply At.tail))); infer_instance; exact rfl; exact rfl; (simp only [Act.put, List.setIfInBounds_toArray, List.set_cons_succ, List.set_cons_zero])) | ((with_reducible apply wpList_loadOne HO); exact rfl; exact rfl; (repeat (with_reducible (first | exact At.head _ | apply At.tail))); exact rfl; infer_instance; exact rfl; (simp only [Act.put, List.setIfInBounds_toArray, List.set_cons_succ, List.set_cons_zero])))))
      all_goals (try (rw [rounds_succ]; go_wp2_with (first | go_big_skip | ((with_reducible apply wpList_loadAll HO); exact rfl; exact rfl; (repeat (with_reducible (first | exact At.head _ | apply At.tail))); infer_instance; exact rfl; exact rfl; (simp only [Act.put, List.setIfInBounds_toArray, List.set_cons_succ, List.set_cons_zero])) | ((with_reducible apply wpList_loadOne HO); exact rfl; exact rfl; (repeat (with_reducible (first | exact At.head _ | apply At.tail))); exact rfl; infer_instance; exact rfl; (simp only [Act.put, List.setIfInBounds_toArray, List.set_cons_succ, List.set_cons_zero])))))
      refine region_own HO (by kernel_rfl) (by kernel_rfl) ?_
      clear HO
      intro F HF
      repeat (first | (first | go_big_quiet_skip | ((with_reducible apply wpQuiet_loadAll HF); exact rfl; exact rfl; (repeat (with_reducible (first | exact At.head _ | apply At.tail))); infer_instance; exact rfl; exact rfl; (simp only [Act.put, List.setIfInBounds_toArray, List.set_cons_succ, List.set_cons_zero])) | ((with_reducible apply wpQuiet_loadOne HF); exact rfl; exact rfl; (repeat (with_reducible (first | exact At.head _ | apply At.tail))); exact rfl; infer_instance; exact rfl; (simp only [Act.put, List.setIfInBounds_toArray, List.set_cons_succ, List.set_cons_zero])) | ((with_reducible apply wpQuiet_loadPart HF); exact rfl; exact rfl; (repeat (with_reducible (first | exact At.head _ | apply At.tail))); infer_instance; exact (by simp); (simp only [List.drop_succ_cons, List.drop_zero, List.take_succ_cons, List.take_zero]; rfl); exact rfl; (simp only [Act.put, List.setIfInBounds_toArray, List.set_cons_succ, List.set_cons_zero]))) | go_big_quiet_step ((first | (go_at_call 15; (with_reducible exact calls_fam HF (NN _))) | (go_at_call 9; (with_reducible exact calls_fam HF (O _))))) | quiet_step ((first | (go_at_call 15; (with_reducible exact calls_fam HF (NN _))) | (go_at_call 9; (with_reducible exact calls_fam HF (O _))))))
      refine wpQuiet_nil ?_
      intro x
      have HO := HF.own x
      clear HF
      generalize F x = w at *
      clear x F
      go_wp2_with fail
      go_ret
      exact ⟨rfl, HO.grown⟩
    · have S := fun w => state_any o ⟨4, 0, 0, 2, 0, 0, true⟩ w
      rw [show stateOf ⟨4, 0, 0, 2, 0, 0, true⟩ = 4 by decide +kernel] at S
      have NN := fun w => sagaNet_any o ⟨4, 0, 0, 2, 0, 0, true⟩ w
      rw [show netS o ⟨4, 0, 0, 2, 0, 0, true⟩ = 0 by simp [netS]] at NN
      simp only [sagaV] at S NN
      simp only [cellsOf] at HO
      go_wp2_with (first | (first | go_big_skip | ((with_reducible apply wpList_loadAll HO); exact rfl; exact rfl; (repeat (with_reducible (first | exact At.head _ | apply At.tail))); infer_instance; exact rfl; exact rfl; (simp only [Act.put, List.setIfInBounds_toArray, List.set_cons_succ, List.set_cons_zero])) | ((with_reducible apply wpList_loadOne HO); exact rfl; exact rfl; (repeat (with_reducible (first | exact At.head _ | apply At.tail))); exact rfl; infer_instance; exact rfl; (simp only [Act.put, List.setIfInBounds_toArray, List.set_cons_succ, List.set_cons_zero]))) | (go_at_call 13; go_must ((with_reducible refine (S _).mono ?_); rintro e w ⟨rfl, hb⟩; replace HO := HO.call hb; clear hb)))
      refine wp_loop_rounds 4 ?_
      rw [rounds_succ]
      go_wp2_with (first | go_big_skip | ((with_reducible apply wpList_loadAll HO); exact rfl; exact rfl; (repeat (with_reducible (first | exact At.head _ | apply At.tail))); infer_instance; exact rfl; exact rfl; (simp only [Act.put, List.setIfInBounds_toArray, List.set_cons_succ, List.set_cons_zero])) | ((with_reducible apply wpList_loadOne HO); exact rfl; exact rfl; (repeat (with_reducible (first | exact At.head _ | apply At.tail))); exact rfl; infer_instance; exact rfl; (simp only [Act.put, List.setIfInBounds_toArray, List.set_cons_succ, List.set_cons_zero])))
      all_goals (try (rw [rounds_succ]; go_wp2_with (first | go_big_skip | ((with_reducible apply wpList_loadAll HO); exact rfl; exact rfl; (repeat (with_reducible (first | exact At.head _ | apply At.tail))); infer_instance; exact rfl; exact rfl; (simp only [Act.put, List.setIfInBounds_toArray, List.set_cons_succ, List.set_cons_zero])) | ((with_reducible apply wpList_loadOne HO); exact rfl; exact rfl; (repeat (with_reducible (first | exact At.head _ | apply At.tail))); exact rfl; infer_instance; exact rfl; (simp only [Act.put, List.setIfInBounds_toArray, List.set_cons_succ, List.set_cons_zero])))))
      all_goals (try (rw [rounds_succ]; go_wp2_with (first | go_big_skip | ((with_reducible apply wpList_loadAll HO); exact rfl; exact rfl; (repeat (with_reducible (first | exact At.head _ | apply At.tail))); infer_instance; exact rfl; exact rfl; (simp only [Act.put, List.setIfInBounds_toArray, List.set_cons_succ, List.set_cons_zero])) | ((with_reducible apply wpList_loadOne HO); exact rfl; exact rfl; (repeat (with_reducible (first | exact At.head _ | apply At.tail))); exact rfl; infer_instance; exact rfl; (simp only [Act.put, List.setIfInBounds_toArray, List.set_cons_succ, List.set_cons_zero])))))
      all_goals (try (rw [rounds_succ]; go_wp2_with (first | go_big_skip | ((with_reducible apply wpList_loadAll HO); exact rfl; exact rfl; (repeat (with_reducible (first | exact At.head _ | apply At.tail))); infer_instance; exact rfl; exact rfl; (simp only [Act.put, List.setIfInBounds_toArray, List.set_cons_succ, List.set_cons_zero])) | ((with_reducible apply wpList_loadOne HO); exact rfl; exact rfl; (repeat (with_reducible (first | exact At.head _ | apply At.tail))); exact rfl; infer_instance; exact rfl; (simp only [Act.put, List.setIfInBounds_toArray, List.set_cons_succ, List.set_cons_zero])))))
      refine region_own HO (by kernel_rfl) (by kernel_rfl) ?_
      clear HO
      intro F HF
      repeat (first | (first | go_big_quiet_skip | ((with_reducible apply wpQuiet_loadAll HF); exact rfl; exact rfl; (repeat (with_reducible (first | exact At.head _ | apply At.tail))); infer_instance; exact rfl; exact rfl; (simp only [Act.put, List.setIfInBounds_toArray, List.set_cons_succ, List.set_cons_zero])) | ((with_reducible apply wpQuiet_loadOne HF); exact rfl; exact rfl; (repeat (with_reducible (first | exact At.head _ | apply At.tail))); exact rfl; infer_instance; exact rfl; (simp only [Act.put, List.setIfInBounds_toArray, List.set_cons_succ, List.set_cons_zero])) | ((with_reducible apply wpQuiet_loadPart HF); exact rfl; exact rfl; (repeat (with_reducible (first | exact At.head _ | apply At.tail))); infer_instance; exact (by simp); (simp only [List.drop_succ_cons, List.drop_zero, List.take_succ_cons, List.take_zero]; rfl); exact rfl; (simp only [Act.put, List.setIfInBounds_toArray, List.set_cons_succ, List.set_cons_zero]))) | go_big_quiet_step ((first | (go_at_call 15; (with_reducible exact calls_fam HF (NN _))) | (go_at_call 9; (with_reducible exact calls_fam HF (O _))))) | quiet_step ((first | (go_at_call 15; (with_reducible exact calls_fam HF (NN _))) | (go_at_call 9; (with_reducible exact calls_fam HF (O _))))))
      refine wpQuiet_nil ?_
      intro x
      have HO := HF.own x
      clear HF
      generalize F x = w at *
      clear x F
      go_wp2_with fail
      go_ret
      exact ⟨rfl, HO.grown⟩
    · have S := fun w => state_any o ⟨2, 2, 2, 0, 0, 0, false⟩ w
      rw [show stateOf ⟨2, 2, 2, 0, 0, 0, false⟩ = 2 by decide +kernel] at S
      have NN := fun w => sagaNet_any o ⟨2, 2, 2, 0, 0, 0, false⟩ w
      rw [show netS o ⟨2, 2, 2, 0, 0, 0, false⟩ = o.amt by simp [netS]] at NN
      simp only [sagaV] at S NN
      simp only [cellsOf] at HO
      go_wp2_with (first | (first | go_big_skip | ((with_reducible apply wpList_loadAll HO); exact rfl; exact rfl; (repeat (with_reducible (first | exact At.head _ | apply At.tail))); infer_instance; exact rfl; exact rfl; (simp only [Act.put, List.setIfInBounds_toArray, List.set_cons_succ, List.set_cons_zero])) | ((with_reducible apply wpList_loadOne HO); exact rfl; exact rfl; (repeat (with_reducible (first | exact At.head _ | apply At.tail))); exact rfl; infer_instance; exact rfl; (simp only [Act.put, List.setIfInBounds_toArray, List.set_cons_succ, List.set_cons_zero]))) | (go_at_call 13; go_must ((with_reducible refine (S _).mono ?_); rintro e w ⟨rfl, hb⟩; replace HO := HO.call hb; clear hb)))
      refine wp_loop_rounds 4 ?_
      rw [rounds_succ]
      go_wp2_with (first | go_big_skip | ((with_reducible apply wpList_loadAll HO); exact rfl; exact rfl; (repeat (with_reducible (first | exact At.head _ | apply At.tail))); infer_instance; exact rfl; exact rfl; (simp only [Act.put, List.setIfInBounds_toArray, List.set_cons_succ, List.set_cons_zero])) | ((with_reducible apply wpList_loadOne HO); exact rfl; exact rfl; (repeat (with_reducible (first | exact At.head _ | apply At.tail))); exact rfl; infer_instance; exact rfl; (simp only [Act.put, List.setIfInBounds_toArray, List.set_cons_succ, List.set_cons_zero])))
      all_goals (try (rw [rounds_succ]; go_wp2_with (first | go_big_skip | ((with_reducible apply wpList_loadAll HO); exact rfl; exact rfl; (repeat (with_reducible (first | exact At.head _ | apply At.tail))); infer_instance; exact rfl; exact rfl; (simp only [Act.put, List.setIfInBounds_toArray, List.set_cons_succ, List.set_cons_zero])) | ((with_reducible apply wpList_loadOne HO); exact rfl; exact rfl; (repeat (with_reducible (first | exact At.head _ | apply At.tail))); exact rfl; infer_instance; exact rfl; (simp only [Act.put, List.setIfInBounds_toArray, List.set_cons_succ, List.set_cons_zero])))))
      all_goals (try (rw [rounds_succ]; go_wp2_with (first | go_big_skip | ((with_reducible apply wpList_loadAll HO); exact rfl; exact rfl; (repeat (with_reducible (first | exact At.head _ | apply At.tail))); infer_instance; exact rfl; exact rfl; (simp only [Act.put, List.setIfInBounds_toArray, List.set_cons_succ, List.set_cons_zero])) | ((with_reducible apply wpList_loadOne HO); exact rfl; exact rfl; (repeat (with_reducible (first | exact At.head _ | apply At.tail))); exact rfl; infer_instance; exact rfl; (simp only [Act.put, List.setIfInBounds_toArray, List.set_cons_succ, List.set_cons_zero])))))
      all_goals (try (rw [rounds_succ]; go_wp2_with (first | go_big_skip | ((with_reducible apply wpList_loadAll HO); exact rfl; exact rfl; (repeat (with_reducible (first | exact At.head _ | apply At.tail))); infer_instance; exact rfl; exact rfl; (simp only [Act.put, List.setIfInBounds_toArray, List.set_cons_succ, List.set_cons_zero])) | ((with_reducible apply wpList_loadOne HO); exact rfl; exact rfl; (repeat (with_reducible (first | exact At.head _ | apply At.tail))); exact rfl; infer_instance; exact rfl; (simp only [Act.put, List.setIfInBounds_toArray, List.set_cons_succ, List.set_cons_zero])))))
      refine region_own HO (by kernel_rfl) (by kernel_rfl) ?_
      clear HO
      intro F HF
      repeat (first | (first | go_big_quiet_skip | ((with_reducible apply wpQuiet_loadAll HF); exact rfl; exact rfl; (repeat (with_reducible (first | exact At.head _ | apply At.tail))); infer_instance; exact rfl; exact rfl; (simp only [Act.put, List.setIfInBounds_toArray, List.set_cons_succ, List.set_cons_zero])) | ((with_reducible apply wpQuiet_loadOne HF); exact rfl; exact rfl; (repeat (with_reducible (first | exact At.head _ | apply At.tail))); exact rfl; infer_instance; exact rfl; (simp only [Act.put, List.setIfInBounds_toArray, List.set_cons_succ, List.set_cons_zero])) | ((with_reducible apply wpQuiet_loadPart HF); exact rfl; exact rfl; (repeat (with_reducible (first | exact At.head _ | apply At.tail))); infer_instance; exact (by simp); (simp only [List.drop_succ_cons, List.drop_zero, List.take_succ_cons, List.take_zero]; rfl); exact rfl; (simp only [Act.put, List.setIfInBounds_toArray, List.set_cons_succ, List.set_cons_zero]))) | go_big_quiet_step ((first | (go_at_call 15; (with_reducible exact calls_fam HF (NN _))) | (go_at_call 9; (with_reducible exact calls_fam HF (O _))))) | quiet_step ((first | (go_at_call 15; (with_reducible exact calls_fam HF (NN _))) | (go_at_call 9; (with_reducible exact calls_fam HF (O _))))))
      refine wpQuiet_nil ?_
      intro x
      have HO := HF.own x
      clear HF
      generalize F x = w at *
      clear x F
      go_wp2_with fail
      go_ret
      exact ⟨rfl, HO.grown⟩
    · have S := fun w => state_any o ⟨2, 3, 0, 2, 0, 0, false⟩ w
      rw [show stateOf ⟨2, 3, 0, 2, 0, 0, false⟩ = 3 by decide +kernel] at S
      have NN := fun w => sagaNet_any o ⟨2, 3, 0, 2, 0, 0, false⟩ w
      rw [show netS o ⟨2, 3, 0, 2, 0, 0, false⟩ = 0 by simp [netS]] at NN
      simp only [sagaV] at S NN
      simp only [cellsOf] at HO
      go_wp2_with (first | (first | go_big_skip | ((with_reducible apply wpList_loadAll HO); exact rfl; exact rfl; (repeat (with_reducible (first | exact At.head _ | apply At.tail))); infer_instance; exact rfl; exact rfl; (simp only [Act.put, List.setIfInBounds_toArray, List.set_cons_succ, List.set_cons_zero])) | ((with_reducible apply wpList_loadOne HO); exact rfl; exact rfl; (repeat (with_reducible (first | exact At.head _ | apply At.tail))); exact rfl; infer_instance; exact rfl; (simp only [Act.put, List.setIfInBounds_toArray, List.set_cons_succ, List.set_cons_zero]))) | (go_at_call 13; go_must ((with_reducible refine (S _).mono ?_); rintro e w ⟨rfl, hb⟩; replace HO := HO.call hb; clear hb)))
      refine wp_loop_rounds 4 ?_
      rw [rounds_succ]
      go_wp2_with (first | go_big_skip | ((with_reducible apply wpList_loadAll HO); exact rfl; exact rfl; (repeat (with_reducible (first | exact At.head _ | apply At.tail))); infer_instance; exact rfl; exact rfl; (simp only [Act.put, List.setIfInBounds_toArray, List.set_cons_succ, List.set_cons_zero])) | ((with_reducible apply wpList_loadOne HO); exact rfl; exact rfl; (repeat (with_reducible (first | exact At.head _ | apply At.tail))); exact rfl; infer_instance; exact rfl; (simp only [Act.put, List.setIfInBounds_toArray, List.set_cons_succ, List.set_cons_zero])))
      all_goals (try (rw [rounds_succ]; go_wp2_with (first | go_big_skip | ((with_reducible apply wpList_loadAll HO); exact rfl; exact rfl; (repeat (with_reducible (first | exact At.head _ | apply At.tail))); infer_instance; exact rfl; exact rfl; (simp only [Act.put, List.setIfInBounds_toArray, List.set_cons_succ, List.set_cons_zero])) | ((with_reducible apply wpList_loadOne HO); exact rfl; exact rfl; (repeat (with_reducible (first | exact At.head _ | apply At.tail))); exact rfl; infer_instance; exact rfl; (simp only [Act.put, List.setIfInBounds_toArray, List.set_cons_succ, List.set_cons_zero])))))
      all_goals (try (rw [rounds_succ]; go_wp2_with (first | go_big_skip | ((with_reducible apply wpList_loadAll HO); exact rfl; exact rfl; (repeat (with_reducible (first | exact At.head _ | apply At.tail))); infer_instance; exact rfl; exact rfl; (simp only [Act.put, List.setIfInBounds_toArray, List.set_cons_succ, List.set_cons_zero])) | ((with_reducible apply wpList_loadOne HO); exact rfl; exact rfl; (repeat (with_reducible (first | exact At.head _ | apply At.tail))); exact rfl; infer_instance; exact rfl; (simp only [Act.put, List.setIfInBounds_toArray, List.set_cons_succ, List.set_cons_zero])))))
      all_goals (try (rw [rounds_succ]; go_wp2_with (first | go_big_skip | ((with_reducible apply wpList_loadAll HO); exact rfl; exact rfl; (repeat (with_reducible (first | exact At.head _ | apply At.tail))); infer_instance; exact rfl; exact rfl; (simp only [Act.put, List.setIfInBounds_toArray, List.set_cons_succ, List.set_cons_zero])) | ((with_reducible apply wpList_loadOne HO); exact rfl; exact rfl; (repeat (with_reducible (first | exact At.head _ | apply At.tail))); exact rfl; infer_instance; exact rfl; (simp only [Act.put, List.setIfInBounds_toArray, List.set_cons_succ, List.set_cons_zero])))))
      refine region_own HO (by kernel_rfl) (by kernel_rfl) ?_
      clear HO
      intro F HF
      repeat (first | (first | go_big_quiet_skip | ((with_reducible apply wpQuiet_loadAll HF); exact rfl; exact rfl; (repeat (with_reducible (first | exact At.head _ | apply At.tail))); infer_instance; exact rfl; exact rfl; (simp only [Act.put, List.setIfInBounds_toArray, List.set_cons_succ, List.set_cons_zero])) | ((with_reducible apply wpQuiet_loadOne HF); exact rfl; exact rfl; (repeat (with_reducible (first | exact At.head _ | apply At.tail))); exact rfl; infer_instance; exact rfl; (simp only [Act.put, List.setIfInBounds_toArray, List.set_cons_succ, List.set_cons_zero])) | ((with_reducible apply wpQuiet_loadPart HF); exact rfl; exact rfl; (repeat (with_reducible (first | exact At.head _ | apply At.tail))); infer_instance; exact (by simp); (simp only [List.drop_succ_cons, List.drop_zero, List.take_succ_cons, List.take_zero]; rfl); exact rfl; (simp only [Act.put, List.setIfInBounds_toArray, List.set_cons_succ, List.set_cons_zero]))) | go_big_quiet_step ((first | (go_at_call 15; (with_reducible exact calls_fam HF (NN _))) | (go_at_call 9; (with_reducible exact calls_fam HF (O _))))) | quiet_step ((first | (go_at_call 15; (with_reducible exact calls_fam HF (NN _))) | (go_at_call 9; (with_reducible exact calls_fam HF (O _))))))
      refine wpQuiet_nil ?_
      intro x
      have HO := HF.own x
      clear HF
      generalize F x = w at *
      clear x F
      go_wp2_with fail
      go_ret
      exact ⟨rfl, HO.grown⟩
    · have S := fun w => state_any o ⟨2, 4, 0, 2, 2, 0, true⟩ w
      rw [show stateOf ⟨2, 4, 0, 2, 2, 0, true⟩ = 4 by decide +kernel] at S
      have NN := fun w => sagaNet_any o ⟨2, 4, 0, 2, 2, 0, true⟩ w
      rw [show netS o ⟨2, 4, 0, 2, 2, 0, true⟩ = 0 by simp [netS]] at NN
      simp only [sagaV] at S NN
      simp only [cellsOf] at HO
      go_wp2_with (first | (first | go_big_skip | ((with_reducible apply wpList_loadAll HO); exact rfl; exact rfl; (repeat (with_reducible (first | exact At.head _ | apply At.tail))); infer_instance; exact rfl; exact rfl; (simp only [Act.put, List.setIfInBounds_toArray, List.set_cons_succ, List.set_cons_zero])) | ((with_reducible apply wpList_loadOne HO); exact rfl; exact rfl; (repeat (with_reducible (first | exact At.head _ | apply At.tail))); exact rfl; infer_instance; exact rfl; (simp only [Act.put, List.setIfInBounds_toArray, List.set_cons_succ, List.set_cons_zero]))) | (go_at_call 13; go_must ((with_reducible refine (S _).mono ?_); rintro e w ⟨rfl, hb⟩; replace HO := HO.call hb; clear hb)))
      refine wp_loop_rounds 4 ?_
      rw [rounds_succ]
      go_wp2_with (first | go_big_skip | ((with_reducible apply wpList_loadAll HO); exact rfl; exact rfl; (repeat (with_reducible (first | exact At.head _ | apply At.tail))); infer_instance; exact rfl; exact rfl; (simp only [Act.put, List.setIfInBounds_toArray, List.set_cons_succ, List.set_cons_zero])) | ((with_reducible apply wpList_loadOne HO); exact rfl; exact rfl; (repeat (with_reducible (first | exact At.head _ | apply At.tail))); exact rfl; infer_instance; exact rfl; (simp only [Act.put, List.setIfInBounds_toArray, List.set_cons_succ, List.set_cons_zero])))
      all_goals (try (rw [rounds_succ]; go_wp2_with (first | go_big_skip | ((with_reducible apply wpList_loadAll HO); exact rfl; exact rfl; (repeat (with_reducible (first | exact At.head _ | apply At.tail))); infer_instance; exact rfl; exact rfl; (simp only [Act.put, List.setIfInBounds_toArray, List.set_cons_succ, List.set_cons_zero])) | ((with_reducible apply wpList_loadOne HO); exact rfl; exact rfl; (repeat (with_reducible (first | exact At.head _ | apply At.tail))); exact rfl; infer_instance; exact rfl; (simp only [Act.put, List.setIfInBounds_toArray, List.set_cons_succ, List.set_cons_zero])))))
      all_goals (try (rw [rounds_succ]; go_wp2_with (first | go_big_skip | ((with_reducible apply wpList_loadAll HO); exact rfl; exact rfl; (repeat (with_reducible (first | exact At.head _ | apply At.tail))); infer_instance; exact rfl; exact rfl; (simp only [Act.put, List.setIfInBounds_toArray, List.set_cons_succ, List.set_cons_zero])) | ((with_reducible apply wpList_loadOne HO); exact rfl; exact rfl; (repeat (with_reducible (first | exact At.head _ | apply At.tail))); exact rfl; infer_instance; exact rfl; (simp only [Act.put, List.setIfInBounds_toArray, List.set_cons_succ, List.set_cons_zero])))))
      all_goals (try (rw [rounds_succ]; go_wp2_with (first | go_big_skip | ((with_reducible apply wpList_loadAll HO); exact rfl; exact rfl; (repeat (with_reducible (first | exact At.head _ | apply At.tail))); infer_instance; exact rfl; exact rfl; (simp only [Act.put, List.setIfInBounds_toArray, List.set_cons_succ, List.set_cons_zero])) | ((with_reducible apply wpList_loadOne HO); exact rfl; exact rfl; (repeat (with_reducible (first | exact At.head _ | apply At.tail))); exact rfl; infer_instance; exact rfl; (simp only [Act.put, List.setIfInBounds_toArray, List.set_cons_succ, List.set_cons_zero])))))
      refine region_own HO (by kernel_rfl) (by kernel_rfl) ?_
      clear HO
      intro F HF
      repeat (first | (first | go_big_quiet_skip | ((with_reducible apply wpQuiet_loadAll HF); exact rfl; exact rfl; (repeat (with_reducible (first | exact At.head _ | apply At.tail))); infer_instance; exact rfl; exact rfl; (simp only [Act.put, List.setIfInBounds_toArray, List.set_cons_succ, List.set_cons_zero])) | ((with_reducible apply wpQuiet_loadOne HF); exact rfl; exact rfl; (repeat (with_reducible (first | exact At.head _ | apply At.tail))); exact rfl; infer_instance; exact rfl; (simp only [Act.put, List.setIfInBounds_toArray, List.set_cons_succ, List.set_cons_zero])) | ((with_reducible apply wpQuiet_loadPart HF); exact rfl; exact rfl; (repeat (with_reducible (first | exact At.head _ | apply At.tail))); infer_instance; exact (by simp); (simp only [List.drop_succ_cons, List.drop_zero, List.take_succ_cons, List.take_zero]; rfl); exact rfl; (simp only [Act.put, List.setIfInBounds_toArray, List.set_cons_succ, List.set_cons_zero]))) | go_big_quiet_step ((first | (go_at_call 15; (with_reducible exact calls_fam HF (NN _))) | (go_at_call 9; (with_reducible exact calls_fam HF (O _))))) | quiet_step ((first | (go_at_call 15; (with_reducible exact calls_fam HF (NN _))) | (go_at_call 9; (with_reducible exact calls_fam HF (O _))))))
      refine wpQuiet_nil ?_
      intro x
      have HO := HF.own x
      clear HF
      generalize F x = w at *
      clear x F
      go_wp2_with fail
      go_ret
      exact ⟨rfl, HO.grown⟩
    · have S := fun w => state_any o ⟨2, 2, 3, 2, 2, 0, false⟩ w
      rw [show stateOf ⟨2, 2, 3, 2, 2, 0, false⟩ = 3 by decide +kernel] at S
      have NN := fun w => sagaNet_any o ⟨2, 2, 3, 2, 2, 0, false⟩ w
      rw [show netS o ⟨2, 2, 3, 2, 2, 0, false⟩ = 0 by simp [netS]] at NN
      simp only [sagaV] at S NN
      simp only [cellsOf] at HO
      go_wp2_with (first | (first | go_big_skip | ((with_reducible apply wpList_loadAll HO); exact rfl; exact rfl; (repeat (with_reducible (first | exact At.head _ | apply At.tail))); infer_instance; exact rfl; exact rfl; (simp only [Act.put, List.setIfInBounds_toArray, List.set_cons_succ, List.set_cons_zero])) | ((with_reducible apply wpList_loadOne HO); exact rfl; exact rfl; (repeat (with_reducible (first | exact At.head _ | apply At.tail))); exact rfl; infer_instance; exact rfl; (simp only [Act.put, List.setIfInBounds_toArray, List.set_cons_succ, List.set_cons_zero]))) | (go_at_call 13; go_must ((with_reducible refine (S _).mono ?_); rintro e w ⟨rfl, hb⟩; replace HO := HO.call hb; clear hb)))
      refine wp_loop_rounds 4 ?_
      rw [rounds_succ]
      go_wp2_with (first | go_big_skip | ((with_reducible apply wpList_loadAll HO); exact rfl; exact rfl; (repeat (with_reducible (first | exact At.head _ | apply At.tail))); infer_instance; exact rfl; exact rfl; (simp only [Act.put, List.setIfInBounds_toArray, List.set_cons_succ, List.set_cons_zero])) | ((with_reducible apply wpList_loadOne HO); exact rfl; exact rfl; (repeat (with_reducible (first | exact At.head _ | apply At.tail))); exact rfl; infer_instance; exact rfl; (simp only [Act.put, List.setIfInBounds_toArray, List.set_cons_succ, List.set_cons_zero])))
      all_goals (try (rw [rounds_succ]; go_wp2_with (first | go_big_skip | ((with_reducible apply wpList_loadAll HO); exact rfl; exact rfl; (repeat (with_reducible (first | exact At.head _ | apply At.tail))); infer_instance; exact rfl; exact rfl; (simp only [Act.put, List.setIfInBounds_toArray, List.set_cons_succ, List.set_cons_zero])) | ((with_reducible apply wpList_loadOne HO); exact rfl; exact rfl; (repeat (with_reducible (first | exact At.head _ | apply At.tail))); exact rfl; infer_instance; exact rfl; (simp only [Act.put, List.setIfInBounds_toArray, List.set_cons_succ, List.set_cons_zero])))))
      all_goals (try (rw [rounds_succ]; go_wp2_with (first | go_big_skip | ((with_reducible apply wpList_loadAll HO); exact rfl; exact rfl; (repeat (with_reducible (first | exact At.head _ | apply At.tail))); infer_instance; exact rfl; exact rfl; (simp only [Act.put, List.setIfInBounds_toArray, List.set_cons_succ, List.set_cons_zero])) | ((with_reducible apply wpList_loadOne HO); exact rfl; exact rfl; (repeat (with_reducible (first | exact At.head _ | apply At.tail))); exact rfl; infer_instance; exact rfl; (simp only [Act.put, List.setIfInBounds_toArray, List.set_cons_succ, List.set_cons_zero])))))
      all_goals (try (rw [rounds_succ]; go_wp2_with (first | go_big_skip | ((with_reducible apply wpList_loadAll HO); exact rfl; exact rfl; (repeat (with_reducible (first | exact At.head _ | apply At.tail))); infer_instance; exact rfl; exact rfl; (simp only [Act.put, List.setIfInBounds_toArray, List.set_cons_succ, List.set_cons_zero])) | ((with_reducible apply wpList_loadOne HO); exact rfl; exact rfl; (repeat (with_reducible (first | exact At.head _ | apply At.tail))); exact rfl; infer_instance; exact rfl; (simp only [Act.put, List.setIfInBounds_toArray, List.set_cons_succ, List.set_cons_zero])))))
      refine region_own HO (by kernel_rfl) (by kernel_rfl) ?_
      clear HO
      intro F HF
      repeat (first | (first | go_big_quiet_skip | ((with_reducible apply wpQuiet_loadAll HF); exact rfl; exact rfl; (repeat (with_reducible (first | exact At.head _ | apply At.tail))); infer_instance; exact rfl; exact rfl; (simp only [Act.put, List.setIfInBounds_toArray, List.set_cons_succ, List.set_cons_zero])) | ((with_reducible apply wpQuiet_loadOne HF); exact rfl; exact rfl; (repeat (with_reducible (first | exact At.head _ | apply At.tail))); exact rfl; infer_instance; exact rfl; (simp only [Act.put, List.setIfInBounds_toArray, List.set_cons_succ, List.set_cons_zero])) | ((with_reducible apply wpQuiet_loadPart HF); exact rfl; exact rfl; (repeat (with_reducible (first | exact At.head _ | apply At.tail))); infer_instance; exact (by simp); (simp only [List.drop_succ_cons, List.drop_zero, List.take_succ_cons, List.take_zero]; rfl); exact rfl; (simp only [Act.put, List.setIfInBounds_toArray, List.set_cons_succ, List.set_cons_zero]))) | go_big_quiet_step ((first | (go_at_call 15; (with_reducible exact calls_fam HF (NN _))) | (go_at_call 9; (with_reducible exact calls_fam HF (O _))))) | quiet_step ((first | (go_at_call 15; (with_reducible exact calls_fam HF (NN _))) | (go_at_call 9; (with_reducible exact calls_fam HF (O _))))))
      refine wpQuiet_nil ?_
      intro x
      have HO := HF.own x
      clear HF
      generalize F x = w at *
      clear x F
      go_wp2_with fail
      go_ret
      exact ⟨rfl, HO.grown⟩
    · have S := fun w => state_any o ⟨2, 2, 4, 2, 2, 2, true⟩ w
      rw [show stateOf ⟨2, 2, 4, 2, 2, 2, true⟩ = 4 by decide +kernel] at S
      have NN := fun w => sagaNet_any o ⟨2, 2, 4, 2, 2, 2, true⟩ w
      rw [show netS o ⟨2, 2, 4, 2, 2, 2, true⟩ = 0 by simp [netS]] at NN
      simp only [sagaV] at S NN
      simp only [cellsOf] at HO
      go_wp2_with (first | (first | go_big_skip | ((with_reducible apply wpList_loadAll HO); exact rfl; exact rfl; (repeat (with_reducible (first | exact At.head _ | apply At.tail))); infer_instance; exact rfl; exact rfl; (simp only [Act.put, List.setIfInBounds_toArray, List.set_cons_succ, List.set_cons_zero])) | ((with_reducible apply wpList_loadOne HO); exact rfl; exact rfl; (repeat (with_reducible (first | exact At.head _ | apply At.tail))); exact rfl; infer_instance; exact rfl; (simp only [Act.put, List.setIfInBounds_toArray, List.set_cons_succ, List.set_cons_zero]))) | (go_at_call 13; go_must ((with_reducible refine (S _).mono ?_); rintro e w ⟨rfl, hb⟩; replace HO := HO.call hb; clear hb)))
      refine wp_loop_rounds 4 ?_
      rw [rounds_succ]
      go_wp2_with (first | go_big_skip | ((with_reducible apply wpList_loadAll HO); exact rfl; exact rfl; (repeat (with_reducible (first | exact At.head _ | apply At.tail))); infer_instance; exact rfl; exact rfl; (simp only [Act.put, List.setIfInBounds_toArray, List.set_cons_succ, List.set_cons_zero])) | ((with_reducible apply wpList_loadOne HO); exact rfl; exact rfl; (repeat (with_reducible (first | exact At.head _ | apply At.tail))); exact rfl; infer_instance; exact rfl; (simp only [Act.put, List.setIfInBounds_toArray, List.set_cons_succ, List.set_cons_zero])))
      all_goals (try (rw [rounds_succ]; go_wp2_with (first | go_big_skip | ((with_reducible apply wpList_loadAll HO); exact rfl; exact rfl; (repeat (with_reducible (first | exact At.head _ | apply At.tail))); infer_instance; exact rfl; exact rfl; (simp only [Act.put, List.setIfInBounds_toArray, List.set_cons_succ, List.set_cons_zero])) | ((with_reducible apply wpList_loadOne HO); exact rfl; exact rfl; (repeat (with_reducible (first | exact At.head _ | apply At.tail))); exact rfl; infer_instance; exact rfl; (simp only [Act.put, List.setIfInBounds_toArray, List.set_cons_succ, List.set_cons_zero])))))
      all_goals (try (rw [rounds_succ]; go_wp2_with (first | go_big_skip | ((with_reducible apply wpList_loadAll HO); exact rfl; exact rfl; (repeat (with_reducible (first | exact At.head _ | apply At.tail))); infer_instance; exact rfl; exact rfl; (simp only [Act.put, List.setIfInBounds_toArray, List.set_cons_succ, List.set_cons_zero])) | ((with_reducible apply wpList_loadOne HO); exact rfl; exact rfl; (repeat (with_reducible (first | exact At.head _ | apply At.tail))); exact rfl; infer_instance; exact rfl; (simp only [Act.put, List.setIfInBounds_toArray, List.set_cons_succ, List.set_cons_zero])))))
      all_goals (try (rw [rounds_succ]; go_wp2_with (first | go_big_skip | ((with_reducible apply wpList_loadAll HO); exact rfl; exact rfl; (repeat (with_reducible (first | exact At.head _ | apply At.tail))); infer_instance; exact rfl; exact rfl; (simp only [Act.put, List.setIfInBounds_toArray, List.set_cons_succ, List.set_cons_zero])) | ((with_reducible apply wpList_loadOne HO); exact rfl; exact rfl; (repeat (with_reducible (first | exact At.head _ | apply At.tail))); exact rfl; infer_instance; exact rfl; (simp only [Act.put, List.setIfInBounds_toArray, List.set_cons_succ, List.set_cons_zero])))))
      refine region_own HO (by kernel_rfl) (by kernel_rfl) ?_
      clear HO
      intro F HF
      repeat (first | (first | go_big_quiet_skip | ((with_reducible apply wpQuiet_loadAll HF); exact rfl; exact rfl; (repeat (with_reducible (first | exact At.head _ | apply At.tail))); infer_instance; exact rfl; exact rfl; (simp only [Act.put, List.setIfInBounds_toArray, List.set_cons_succ, List.set_cons_zero])) | ((with_reducible apply wpQuiet_loadOne HF); exact rfl; exact rfl; (repeat (with_reducible (first | exact At.head _ | apply At.tail))); exact rfl; infer_instance; exact rfl; (simp only [Act.put, List.setIfInBounds_toArray, List.set_cons_succ, List.set_cons_zero])) | ((with_reducible apply wpQuiet_loadPart HF); exact rfl; exact rfl; (repeat (with_reducible (first | exact At.head _ | apply At.tail))); infer_instance; exact (by simp); (simp only [List.drop_succ_cons, List.drop_zero, List.take_succ_cons, List.take_zero]; rfl); exact rfl; (simp only [Act.put, List.setIfInBounds_toArray, List.set_cons_succ, List.set_cons_zero]))) | go_big_quiet_step ((first | (go_at_call 15; (with_reducible exact calls_fam HF (NN _))) | (go_at_call 9; (with_reducible exact calls_fam HF (O _))))) | quiet_step ((first | (go_at_call 15; (with_reducible exact calls_fam HF (NN _))) | (go_at_call 9; (with_reducible exact calls_fam HF (O _))))))
      refine wpQuiet_nil ?_
      intro x
      have HO := HF.own x
      clear HF
      generalize F x = w at *
      clear x F
      go_wp2_with fail
      go_ret
      exact ⟨rfl, HO.grown⟩
  case first =>
    go_wp2_with (first | go_big_skip | ((with_reducible apply wpList_loadAll HO); exact rfl; exact rfl; (repeat (with_reducible (first | exact At.head _ | apply At.tail))); infer_instance; exact rfl; exact rfl; (simp only [Act.put, List.setIfInBounds_toArray, List.set_cons_succ, List.set_cons_zero])) | ((with_reducible apply wpList_loadOne HO); exact rfl; exact rfl; (repeat (with_reducible (first | exact At.head _ | apply At.tail))); exact rfl; infer_instance; exact rfl; (simp only [Act.put, List.setIfInBounds_toArray, List.set_cons_succ, List.set_cons_zero])))
    go_loopw [8, 9] (fun r i wr => ∃ (j : Nat) (s : D6), j ≤ 6 ∧ s ∈ RL ∧ j ≤ fin s ∧ r = .int .i64 (j : Int) ∧ i = .int .i64 (j : Int) ∧ Own W wr [box b2 (.cells (cellsOf o s) 26), box b1 (.cells #[.bool c0, .bool c1, .bool c2, .bool c3, .bool c4, .bool c5, .bool c6, .bool c7] 51), box b0 (.cells #[.int .i64 o.id, .string ⟨o.ref.toArray⟩, .string ⟨o.sku.toArray⟩, .int .i64 o.qty, .int .i64 o.amt] 23)]) (fun _ i _ => 8 - (intOf i).toNat)
    case atStart => exact ⟨0, beginD, by omega, start_ok.1, by omega, rfl, rfl, HO⟩
    case round =>
      clear HO
      obtain ⟨j, s, hj, hsR, hfj, rfl, rfl, HO⟩ := hrel
      have hj8 : (j : Int) < 8 := by omega
      have hj6 : (j : Int) ≤ 6 := by omega
      have HCB := Lib.hid (show [.bool c0, .bool c1, .bool c2, .bool c3, .bool c4, .bool c5, .bool c6, .bool c7][j]? = some (Value.bool ([c0, c1, c2, c3, c4, c5, c6, c7].getD j false)) by
        have hcs : j = 0 ∨ j = 1 ∨ j = 2 ∨ j = 3 ∨ j = 4 ∨ j = 5 ∨ j = 6 := by omega
        rcases hcs with rfl | rfl | rfl | rfl | rfl | rfl | rfl <;> rfl)
      simp only [cellsOf] at HO
      by_cases hjc : (j : Int) = c % 12
      · have hjb : ((j : Int) == c % 12) = true := by simpa using hjc
        clear hjc
        cases hst : stopOf s with
        | none =>
          by_cases hwv : (waitsOf s).2 = true
          rotate_left
          · have hwv : (waitsOf s).2 = false := by simpa using hwv
            have HE := Lib.hid (ended_of s hsR hwv)
            have V := fun w => valid_any o s w h1 h2
            rw [HV.out s hsR] at V
            have X := fun w => waits_any o s w
            have P := fun w => stop_any o s w
            have S := fun w => state_any o s w
            generalize waitsOf s = p at *
            obtain ⟨n, v⟩ := p
            simp only at X hwv
            subst hwv
            rw [hst] at P
            simp only [stopV, noneV, sagaV] at P
            have hqn := (stop_state s).1 hst
            generalize stateOf s = q at *
            have hqb : (q == 0) = false := by simpa using hqn
            simp only [sagaV] at S
            clear hqn hst
            simp only [sagaV] at V X
            have HR := Lib.hid hsR
            clear hsR
            go_wp2_with (first | ((with_reducible apply wpList_loadOne HO); exact rfl; exact rfl; (repeat (with_reducible (first | exact At.head _ | apply At.tail))); exact HCB.out; infer_instance; exact rfl; (simp only [Act.put, List.setIfInBounds_toArray, List.set_cons_succ, List.set_cons_zero])) | (first | go_big_skip | ((with_reducible apply wpList_loadAll HO); exact rfl; exact rfl; (repeat (with_reducible (first | exact At.head _ | apply At.tail))); infer_instance; exact rfl; exact rfl; (simp only [Act.put, List.setIfInBounds_toArray, List.set_cons_succ, List.set_cons_zero])) | ((with_reducible apply wpList_loadOne HO); exact rfl; exact rfl; (repeat (with_reducible (first | exact At.head _ | apply At.tail))); exact rfl; infer_instance; exact rfl; (simp only [Act.put, List.setIfInBounds_toArray, List.set_cons_succ, List.set_cons_zero])) | ((with_reducible apply wpList_storeAll HO); exact rfl; exact rfl; exact rfl; (repeat (with_reducible (first | exact At.head _ | apply At.tail))); infer_instance; exact rfl; exact rfl; exact rfl; exact rfl; clear HO; intro w HO; (simp only [Act.put, List.setIfInBounds_toArray, List.set_cons_succ, List.set_cons_zero])) | (first | ((with_reducible apply wpList_boxAgg _ HO rfl); exact rfl; exact rfl; exact rfl; clear HO; intro b9 w HO; (simp only [Act.put, List.setIfInBounds_toArray, List.set_cons_succ, List.set_cons_zero])) | ((with_reducible apply wpList_allocAgg _ HO rfl); exact rfl; infer_instance; exact rfl; clear HO; intro b9 w HO; (simp only [Act.put, List.setIfInBounds_toArray, List.set_cons_succ, List.set_cons_zero])))) | (go_at_call 8; go_must ((with_reducible refine (V _).mono ?_); rintro e w ⟨rfl, hb⟩; replace HO := HO.call hb; clear hb)) | (go_at_call 6; go_must ((with_reducible refine (X _).mono ?_); rintro e w ⟨rfl, hb⟩; replace HO := HO.call hb; clear hb)) | (go_at_call 11; go_must ((with_reducible refine (P _).mono ?_); rintro e w ⟨rfl, hb⟩; replace HO := HO.call hb; clear hb)) | (go_at_call 13; go_must ((with_reducible refine (S _).mono ?_); rintro e w ⟨rfl, hb⟩; replace HO := HO.call hb; clear hb)))
            go_meet
            exact ⟨j, s, HE.out, rfl, hj6, HO.tail⟩
          · skip
            have V := fun w => valid_any o s w h1 h2
            rw [HV.out s hsR] at V
            have X := fun w => waits_any o s w
            have hcs := waitsOf_cases s
            have hrp := reply_ok s hsR
            have hrf := refused_ok s hsR
            have hfn := fin_ok s hsR
            have hwy := ways_ok s hsR
            generalize hw : waitsOf s = p at *
            obtain ⟨n, v⟩ := p
            simp only at X hcs hrp hrf hfn hwv
            subst hwv
            obtain ⟨m, hm, rfl⟩ : ∃ m : Nat, m < 6 ∧ n = (m : Int) := by
              rcases hcs with ⟨h, _⟩ | ⟨_, h⟩
              · cases h
              · exact ⟨n.toNat, by omega, by omega⟩
            clear hcs
            have hf5 := hfn.1 rfl
            simp only [sagaV] at V X
            have P := fun w => stop_any o s w
            have S := fun w => state_any o s w
            rw [hst] at P
            simp only [stopV, noneV, sagaV] at P
            have hqn := (stop_state s).1 hst
            generalize stateOf s = q at *
            have hqb : (q == 0) = false := by simpa using hqn
            simp only [sagaV] at S
            clear hqn hst
            generalize hcb : [c0, c1, c2, c3, c4, c5, c6, c7].getD j false = cb at *
            clear hcb
            cases cb
            · obtain ⟨u, hu⟩ := Option.isSome_iff_exists.1 (hrp rfl)
              obtain ⟨huR, _, _⟩ := hwy _ (by simp [ways, hw]) u hu
              have hfu := hfn.2 _ (by simp [ways, hw]) u hu
              have RP := fun w => reply_any o s (m : Int) 1 w
              rw [hu] at RP
              simp only [replyV, sagaV] at RP
              have HUR := Lib.hid huR
              have HFU := Lib.hid (show fin s + 1 ≤ fin u from hfu)
              clear hu hrp hrf hwy hfn hw huR hfu
              go_wp2_with (first | ((with_reducible apply wpList_loadOne HO); exact rfl; exact rfl; (repeat (with_reducible (first | exact At.head _ | apply At.tail))); exact HCB.out; infer_instance; exact rfl; (simp only [Act.put, List.setIfInBounds_toArray, List.set_cons_succ, List.set_cons_zero])) | (first | go_big_skip | ((with_reducible apply wpList_loadAll HO); exact rfl; exact rfl; (repeat (with_reducible (first | exact At.head _ | apply At.tail))); infer_instance; exact rfl; exact rfl; (simp only [Act.put, List.setIfInBounds_toArray, List.set_cons_succ, List.set_cons_zero])) | ((with_reducible apply wpList_loadOne HO); exact rfl; exact rfl; (repeat (with_reducible (first | exact At.head _ | apply At.tail))); exact rfl; infer_instance; exact rfl; (simp only [Act.put, List.setIfInBounds_toArray, List.set_cons_succ, List.set_cons_zero])) | ((with_reducible apply wpList_storeAll HO); exact rfl; exact rfl; exact rfl; (repeat (with_reducible (first | exact At.head _ | apply At.tail))); infer_instance; exact rfl; exact rfl; exact rfl; exact rfl; clear HO; intro w HO; (simp only [Act.put, List.setIfInBounds_toArray, List.set_cons_succ, List.set_cons_zero])) | (first | ((with_reducible apply wpList_boxAgg _ HO rfl); exact rfl; exact rfl; exact rfl; clear HO; intro b9 w HO; (simp only [Act.put, List.setIfInBounds_toArray, List.set_cons_succ, List.set_cons_zero])) | ((with_reducible apply wpList_allocAgg _ HO rfl); exact rfl; infer_instance; exact rfl; clear HO; intro b9 w HO; (simp only [Act.put, List.setIfInBounds_toArray, List.set_cons_succ, List.set_cons_zero])))) | (go_at_call 8; go_must ((with_reducible refine (V _).mono ?_); rintro e w ⟨rfl, hb⟩; replace HO := HO.call hb; clear hb)) | (go_at_call 6; go_must ((with_reducible refine (X _).mono ?_); rintro e w ⟨rfl, hb⟩; replace HO := HO.call hb; clear hb)) | (go_at_call 11; go_must ((with_reducible refine (P _).mono ?_); rintro e w ⟨rfl, hb⟩; replace HO := HO.call hb; clear hb)) | (go_at_call 13; go_must ((with_reducible refine (S _).mono ?_); rintro e w ⟨rfl, hb⟩; replace HO := HO.call hb; clear hb)) | (go_at_call 7; go_must ((with_reducible refine (RP _).mono ?_); rintro e w ⟨rfl, hb⟩; replace HO := HO.call hb; clear hb)))
              go_roundw
              case rel => exact ⟨j + 1, u, by omega, HUR.out, by have := HFU.out; omega, by go_num, by go_num, HO.tail.tail⟩
              case measure => simp [intOf] <;> omega
            · by_cases hm2 : m ≤ 2
              · obtain ⟨u, hu⟩ := Option.isSome_iff_exists.1 (hrf rfl (by omega))
                obtain ⟨huR, _, _⟩ := hwy _ (by simp [ways, hw]) u hu
                have hfu := hfn.2 _ (by simp [ways, hw]) u hu
                have RP := fun w => reply_any o s (m : Int) 2 w
                rw [hu] at RP
                simp only [replyV, sagaV] at RP
                have hm2z : (m : Int) ≤ 2 := by omega
                have HUR := Lib.hid huR
                have HFU := Lib.hid (show fin s + 1 ≤ fin u from hfu)
                clear hu hrp hrf hwy hfn hw huR hfu
                go_wp2_with (first | ((with_reducible apply wpList_loadOne HO); exact rfl; exact rfl; (repeat (with_reducible (first | exact At.head _ | apply At.tail))); exact HCB.out; infer_instance; exact rfl; (simp only [Act.put, List.setIfInBounds_toArray, List.set_cons_succ, List.set_cons_zero])) | (first | go_big_skip | ((with_reducible apply wpList_loadAll HO); exact rfl; exact rfl; (repeat (with_reducible (first | exact At.head _ | apply At.tail))); infer_instance; exact rfl; exact rfl; (simp only [Act.put, List.setIfInBounds_toArray, List.set_cons_succ, List.set_cons_zero])) | ((with_reducible apply wpList_loadOne HO); exact rfl; exact rfl; (repeat (with_reducible (first | exact At.head _ | apply At.tail))); exact rfl; infer_instance; exact rfl; (simp only [Act.put, List.setIfInBounds_toArray, List.set_cons_succ, List.set_cons_zero])) | ((with_reducible apply wpList_storeAll HO); exact rfl; exact rfl; exact rfl; (repeat (with_reducible (first | exact At.head _ | apply At.tail))); infer_instance; exact rfl; exact rfl; exact rfl; exact rfl; clear HO; intro w HO; (simp only [Act.put, List.setIfInBounds_toArray, List.set_cons_succ, List.set_cons_zero])) | (first | ((with_reducible apply wpList_boxAgg _ HO rfl); exact rfl; exact rfl; exact rfl; clear HO; intro b9 w HO; (simp only [Act.put, List.setIfInBounds_toArray, List.set_cons_succ, List.set_cons_zero])) | ((with_reducible apply wpList_allocAgg _ HO rfl); exact rfl; infer_instance; exact rfl; clear HO; intro b9 w HO; (simp only [Act.put, List.setIfInBounds_toArray, List.set_cons_succ, List.set_cons_zero])))) | (go_at_call 8; go_must ((with_reducible refine (V _).mono ?_); rintro e w ⟨rfl, hb⟩; replace HO := HO.call hb; clear hb)) | (go_at_call 6; go_must ((with_reducible refine (X _).mono ?_); rintro e w ⟨rfl, hb⟩; replace HO := HO.call hb; clear hb)) | (go_at_call 11; go_must ((with_reducible refine (P _).mono ?_); rintro e w ⟨rfl, hb⟩; replace HO := HO.call hb; clear hb)) | (go_at_call 13; go_must ((with_reducible refine (S _).mono ?_); rintro e w ⟨rfl, hb⟩; replace HO := HO.call hb; clear hb)) | (go_at_call 7; go_must ((with_reducible refine (RP _).mono ?_); rintro e w ⟨rfl, hb⟩; replace HO := HO.call hb; clear hb)))
                go_roundw
                case rel => exact ⟨j + 1, u, by omega, HUR.out, by have := HFU.out; omega, by go_num, by go_num, HO.tail.tail⟩
                case measure => simp [intOf] <;> omega
              · obtain ⟨u, hu⟩ := Option.isSome_iff_exists.1 (hrp rfl)
                obtain ⟨huR, _, _⟩ := hwy _ (by simp [ways, hw]) u hu
                have hfu := hfn.2 _ (by simp [ways, hw]) u hu
                have RP := fun w => reply_any o s (m : Int) 1 w
                rw [hu] at RP
                simp only [replyV, sagaV] at RP
                have hm2z : 2 < (m : Int) := by omega
                have HUR := Lib.hid huR
                have HFU := Lib.hid (show fin s + 1 ≤ fin u from hfu)
                clear hu hrp hrf hwy hfn hw huR hfu
                go_wp2_with (first | ((with_reducible apply wpList_loadOne HO); exact rfl; exact rfl; (repeat (with_reducible (first | exact At.head _ | apply At.tail))); exact HCB.out; infer_instance; exact rfl; (simp only [Act.put, List.setIfInBounds_toArray, List.set_cons_succ, List.set_cons_zero])) | (first | go_big_skip | ((with_reducible apply wpList_loadAll HO); exact rfl; exact rfl; (repeat (with_reducible (first | exact At.head _ | apply At.tail))); infer_instance; exact rfl; exact rfl; (simp only [Act.put, List.setIfInBounds_toArray, List.set_cons_succ, List.set_cons_zero])) | ((with_reducible apply wpList_loadOne HO); exact rfl; exact rfl; (repeat (with_reducible (first | exact At.head _ | apply At.tail))); exact rfl; infer_instance; exact rfl; (simp only [Act.put, List.setIfInBounds_toArray, List.set_cons_succ, List.set_cons_zero])) | ((with_reducible apply wpList_storeAll HO); exact rfl; exact rfl; exact rfl; (repeat (with_reducible (first | exact At.head _ | apply At.tail))); infer_instance; exact rfl; exact rfl; exact rfl; exact rfl; clear HO; intro w HO; (simp only [Act.put, List.setIfInBounds_toArray, List.set_cons_succ, List.set_cons_zero])) | (first | ((with_reducible apply wpList_boxAgg _ HO rfl); exact rfl; exact rfl; exact rfl; clear HO; intro b9 w HO; (simp only [Act.put, List.setIfInBounds_toArray, List.set_cons_succ, List.set_cons_zero])) | ((with_reducible apply wpList_allocAgg _ HO rfl); exact rfl; infer_instance; exact rfl; clear HO; intro b9 w HO; (simp only [Act.put, List.setIfInBounds_toArray, List.set_cons_succ, List.set_cons_zero])))) | (go_at_call 8; go_must ((with_reducible refine (V _).mono ?_); rintro e w ⟨rfl, hb⟩; replace HO := HO.call hb; clear hb)) | (go_at_call 6; go_must ((with_reducible refine (X _).mono ?_); rintro e w ⟨rfl, hb⟩; replace HO := HO.call hb; clear hb)) | (go_at_call 11; go_must ((with_reducible refine (P _).mono ?_); rintro e w ⟨rfl, hb⟩; replace HO := HO.call hb; clear hb)) | (go_at_call 13; go_must ((with_reducible refine (S _).mono ?_); rintro e w ⟨rfl, hb⟩; replace HO := HO.call hb; clear hb)) | (go_at_call 7; go_must ((with_reducible refine (RP _).mono ?_); rintro e w ⟨rfl, hb⟩; replace HO := HO.call hb; clear hb)))
                go_roundw
                case rel => exact ⟨j + 1, u, by omega, HUR.out, by have := HFU.out; omega, by go_num, by go_num, HO.tail.tail⟩
                case measure => simp [intOf] <;> omega
        | some z =>
          obtain ⟨hwv, hzR, hfz⟩ := stop_waits s hsR z hst
          have V := fun w => valid_any o s w h1 h2
          rw [HV.out s hsR] at V
          have X := fun w => waits_any o z w
          have hcs := waitsOf_cases z
          have hrp := reply_ok z hzR
          have hrf := refused_ok z hzR
          have hfn := fin_ok z hzR
          have hwy := ways_ok z hzR
          generalize hw : waitsOf z = p at *
          obtain ⟨n, v⟩ := p
          simp only at X hcs hrp hrf hfn hwv
          subst hwv
          obtain ⟨m, hm, rfl⟩ : ∃ m : Nat, m < 6 ∧ n = (m : Int) := by
            rcases hcs with ⟨h, _⟩ | ⟨_, h⟩
            · cases h
            · exact ⟨n.toNat, by omega, by omega⟩
          clear hcs
          have hf5 := hfn.1 rfl
          simp only [sagaV] at V X
          have P := fun w => stop_any o s w
          rw [hst] at P
          simp only [stopV, sagaV] at P
          have S := fun w => state_any o s w
          rw [(stop_state s).2 z hst] at S
          simp only [sagaV] at S
          clear hst
          generalize hcb : [c0, c1, c2, c3, c4, c5, c6, c7].getD j false = cb at *
          clear hcb
          cases cb
          · obtain ⟨u, hu⟩ := Option.isSome_iff_exists.1 (hrp rfl)
            obtain ⟨huR, _, _⟩ := hwy _ (by simp [ways, hw]) u hu
            have hfu := hfn.2 _ (by simp [ways, hw]) u hu
            have RP := fun w => reply_any o z (m : Int) 1 w
            rw [hu] at RP
            simp only [replyV, sagaV] at RP
            have HUR := Lib.hid huR
            have HFU := Lib.hid (show fin z + 1 ≤ fin u from hfu)
            clear hu hrp hrf hwy hfn hw huR hfu
            go_wp2_with (first | ((with_reducible apply wpList_loadOne HO); exact rfl; exact rfl; (repeat (with_reducible (first | exact At.head _ | apply At.tail))); exact HCB.out; infer_instance; exact rfl; (simp only [Act.put, List.setIfInBounds_toArray, List.set_cons_succ, List.set_cons_zero])) | (first | go_big_skip | ((with_reducible apply wpList_loadAll HO); exact rfl; exact rfl; (repeat (with_reducible (first | exact At.head _ | apply At.tail))); infer_instance; exact rfl; exact rfl; (simp only [Act.put, List.setIfInBounds_toArray, List.set_cons_succ, List.set_cons_zero])) | ((with_reducible apply wpList_loadOne HO); exact rfl; exact rfl; (repeat (with_reducible (first | exact At.head _ | apply At.tail))); exact rfl; infer_instance; exact rfl; (simp only [Act.put, List.setIfInBounds_toArray, List.set_cons_succ, List.set_cons_zero])) | ((with_reducible apply wpList_storeAll HO); exact rfl; exact rfl; exact rfl; (repeat (with_reducible (first | exact At.head _ | apply At.tail))); infer_instance; exact rfl; exact rfl; exact rfl; exact rfl; clear HO; intro w HO; (simp only [Act.put, List.setIfInBounds_toArray, List.set_cons_succ, List.set_cons_zero])) | (first | ((with_reducible apply wpList_boxAgg _ HO rfl); exact rfl; exact rfl; exact rfl; clear HO; intro b9 w HO; (simp only [Act.put, List.setIfInBounds_toArray, List.set_cons_succ, List.set_cons_zero])) | ((with_reducible apply wpList_allocAgg _ HO rfl); exact rfl; infer_instance; exact rfl; clear HO; intro b9 w HO; (simp only [Act.put, List.setIfInBounds_toArray, List.set_cons_succ, List.set_cons_zero])))) | (go_at_call 8; go_must ((with_reducible refine (V _).mono ?_); rintro e w ⟨rfl, hb⟩; replace HO := HO.call hb; clear hb)) | (go_at_call 6; go_must ((with_reducible refine (X _).mono ?_); rintro e w ⟨rfl, hb⟩; replace HO := HO.call hb; clear hb)) | (go_at_call 11; go_must ((with_reducible refine (P _).mono ?_); rintro e w ⟨rfl, hb⟩; replace HO := HO.call hb; clear hb)) | (go_at_call 13; go_must ((with_reducible refine (S _).mono ?_); rintro e w ⟨rfl, hb⟩; replace HO := HO.call hb; clear hb)) | (go_at_call 7; go_must ((with_reducible refine (RP _).mono ?_); rintro e w ⟨rfl, hb⟩; replace HO := HO.call hb; clear hb)))
            go_roundw
            case rel => exact ⟨j + 1, u, by omega, HUR.out, by have := HFU.out; omega, by go_num, by go_num, HO.tail.tail⟩
            case measure => simp [intOf] <;> omega
          · by_cases hm2 : m ≤ 2
            · obtain ⟨u, hu⟩ := Option.isSome_iff_exists.1 (hrf rfl (by omega))
              obtain ⟨huR, _, _⟩ := hwy _ (by simp [ways, hw]) u hu
              have hfu := hfn.2 _ (by simp [ways, hw]) u hu
              have RP := fun w => reply_any o z (m : Int) 2 w
              rw [hu] at RP
              simp only [replyV, sagaV] at RP
              have hm2z : (m : Int) ≤ 2 := by omega
              have HUR := Lib.hid huR
              have HFU := Lib.hid (show fin z + 1 ≤ fin u from hfu)
              clear hu hrp hrf hwy hfn hw huR hfu
              go_wp2_with (first | ((with_reducible apply wpList_loadOne HO); exact rfl; exact rfl; (repeat (with_reducible (first | exact At.head _ | apply At.tail))); exact HCB.out; infer_instance; exact rfl; (simp only [Act.put, List.setIfInBounds_toArray, List.set_cons_succ, List.set_cons_zero])) | (first | go_big_skip | ((with_reducible apply wpList_loadAll HO); exact rfl; exact rfl; (repeat (with_reducible (first | exact At.head _ | apply At.tail))); infer_instance; exact rfl; exact rfl; (simp only [Act.put, List.setIfInBounds_toArray, List.set_cons_succ, List.set_cons_zero])) | ((with_reducible apply wpList_loadOne HO); exact rfl; exact rfl; (repeat (with_reducible (first | exact At.head _ | apply At.tail))); exact rfl; infer_instance; exact rfl; (simp only [Act.put, List.setIfInBounds_toArray, List.set_cons_succ, List.set_cons_zero])) | ((with_reducible apply wpList_storeAll HO); exact rfl; exact rfl; exact rfl; (repeat (with_reducible (first | exact At.head _ | apply At.tail))); infer_instance; exact rfl; exact rfl; exact rfl; exact rfl; clear HO; intro w HO; (simp only [Act.put, List.setIfInBounds_toArray, List.set_cons_succ, List.set_cons_zero])) | (first | ((with_reducible apply wpList_boxAgg _ HO rfl); exact rfl; exact rfl; exact rfl; clear HO; intro b9 w HO; (simp only [Act.put, List.setIfInBounds_toArray, List.set_cons_succ, List.set_cons_zero])) | ((with_reducible apply wpList_allocAgg _ HO rfl); exact rfl; infer_instance; exact rfl; clear HO; intro b9 w HO; (simp only [Act.put, List.setIfInBounds_toArray, List.set_cons_succ, List.set_cons_zero])))) | (go_at_call 8; go_must ((with_reducible refine (V _).mono ?_); rintro e w ⟨rfl, hb⟩; replace HO := HO.call hb; clear hb)) | (go_at_call 6; go_must ((with_reducible refine (X _).mono ?_); rintro e w ⟨rfl, hb⟩; replace HO := HO.call hb; clear hb)) | (go_at_call 11; go_must ((with_reducible refine (P _).mono ?_); rintro e w ⟨rfl, hb⟩; replace HO := HO.call hb; clear hb)) | (go_at_call 13; go_must ((with_reducible refine (S _).mono ?_); rintro e w ⟨rfl, hb⟩; replace HO := HO.call hb; clear hb)) | (go_at_call 7; go_must ((with_reducible refine (RP _).mono ?_); rintro e w ⟨rfl, hb⟩; replace HO := HO.call hb; clear hb)))
              go_roundw
              case rel => exact ⟨j + 1, u, by omega, HUR.out, by have := HFU.out; omega, by go_num, by go_num, HO.tail.tail⟩
              case measure => simp [intOf] <;> omega
            · obtain ⟨u, hu⟩ := Option.isSome_iff_exists.1 (hrp rfl)
              obtain ⟨huR, _, _⟩ := hwy _ (by simp [ways, hw]) u hu
              have hfu := hfn.2 _ (by simp [ways, hw]) u hu
              have RP := fun w => reply_any o z (m : Int) 1 w
              rw [hu] at RP
              simp only [replyV, sagaV] at RP
              have hm2z : 2 < (m : Int) := by omega
              have HUR := Lib.hid huR
              have HFU := Lib.hid (show fin z + 1 ≤ fin u from hfu)
              clear hu hrp hrf hwy hfn hw huR hfu
              go_wp2_with (first | ((with_reducible apply wpList_loadOne HO); exact rfl; exact rfl; (repeat (with_reducible (first | exact At.head _ | apply At.tail))); exact HCB.out; infer_instance; exact rfl; (simp only [Act.put, List.setIfInBounds_toArray, List.set_cons_succ, List.set_cons_zero])) | (first | go_big_skip | ((with_reducible apply wpList_loadAll HO); exact rfl; exact rfl; (repeat (with_reducible (first | exact At.head _ | apply At.tail))); infer_instance; exact rfl; exact rfl; (simp only [Act.put, List.setIfInBounds_toArray, List.set_cons_succ, List.set_cons_zero])) | ((with_reducible apply wpList_loadOne HO); exact rfl; exact rfl; (repeat (with_reducible (first | exact At.head _ | apply At.tail))); exact rfl; infer_instance; exact rfl; (simp only [Act.put, List.setIfInBounds_toArray, List.set_cons_succ, List.set_cons_zero])) | ((with_reducible apply wpList_storeAll HO); exact rfl; exact rfl; exact rfl; (repeat (with_reducible (first | exact At.head _ | apply At.tail))); infer_instance; exact rfl; exact rfl; exact rfl; exact rfl; clear HO; intro w HO; (simp only [Act.put, List.setIfInBounds_toArray, List.set_cons_succ, List.set_cons_zero])) | (first | ((with_reducible apply wpList_boxAgg _ HO rfl); exact rfl; exact rfl; exact rfl; clear HO; intro b9 w HO; (simp only [Act.put, List.setIfInBounds_toArray, List.set_cons_succ, List.set_cons_zero])) | ((with_reducible apply wpList_allocAgg _ HO rfl); exact rfl; infer_instance; exact rfl; clear HO; intro b9 w HO; (simp only [Act.put, List.setIfInBounds_toArray, List.set_cons_succ, List.set_cons_zero])))) | (go_at_call 8; go_must ((with_reducible refine (V _).mono ?_); rintro e w ⟨rfl, hb⟩; replace HO := HO.call hb; clear hb)) | (go_at_call 6; go_must ((with_reducible refine (X _).mono ?_); rintro e w ⟨rfl, hb⟩; replace HO := HO.call hb; clear hb)) | (go_at_call 11; go_must ((with_reducible refine (P _).mono ?_); rintro e w ⟨rfl, hb⟩; replace HO := HO.call hb; clear hb)) | (go_at_call 13; go_must ((with_reducible refine (S _).mono ?_); rintro e w ⟨rfl, hb⟩; replace HO := HO.call hb; clear hb)) | (go_at_call 7; go_must ((with_reducible refine (RP _).mono ?_); rintro e w ⟨rfl, hb⟩; replace HO := HO.call hb; clear hb)))
              go_roundw
              case rel => exact ⟨j + 1, u, by omega, HUR.out, by have := HFU.out; omega, by go_num, by go_num, HO.tail.tail⟩
              case measure => simp [intOf] <;> omega
      · have hjb : ((j : Int) == c % 12) = false := by simpa using hjc
        clear hjc
        by_cases hwv : (waitsOf s).2 = true
        rotate_left
        · have hwv : (waitsOf s).2 = false := by simpa using hwv
          have HE := Lib.hid (ended_of s hsR hwv)
          have V := fun w => valid_any o s w h1 h2
          rw [HV.out s hsR] at V
          have X := fun w => waits_any o s w
          have P := fun w => stop_any o s w
          have S := fun w => state_any o s w
          generalize waitsOf s = p at *
          obtain ⟨n, v⟩ := p
          simp only at X hwv
          subst hwv
          clear P S
          simp only [sagaV] at V X
          have HR := Lib.hid hsR
          clear hsR
          go_wp2_with (first | ((with_reducible apply wpList_loadOne HO); exact rfl; exact rfl; (repeat (with_reducible (first | exact At.head _ | apply At.tail))); exact HCB.out; infer_instance; exact rfl; (simp only [Act.put, List.setIfInBounds_toArray, List.set_cons_succ, List.set_cons_zero])) | (first | go_big_skip | ((with_reducible apply wpList_loadAll HO); exact rfl; exact rfl; (repeat (with_reducible (first | exact At.head _ | apply At.tail))); infer_instance; exact rfl; exact rfl; (simp only [Act.put, List.setIfInBounds_toArray, List.set_cons_succ, List.set_cons_zero])) | ((with_reducible apply wpList_loadOne HO); exact rfl; exact rfl; (repeat (with_reducible (first | exact At.head _ | apply At.tail))); exact rfl; infer_instance; exact rfl; (simp only [Act.put, List.setIfInBounds_toArray, List.set_cons_succ, List.set_cons_zero])) | ((with_reducible apply wpList_storeAll HO); exact rfl; exact rfl; exact rfl; (repeat (with_reducible (first | exact At.head _ | apply At.tail))); infer_instance; exact rfl; exact rfl; exact rfl; exact rfl; clear HO; intro w HO; (simp only [Act.put, List.setIfInBounds_toArray, List.set_cons_succ, List.set_cons_zero])) | (first | ((with_reducible apply wpList_boxAgg _ HO rfl); exact rfl; exact rfl; exact rfl; clear HO; intro b9 w HO; (simp only [Act.put, List.setIfInBounds_toArray, List.set_cons_succ, List.set_cons_zero])) | ((with_reducible apply wpList_allocAgg _ HO rfl); exact rfl; infer_instance; exact rfl; clear HO; intro b9 w HO; (simp only [Act.put, List.setIfInBounds_toArray, List.set_cons_succ, List.set_cons_zero])))) | (go_at_call 8; go_must ((with_reducible refine (V _).mono ?_); rintro e w ⟨rfl, hb⟩; replace HO := HO.call hb; clear hb)) | (go_at_call 6; go_must ((with_reducible refine (X _).mono ?_); rintro e w ⟨rfl, hb⟩; replace HO := HO.call hb; clear hb)))
          go_meet
          exact ⟨j, s, HE.out, rfl, hj6, HO⟩
        · skip
          have V := fun w => valid_any o s w h1 h2
          rw [HV.out s hsR] at V
          have X := fun w => waits_any o s w
          have hcs := waitsOf_cases s
          have hrp := reply_ok s hsR
          have hrf := refused_ok s hsR
          have hfn := fin_ok s hsR
          have hwy := ways_ok s hsR
          generalize hw : waitsOf s = p at *
          obtain ⟨n, v⟩ := p
          simp only at X hcs hrp hrf hfn hwv
          subst hwv
          obtain ⟨m, hm, rfl⟩ : ∃ m : Nat, m < 6 ∧ n = (m : Int) := by
            rcases hcs with ⟨h, _⟩ | ⟨_, h⟩
            · cases h
            · exact ⟨n.toNat, by omega, by omega⟩
          clear hcs
          have hf5 := hfn.1 rfl
          simp only [sagaV] at V X
          generalize hcb : [c0, c1, c2, c3, c4, c5, c6, c7].getD j false = cb at *
          clear hcb
          cases cb
          · obtain ⟨u, hu⟩ := Option.isSome_iff_exists.1 (hrp rfl)
            obtain ⟨huR, _, _⟩ := hwy _ (by simp [ways, hw]) u hu
            have hfu := hfn.2 _ (by simp [ways, hw]) u hu
            have RP := fun w => reply_any o s (m : Int) 1 w
            rw [hu] at RP
            simp only [replyV, sagaV] at RP
            have HUR := Lib.hid huR
            have HFU := Lib.hid (show fin s + 1 ≤ fin u from hfu)
            clear hu hrp hrf hwy hfn hw huR hfu
            go_wp2_with (first | ((with_reducible apply wpList_loadOne HO); exact rfl; exact rfl; (repeat (with_reducible (first | exact At.head _ | apply At.tail))); exact HCB.out; infer_instance; exact rfl; (simp only [Act.put, List.setIfInBounds_toArray, List.set_cons_succ, List.set_cons_zero])) | (first | go_big_skip | ((with_reducible apply wpList_loadAll HO); exact rfl; exact rfl; (repeat (with_reducible (first | exact At.head _ | apply At.tail))); infer_instance; exact rfl; exact rfl; (simp only [Act.put, List.setIfInBounds_toArray, List.set_cons_succ, List.set_cons_zero])) | ((with_reducible apply wpList_loadOne HO); exact rfl; exact rfl; (repeat (with_reducible (first | exact At.head _ | apply At.tail))); exact rfl; infer_instance; exact rfl; (simp only [Act.put, List.setIfInBounds_toArray, List.set_cons_succ, List.set_cons_zero])) | ((with_reducible apply wpList_storeAll HO); exact rfl; exact rfl; exact rfl; (repeat (with_reducible (first | exact At.head _ | apply At.tail))); infer_instance; exact rfl; exact rfl; exact rfl; exact rfl; clear HO; intro w HO; (simp only [Act.put, List.setIfInBounds_toArray, List.set_cons_succ, List.set_cons_zero])) | (first | ((with_reducible apply wpList_boxAgg _ HO rfl); exact rfl; exact rfl; exact rfl; clear HO; intro b9 w HO; (simp only [Act.put, List.setIfInBounds_toArray, List.set_cons_succ, List.set_cons_zero])) | ((with_reducible apply wpList_allocAgg _ HO rfl); exact rfl; infer_instance; exact rfl; clear HO; intro b9 w HO; (simp only [Act.put, List.setIfInBounds_toArray, List.set_cons_succ, List.set_cons_zero])))) | (go_at_call 8; go_must ((with_reducible refine (V _).mono ?_); rintro e w ⟨rfl, hb⟩; replace HO := HO.call hb; clear hb)) | (go_at_call 6; go_must ((with_reducible refine (X _).mono ?_); rintro e w ⟨rfl, hb⟩; replace HO := HO.call hb; clear hb)) | (go_at_call 7; go_must ((with_reducible refine (RP _).mono ?_); rintro e w ⟨rfl, hb⟩; replace HO := HO.call hb; clear hb)))
            go_roundw
            case rel => exact ⟨j + 1, u, by omega, HUR.out, by have := HFU.out; omega, by go_num, by go_num, HO.tail⟩
            case measure => simp [intOf] <;> omega
          · by_cases hm2 : m ≤ 2
            · obtain ⟨u, hu⟩ := Option.isSome_iff_exists.1 (hrf rfl (by omega))
              obtain ⟨huR, _, _⟩ := hwy _ (by simp [ways, hw]) u hu
              have hfu := hfn.2 _ (by simp [ways, hw]) u hu
              have RP := fun w => reply_any o s (m : Int) 2 w
              rw [hu] at RP
              simp only [replyV, sagaV] at RP
              have hm2z : (m : Int) ≤ 2 := by omega
              have HUR := Lib.hid huR
              have HFU := Lib.hid (show fin s + 1 ≤ fin u from hfu)
              clear hu hrp hrf hwy hfn hw huR hfu
              go_wp2_with (first | ((with_reducible apply wpList_loadOne HO); exact rfl; exact rfl; (repeat (with_reducible (first | exact At.head _ | apply At.tail))); exact HCB.out; infer_instance; exact rfl; (simp only [Act.put, List.setIfInBounds_toArray, List.set_cons_succ, List.set_cons_zero])) | (first | go_big_skip | ((with_reducible apply wpList_loadAll HO); exact rfl; exact rfl; (repeat (with_reducible (first | exact At.head _ | apply At.tail))); infer_instance; exact rfl; exact rfl; (simp only [Act.put, List.setIfInBounds_toArray, List.set_cons_succ, List.set_cons_zero])) | ((with_reducible apply wpList_loadOne HO); exact rfl; exact rfl; (repeat (with_reducible (first | exact At.head _ | apply At.tail))); exact rfl; infer_instance; exact rfl; (simp only [Act.put, List.setIfInBounds_toArray, List.set_cons_succ, List.set_cons_zero])) | ((with_reducible apply wpList_storeAll HO); exact rfl; exact rfl; exact rfl; (repeat (with_reducible (first | exact At.head _ | apply At.tail))); infer_instance; exact rfl; exact rfl; exact rfl; exact rfl; clear HO; intro w HO; (simp only [Act.put, List.setIfInBounds_toArray, List.set_cons_succ, List.set_cons_zero])) | (first | ((with_reducible apply wpList_boxAgg _ HO rfl); exact rfl; exact rfl; exact rfl; clear HO; intro b9 w HO; (simp only [Act.put, List.setIfInBounds_toArray, List.set_cons_succ, List.set_cons_zero])) | ((with_reducible apply wpList_allocAgg _ HO rfl); exact rfl; infer_instance; exact rfl; clear HO; intro b9 w HO; (simp only [Act.put, List.setIfInBounds_toArray, List.set_cons_succ, List.set_cons_zero])))) | (go_at_call 8; go_must ((with_reducible refine (V _).mono ?_); rintro e w ⟨rfl, hb⟩; replace HO := HO.call hb; clear hb)) | (go_at_call 6; go_must ((with_reducible refine (X _).mono ?_); rintro e w ⟨rfl, hb⟩; replace HO := HO.call hb; clear hb)) | (go_at_call 7; go_must ((with_reducible refine (RP _).mono ?_); rintro e w ⟨rfl, hb⟩; replace HO := HO.call hb; clear hb)))
              go_roundw
              case rel => exact ⟨j + 1, u, by omega, HUR.out, by have := HFU.out; omega, by go_num, by go_num, HO.tail⟩
              case measure => simp [intOf] <;> omega
            · obtain ⟨u, hu⟩ := Option.isSome_iff_exists.1 (hrp rfl)
              obtain ⟨huR, _, _⟩ := hwy _ (by simp [ways, hw]) u hu
              have hfu := hfn.2 _ (by simp [ways, hw]) u hu
              have RP := fun w => reply_any o s (m : Int) 1 w
              rw [hu] at RP
              simp only [replyV, sagaV] at RP
              have hm2z : 2 < (m : Int) := by omega
              have HUR := Lib.hid huR
              have HFU := Lib.hid (show fin s + 1 ≤ fin u from hfu)
              clear hu hrp hrf hwy hfn hw huR hfu
              go_wp2_with (first | ((with_reducible apply wpList_loadOne HO); exact rfl; exact rfl; (repeat (with_reducible (first | exact At.head _ | apply At.tail))); exact HCB.out; infer_instance; exact rfl; (simp only [Act.put, List.setIfInBounds_toArray, List.set_cons_succ, List.set_cons_zero])) | (first | go_big_skip | ((with_reducible apply wpList_loadAll HO); exact rfl; exact rfl; (repeat (with_reducible (first | exact At.head _ | apply At.tail))); infer_instance; exact rfl; exact rfl; (simp only [Act.put, List.setIfInBounds_toArray, List.set_cons_succ, List.set_cons_zero])) | ((with_reducible apply wpList_loadOne HO); exact rfl; exact rfl; (repeat (with_reducible (first | exact At.head _ | apply At.tail))); exact rfl; infer_instance; exact rfl; (simp only [Act.put, List.setIfInBounds_toArray, List.set_cons_succ, List.set_cons_zero])) | ((with_reducible apply wpList_storeAll HO); exact rfl; exact rfl; exact rfl; (repeat (with_reducible (first | exact At.head _ | apply At.tail))); infer_instance; exact rfl; exact rfl; exact rfl; exact rfl; clear HO; intro w HO; (simp only [Act.put, List.setIfInBounds_toArray, List.set_cons_succ, List.set_cons_zero])) | (first | ((with_reducible apply wpList_boxAgg _ HO rfl); exact rfl; exact rfl; exact rfl; clear HO; intro b9 w HO; (simp only [Act.put, List.setIfInBounds_toArray, List.set_cons_succ, List.set_cons_zero])) | ((with_reducible apply wpList_allocAgg _ HO rfl); exact rfl; infer_instance; exact rfl; clear HO; intro b9 w HO; (simp only [Act.put, List.setIfInBounds_toArray, List.set_cons_succ, List.set_cons_zero])))) | (go_at_call 8; go_must ((with_reducible refine (V _).mono ?_); rintro e w ⟨rfl, hb⟩; replace HO := HO.call hb; clear hb)) | (go_at_call 6; go_must ((with_reducible refine (X _).mono ?_); rintro e w ⟨rfl, hb⟩; replace HO := HO.call hb; clear hb)) | (go_at_call 7; go_must ((with_reducible refine (RP _).mono ?_); rintro e w ⟨rfl, hb⟩; replace HO := HO.call hb; clear hb)))
              go_roundw
              case rel => exact ⟨j + 1, u, by omega, HUR.out, by have := HFU.out; omega, by go_num, by go_num, HO.tail⟩
              case measure => simp [intOf] <;> omega
end Go.Proofs.Ytlfphfklcifgpaa

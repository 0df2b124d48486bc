/-
  The law RepairOnce returns true, by walking its text; conditions: the keys lie in memory, the table of parties as laid, texts no longer than memory bears.
-/
import Derived.Test.YtlfphfklcifgpaaDoorPlanned
import Derived.Test.YtlfphfklcifgpaaDoorSagaV
import Derived.Test.YtlfphfklcifgpaaDoorOwn2
import Derived.Test.YtlfphfklcifgpaaDoorTypes
namespace Go.Proofs.YtlfphfklcifgpaaDoor
open Go.RowKit Go.Own

theorem noGuardK : Tryd.prog.eqGuardType Tryd.prog.depth 43 = false := by kernel_rfl
theorem run_op_key {a : Act} {p : Oper} {x y : Operand} {T : TypeId} (m n : Int) (ho : p.op = .binOp .neq 43 x y T) (hx : a.eval x = .agg #[.int .i64 m, .int .i64 n]) (hy : a.eval y = .agg #[.int .i64 m, .int .i64 n]) (w : World) :
    (execOp a.eval p).run Tryd.prog w = .ok (.value (.bool false)) w := by
  unfold execOp
  simp only [ho, hx, hy, Sem.run_bind, eqGuard]
  simp [noGuardK, run_key_neq]
theorem once_state : ∀ s ∈ RL, ((waitsOf s).2 = true ∧ (stateOf s = 0 ∨ stateOf s = 1) ∧ 0 ≤ (waitsOf s).1 ∧ (waitsOf s).1 ≤ 5 ∧ 0 ≤ partyOf (waitsOf s).1 ∧ partyOf (waitsOf s).1 ≤ 2) ∨ ((waitsOf s).2 = false ∧ (stateOf s = 2 ∨ stateOf s = 3 ∨ stateOf s = 4)) := by
  have h : (RL.all fun s => decide (((waitsOf s).2 = true ∧ (stateOf s = 0 ∨ stateOf s = 1) ∧ 0 ≤ (waitsOf s).1 ∧ (waitsOf s).1 ≤ 5 ∧ 0 ≤ partyOf (waitsOf s).1 ∧ partyOf (waitsOf s).1 ≤ 2) ∨ ((waitsOf s).2 = false ∧ (stateOf s = 2 ∨ stateOf s = 3 ∨ stateOf s = 4)))) = true := by decide +kernel
  intro s hs
  simpa using List.all_eq_true.1 h s hs
theorem plan_one {o : OrdS} {s : D6} {p : Int} (hk : (waitsOf s).2 = true → keyOk o.id (waitsOf s).1 = true) : planOf [(o, s)] p = if (waitsOf s).2 = true ∧ partyOf (waitsOf s).1 = p then [(o.id, (waitsOf s).1)] else [] := by
  simp only [planOf, List.map_cons, List.map_nil, List.flatten_cons, List.flatten_nil, List.append_nil, planAdd]
  by_cases h1 : (waitsOf s).2 = true
  · simp [h1, hk h1]
  · simp [h1]
theorem settled_one {o : OrdS} {s : D6} {K : List (Int × Int)} : settledOf [(o, s)] K = if stateOf s < 2 ∨ (K.any fun k => decide (k.1 = o.id)) = true then [] else [o.id] := by
  simp only [settledOf, List.map_cons, List.map_nil, List.flatten_cons, List.flatten_nil, List.append_nil, setAdd, openOf]
  by_cases h1 : stateOf s < 2 <;> by_cases h2 : (K.any fun k => decide (k.1 = o.id)) = true <;> simp [h1, h2]
theorem any_take {K : List (Int × Int)} {x : Int} {k : Nat} (hk : k < K.length) : ((K.take (k + 1)).any fun y => decide (y.1 = x)) = (((K.take k).any fun y => decide (y.1 = x)) || decide (K[k].1 = x)) := by
  rw [List.take_succ_eq_append_getElem hk]
  simp only [List.any_append, List.any_cons, List.any_nil, Bool.or_false]
theorem isL_lit {W w : World} {L : List Ent} {b : Nat} {l : List Value} {t : TypeId} (h : Own W w (box b (.cells l.toArray t) :: L)) : IsL w l.length (.slice (some ⟨b, 0, none⟩) 1 1) [l] :=
  isL_of_owns (e := t) (by simp) ((h.litRow (A := [l]) (k := l.length) (by simp) rfl (by simp) (Nat.le_of_ble_eq_true rfl)).has _ List.mem_cons_self)

set_option maxHeartbeats 16000000 in
set_option maxRecDepth 100000 in
theorem repairOnce_any (o : OrdS) (s : D6) {K : List (Int × Int)} {W : World} {u : Value} (hK : IsL W 2 u (K.map keyL)) (hL : Laid W) (h1 : o.ref.length ≤ maxLen) (h2 : o.sku.length ≤ maxLen)
    (hwK : ∀ k ∈ K, (Lit.int .i64 k.1).wf = true) (hwo : (Lit.int .i64 o.id).wf = true) :
    Calls Tryd.prog 7 #[sagaV o s, u] W fun e w' => e = .returned (.bool true) ∧ Below W.heap.size W w' := by
  have V := fun w => valid_any o s w h1 h2
  have hpos : 0 < W.heap.size := hL.1
  have HL := Lib.hid hL
  clear hL
  obtain ⟨sp, sc, rfl, hmx⟩ := hK.slice
  rw [List.length_map] at hmx hK ⊢
  have hmx' : (K.length : Int) ≤ 9223372036854775807 := by unfold maxLen at hmx; omega
  by_cases hA : K.length ≤ 10 ∧ validS o s = true ∧ 1 ≤ o.id ∧ o.id ≤ 60
  rotate_left
  · have hcs : (¬ K.length ≤ 10) ∨ (K.length ≤ 10 ∧ validS o s = false) ∨ (K.length ≤ 10 ∧ validS o s = true ∧ o.id < 1) ∨ (K.length ≤ 10 ∧ validS o s = true ∧ 1 ≤ o.id ∧ 60 < o.id) := by
      by_cases a : K.length ≤ 10 <;> cases b : validS o s <;> by_cases c : 1 ≤ o.id <;> simp_all <;> omega
    clear hA
    generalize validS o s = v at *
    rcases hcs with h | ⟨h, rfl⟩ | ⟨h, rfl, h'⟩ | ⟨h, rfl, h', h''⟩
    · have hl : decide ((10 : Int) < (K.length : Int)) = true := by simp; omega
      clear h
      unfold sagaV at V ⊢
      go_enter Tryd.func7, Tryd.ntmps7
      have HO := Own.start W
      go_wp2_with (first | (first | go_big_skip | ((with_reducible apply wpList_loadAll HO); exact rfl; exact rfl; (repeat (with_reducible (first | exact At.head _ | apply At.tail))); infer_instance; exact rfl; exact rfl; (simp only [Act.put, List.setIfInBounds_toArray, List.set_cons_succ, List.set_cons_zero])) | ((with_reducible apply wpList_loadOne HO); exact rfl; exact rfl; (repeat (with_reducible (first | exact At.head _ | apply At.tail))); exact rfl; infer_instance; exact rfl; (simp only [Act.put, List.setIfInBounds_toArray, List.set_cons_succ, List.set_cons_zero])) | ((with_reducible apply wpList_storeAll HO); exact rfl; exact rfl; exact rfl; (repeat (with_reducible (first | exact At.head _ | apply At.tail))); infer_instance; exact rfl; exact rfl; exact rfl; exact rfl; clear HO; intro w HO; (simp only [Act.put, List.setIfInBounds_toArray, List.set_cons_succ, List.set_cons_zero])) | (first | ((with_reducible apply wpList_boxAgg _ HO rfl); exact rfl; exact rfl; exact rfl; clear HO; intro b0 w HO; (simp only [Act.put, List.setIfInBounds_toArray, List.set_cons_succ, List.set_cons_zero])) | ((with_reducible apply wpList_allocAgg _ HO rfl); exact rfl; infer_instance; exact rfl; clear HO; intro b0 w HO; (simp only [Act.put, List.setIfInBounds_toArray, List.set_cons_succ, List.set_cons_zero])))) | (go_at_call 30; go_must ((with_reducible refine (V _).mono ?_); rintro e w ⟨rfl, hb⟩; replace HO := HO.call hb; clear hb)) | (go_at_call 24; go_must (refine (planned_any _ (HL.out.below HO.grown hpos)).mono ?_; rintro e w ⟨rfl, hb⟩; replace HO := HO.call hb; clear hb)))
      go_ret
      exact ⟨rfl, HO.grown⟩
    · have hl : decide ((10 : Int) < (K.length : Int)) = false := by simp; omega
      clear h
      unfold sagaV at V ⊢
      go_enter Tryd.func7, Tryd.ntmps7
      have HO := Own.start W
      go_wp2_with (first | (first | go_big_skip | ((with_reducible apply wpList_loadAll HO); exact rfl; exact rfl; (repeat (with_reducible (first | exact At.head _ | apply At.tail))); infer_instance; exact rfl; exact rfl; (simp only [Act.put, List.setIfInBounds_toArray, List.set_cons_succ, List.set_cons_zero])) | ((with_reducible apply wpList_loadOne HO); exact rfl; exact rfl; (repeat (with_reducible (first | exact At.head _ | apply At.tail))); exact rfl; infer_instance; exact rfl; (simp only [Act.put, List.setIfInBounds_toArray, List.set_cons_succ, List.set_cons_zero])) | ((with_reducible apply wpList_storeAll HO); exact rfl; exact rfl; exact rfl; (repeat (with_reducible (first | exact At.head _ | apply At.tail))); infer_instance; exact rfl; exact rfl; exact rfl; exact rfl; clear HO; intro w HO; (simp only [Act.put, List.setIfInBounds_toArray, List.set_cons_succ, List.set_cons_zero])) | (first | ((with_reducible apply wpList_boxAgg _ HO rfl); exact rfl; exact rfl; exact rfl; clear HO; intro b0 w HO; (simp only [Act.put, List.setIfInBounds_toArray, List.set_cons_succ, List.set_cons_zero])) | ((with_reducible apply wpList_allocAgg _ HO rfl); exact rfl; infer_instance; exact rfl; clear HO; intro b0 w HO; (simp only [Act.put, List.setIfInBounds_toArray, List.set_cons_succ, List.set_cons_zero])))) | (go_at_call 30; go_must ((with_reducible refine (V _).mono ?_); rintro e w ⟨rfl, hb⟩; replace HO := HO.call hb; clear hb)) | (go_at_call 24; go_must (refine (planned_any _ (HL.out.below HO.grown hpos)).mono ?_; rintro e w ⟨rfl, hb⟩; replace HO := HO.call hb; clear hb)))
      go_ret
      exact ⟨rfl, HO.grown⟩
    · have hl : decide ((10 : Int) < (K.length : Int)) = false := by simp; omega
      have d1 : decide (o.id < 1) = true := by simpa using h'
      clear h
      unfold sagaV at V ⊢
      go_enter Tryd.func7, Tryd.ntmps7
      have HO := Own.start W
      go_wp2_with (first | (first | go_big_skip | ((with_reducible apply wpList_loadAll HO); exact rfl; exact rfl; (repeat (with_reducible (first | exact At.head _ | apply At.tail))); infer_instance; exact rfl; exact rfl; (simp only [Act.put, List.setIfInBounds_toArray, List.set_cons_succ, List.set_cons_zero])) | ((with_reducible apply wpList_loadOne HO); exact rfl; exact rfl; (repeat (with_reducible (first | exact At.head _ | apply At.tail))); exact rfl; infer_instance; exact rfl; (simp only [Act.put, List.setIfInBounds_toArray, List.set_cons_succ, List.set_cons_zero])) | ((with_reducible apply wpList_storeAll HO); exact rfl; exact rfl; exact rfl; (repeat (with_reducible (first | exact At.head _ | apply At.tail))); infer_instance; exact rfl; exact rfl; exact rfl; exact rfl; clear HO; intro w HO; (simp only [Act.put, List.setIfInBounds_toArray, List.set_cons_succ, List.set_cons_zero])) | (first | ((with_reducible apply wpList_boxAgg _ HO rfl); exact rfl; exact rfl; exact rfl; clear HO; intro b0 w HO; (simp only [Act.put, List.setIfInBounds_toArray, List.set_cons_succ, List.set_cons_zero])) | ((with_reducible apply wpList_allocAgg _ HO rfl); exact rfl; infer_instance; exact rfl; clear HO; intro b0 w HO; (simp only [Act.put, List.setIfInBounds_toArray, List.set_cons_succ, List.set_cons_zero])))) | (go_at_call 30; go_must ((with_reducible refine (V _).mono ?_); rintro e w ⟨rfl, hb⟩; replace HO := HO.call hb; clear hb)) | (go_at_call 24; go_must (refine (planned_any _ (HL.out.below HO.grown hpos)).mono ?_; rintro e w ⟨rfl, hb⟩; replace HO := HO.call hb; clear hb)))
      go_ret
      exact ⟨rfl, HO.grown⟩
    · have hl : decide ((10 : Int) < (K.length : Int)) = false := by simp; omega
      have d1 : decide (o.id < 1) = false := by simpa using h'
      have d2 : decide (60 < o.id) = true := by simpa using h''
      clear h
      unfold sagaV at V ⊢
      go_enter Tryd.func7, Tryd.ntmps7
      have HO := Own.start W
      go_wp2_with (first | (first | go_big_skip | ((with_reducible apply wpList_loadAll HO); exact rfl; exact rfl; (repeat (with_reducible (first | exact At.head _ | apply At.tail))); infer_instance; exact rfl; exact rfl; (simp only [Act.put, List.setIfInBounds_toArray, List.set_cons_succ, List.set_cons_zero])) | ((with_reducible apply wpList_loadOne HO); exact rfl; exact rfl; (repeat (with_reducible (first | exact At.head _ | apply At.tail))); exact rfl; infer_instance; exact rfl; (simp only [Act.put, List.setIfInBounds_toArray, List.set_cons_succ, List.set_cons_zero])) | ((with_reducible apply wpList_storeAll HO); exact rfl; exact rfl; exact rfl; (repeat (with_reducible (first | exact At.head _ | apply At.tail))); infer_instance; exact rfl; exact rfl; exact rfl; exact rfl; clear HO; intro w HO; (simp only [Act.put, List.setIfInBounds_toArray, List.set_cons_succ, List.set_cons_zero])) | (first | ((with_reducible apply wpList_boxAgg _ HO rfl); exact rfl; exact rfl; exact rfl; clear HO; intro b0 w HO; (simp only [Act.put, List.setIfInBounds_toArray, List.set_cons_succ, List.set_cons_zero])) | ((with_reducible apply wpList_allocAgg _ HO rfl); exact rfl; infer_instance; exact rfl; clear HO; intro b0 w HO; (simp only [Act.put, List.setIfInBounds_toArray, List.set_cons_succ, List.set_cons_zero])))) | (go_at_call 30; go_must ((with_reducible refine (V _).mono ?_); rintro e w ⟨rfl, hb⟩; replace HO := HO.call hb; clear hb)) | (go_at_call 24; go_must (refine (planned_any _ (HL.out.below HO.grown hpos)).mono ?_; rintro e w ⟨rfl, hb⟩; replace HO := HO.call hb; clear hb)))
      go_ret
      exact ⟨rfl, HO.grown⟩
  obtain ⟨hlK, hv, ho1, ho2⟩ := hA
  have hsR : s ∈ RL := by simp only [validS, Bool.and_eq_true, decide_eq_true_eq] at hv; exact hv.2
  rw [hv] at V
  have hl : decide ((10 : Int) < (K.length : Int)) = false := by simp; omega
  have d1 : decide (o.id < 1) = false := by simpa using ho1
  have d2 : decide (60 < o.id) = false := by simpa using ho2
  have HC := once_state s hsR
  have HP := fun p => plan_one (o := o) (s := s) (p := p) (fun h => by
    rcases HC with ⟨_, _, a, b, _⟩ | ⟨a, _⟩
    · simp [keyOk, isDeed, ho1, ho2, a]; omega
    · rw [h] at a; cases a)
  have HSet := settled_one (o := o) (s := s) (K := K)
  have HPl := Lib.hid (fun p w v (h : IsL w 12 v [sagaL (o, s)]) (hL : Laid w) => plan_any p (L := [(o, s)]) h hL (by simp))
  have HSl := Lib.hid (fun w v u (h : IsL w 12 v [sagaL (o, s)]) (h' : IsL w 2 u (K.map keyL)) => settled_any (L := [(o, s)]) h h' (by simp) (by omega) hwK (by simpa using hwo))
  have X := fun w => waits_any o s w
  have S := fun w => state_any o s w
  have HKL := Lib.hid hK
  have HKT := Lib.hid (fun k (hk : k < K.length) => any_take (x := o.id) hk)
  clear hv hsR hK
  generalize waitsOf s = c at *
  obtain ⟨n, b⟩ := c
  generalize stateOf s = st at *
  simp only at X HC HP
  generalize hq : partyOf n = q at *
  clear hq
  have HPP := Lib.hid HP
  have HSS := Lib.hid HSet
  clear HP HSet
  unfold sagaV at V X S ⊢
  have HCC := Lib.hid HC
  clear HC
  go_enter Tryd.func7, Tryd.ntmps7
  have HO := Own.start W
  go_wp2_with (first | (first | go_big_skip | ((with_reducible apply wpList_loadAll HO); exact rfl; exact rfl; (repeat (with_reducible (first | exact At.head _ | apply At.tail))); infer_instance; exact rfl; exact rfl; (simp only [Act.put, List.setIfInBounds_toArray, List.set_cons_succ, List.set_cons_zero])) | ((with_reducible apply wpList_loadOne HO); exact rfl; exact rfl; (repeat (with_reducible (first | exact At.head _ | apply At.tail))); exact rfl; infer_instance; exact rfl; (simp only [Act.put, List.setIfInBounds_toArray, List.set_cons_succ, List.set_cons_zero])) | ((with_reducible apply wpList_storeAll HO); exact rfl; exact rfl; exact rfl; (repeat (with_reducible (first | exact At.head _ | apply At.tail))); infer_instance; exact rfl; exact rfl; exact rfl; exact rfl; clear HO; intro w HO; (simp only [Act.put, List.setIfInBounds_toArray, List.set_cons_succ, List.set_cons_zero])) | (first | ((with_reducible apply wpList_boxAgg _ HO rfl); exact rfl; exact rfl; exact rfl; clear HO; intro b0 w HO; (simp only [Act.put, List.setIfInBounds_toArray, List.set_cons_succ, List.set_cons_zero])) | ((with_reducible apply wpList_allocAgg _ HO rfl); exact rfl; infer_instance; exact rfl; clear HO; intro b0 w HO; (simp only [Act.put, List.setIfInBounds_toArray, List.set_cons_succ, List.set_cons_zero])))) | (go_at_call 30; go_must ((with_reducible refine (V _).mono ?_); rintro e w ⟨rfl, hb⟩; replace HO := HO.call hb; clear hb)))
  go_loopw [5, 6] (fun m i wr => ∃ p : Int, 0 ≤ p ∧ p ≤ 4 ∧ i = .int .i64 p ∧ m = .int .i64 (if b = true ∧ q < p then 1 else 0) ∧ Own W wr [box b0 (.cells #[.int .i64 o.id, .string ⟨o.ref.toArray⟩, .string ⟨o.sku.toArray⟩, .int .i64 o.qty, .int .i64 o.amt, .int .i64 s.a, .int .i64 s.b, .int .i64 s.c, .int .i64 s.d, .int .i64 s.e, .int .i64 s.f, .bool s.x] 64)]) (fun _ i _ => (4 - intOf i).toNat)
  case atStart =>
    have hq0 : ¬ (b = true ∧ q < 0) := by
      rcases HCC.out with ⟨_, _, _, _, h, _⟩ | ⟨h, _⟩
      · omega
      · simp [h]
    exact ⟨0, by omega, by omega, rfl, by rw [if_neg hq0], HO⟩
  case round =>
    clear HO
    obtain ⟨p, hp0, hp1, rfl, rfl, HO⟩ := hrel
    by_cases hp4 : p = 4
    rotate_left
    · have hp3 : p ≤ 3 := by omega
      by_cases hbq : b = true ∧ q = p
      · obtain ⟨rfl, rfl⟩ := hbq
        have HP1 := Lib.hid (show planOf [(o, s)] q = [(o.id, n)] by rw [HPP.out]; simp)
        rw [if_neg (by omega)]
        go_wp2_with (first | (first | go_big_skip | ((with_reducible apply wpList_loadAll HO); exact rfl; exact rfl; (repeat (with_reducible (first | exact At.head _ | apply At.tail))); infer_instance; exact rfl; exact rfl; (simp only [Act.put, List.setIfInBounds_toArray, List.set_cons_succ, List.set_cons_zero])) | ((with_reducible apply wpList_loadOne HO); exact rfl; exact rfl; (repeat (with_reducible (first | exact At.head _ | apply At.tail))); exact rfl; infer_instance; exact rfl; (simp only [Act.put, List.setIfInBounds_toArray, List.set_cons_succ, List.set_cons_zero]))) | (first | ((with_reducible apply wpList_lit1 HO); exact rfl; infer_instance; infer_instance; exact rfl; exact rfl; exact (by decide); exact rfl; clear HO; intro b1 w HO; (simp only [Act.put, List.setIfInBounds_toArray, List.set_cons_succ, List.set_cons_zero])) | ((with_reducible apply wpList_lit1c HO); exact rfl; infer_instance; infer_instance; (first | (simp [Act.eval]; rfl) | exact rfl); exact rfl; exact rfl; clear HO; intro b1 w HO; (simp only [Act.put, List.setIfInBounds_toArray, List.set_cons_succ, List.set_cons_zero]))) | (go_at_call 31; go_must ((with_reducible refine (X _).mono ?_); rintro e w ⟨rfl, hb⟩; replace HO := HO.call hb; clear hb)) | (go_at_call 26; go_must (refine (HPl.out _ _ _ (isL_lit HO) (HL.out.below HO.grown hpos)).mono ?_; rintro e w ⟨v1, rfl, hI, hb, hf⟩; rw [HP1.out] at hI; replace HO := HO.got hb hI hf; clear hb hI hf; obtain ⟨q1, c1, h⟩ := (HO.islForm (.head _)).2 (by simp); rw [List.length_map] at h; have h' : v1 = .slice (some q1) 1 c1 := h; clear h; subst h')))
        refine region_own HO (by kernel_rfl) (by kernel_rfl) ?_
        clear HO
        intro F HF
        repeat (first | (first | (first | go_big_quiet_skip | ((with_reducible apply wpQuiet_loadAll HF); exact rfl; exact rfl; (repeat (with_reducible (first | exact At.head _ | apply At.tail))); infer_instance; exact rfl; exact rfl; (simp only [Act.put, List.setIfInBounds_toArray, List.set_cons_succ, List.set_cons_zero])) | ((with_reducible apply wpQuiet_loadOne HF); exact rfl; exact rfl; (repeat (with_reducible (first | exact At.head _ | apply At.tail))); exact rfl; infer_instance; exact rfl; (simp only [Act.put, List.setIfInBounds_toArray, List.set_cons_succ, List.set_cons_zero])) | ((with_reducible apply wpQuiet_loadPart HF); exact rfl; exact rfl; (repeat (with_reducible (first | exact At.head _ | apply At.tail))); infer_instance; exact (Nat.le_of_ble_eq_true rfl); (simp only [List.drop_succ_cons, List.drop_zero, List.take_succ_cons, List.take_zero]; rfl); exact rfl; (simp only [Act.put, List.setIfInBounds_toArray, List.set_cons_succ, List.set_cons_zero]))) | ((with_reducible apply wpQuiet_loadAt HF); exact rfl; exact rfl; exact (fun w' h => h.islAt0); infer_instance; exact rfl; exact rfl; (simp only [Act.put, List.setIfInBounds_toArray, List.set_cons_succ, List.set_cons_zero])) | ((with_reducible apply wpQuiet_pure); exact run_op_key o.id n rfl rfl rfl; exact rfl; (simp only [Act.put, List.setIfInBounds_toArray, List.set_cons_succ, List.set_cons_zero]))) | go_big_quiet_step (fail))
        refine wpQuiet_nil ?_
        intro x
        have HO := HF.own x
        clear HF
        generalize F x = w at *
        clear x F
        go_wp2_with fail
        go_roundw
        case rel => exact ⟨q + 1, by omega, by omega, rfl, by first | rfl | (simp; done) | (rw [if_pos (by simp; omega)]), HO.tail.tail⟩
        case measure => simp [intOf] <;> omega
      · have HP0 := Lib.hid (show planOf [(o, s)] p = [] by rw [HPP.out, if_neg hbq])
        have hcnt : (if b = true ∧ q < p then (1 : Int) else 0) = if b = true ∧ q < p + 1 then 1 else 0 := by
          by_cases hb : b = true
          · have hqp : q ≠ p := fun h => hbq ⟨hb, h⟩
            by_cases h1 : q < p
            · rw [if_pos ⟨hb, h1⟩, if_pos ⟨hb, by omega⟩]
            · rw [if_neg (by simp [h1]), if_neg (by intro h; omega)]
          · rw [if_neg (by simp [hb]), if_neg (by simp [hb])]
        have hm0 : 0 ≤ (if b = true ∧ q < p + 1 then (1 : Int) else 0) := by split <;> omega
        have hm1 : (if b = true ∧ q < p + 1 then (1 : Int) else 0) ≤ 1 := by split <;> omega
        have HM : ∃ m : Int, m = (if b = true ∧ q < p + 1 then (1 : Int) else 0) := ⟨_, rfl⟩
        obtain ⟨m, hm⟩ := HM
        rw [hcnt, ← hm]
        rw [← hm] at hm0 hm1
        have HM := Lib.hid hm
        clear hcnt hbq hm
        go_wp2_with (first | (first | go_big_skip | ((with_reducible apply wpList_loadAll HO); exact rfl; exact rfl; (repeat (with_reducible (first | exact At.head _ | apply At.tail))); infer_instance; exact rfl; exact rfl; (simp only [Act.put, List.setIfInBounds_toArray, List.set_cons_succ, List.set_cons_zero])) | ((with_reducible apply wpList_loadOne HO); exact rfl; exact rfl; (repeat (with_reducible (first | exact At.head _ | apply At.tail))); exact rfl; infer_instance; exact rfl; (simp only [Act.put, List.setIfInBounds_toArray, List.set_cons_succ, List.set_cons_zero]))) | (first | ((with_reducible apply wpList_lit1 HO); exact rfl; infer_instance; infer_instance; exact rfl; exact rfl; exact (by decide); exact rfl; clear HO; intro b1 w HO; (simp only [Act.put, List.setIfInBounds_toArray, List.set_cons_succ, List.set_cons_zero])) | ((with_reducible apply wpList_lit1c HO); exact rfl; infer_instance; infer_instance; (first | (simp [Act.eval]; rfl) | exact rfl); exact rfl; exact rfl; clear HO; intro b1 w HO; (simp only [Act.put, List.setIfInBounds_toArray, List.set_cons_succ, List.set_cons_zero]))) | (go_at_call 31; go_must ((with_reducible refine (X _).mono ?_); rintro e w ⟨rfl, hb⟩; replace HO := HO.call hb; clear hb)) | (go_at_call 26; go_must (refine (HPl.out _ _ _ (isL_lit HO) (HL.out.below HO.grown hpos)).mono ?_; rintro e w ⟨v1, rfl, hI, hb, hf⟩; rw [HP0.out] at hI; replace HO := HO.got hb hI hf; clear hb hI hf; obtain ⟨q1, c1, h⟩ := (HO.islForm (.head _)).1; rw [List.length_map] at h; have h' : v1 = .slice q1 0 c1 := h; clear h; subst h')))
        refine region_own HO (by kernel_rfl) (by kernel_rfl) ?_
        clear HO
        intro F HF
        repeat (first | fail | go_big_quiet_step (fail))
        refine wpQuiet_nil ?_
        intro x
        have HO := HF.own x
        clear HF
        generalize F x = w at *
        clear x F
        go_wp2_with fail
        go_roundw
        case rel => exact ⟨p + 1, by omega, by omega, rfl, by rw [HM.out], HO.tail.tail⟩
        case measure => simp [intOf] <;> omega
    · subst hp4
      have hm4 : (if b = true ∧ q < 4 then (1 : Int) else 0) = if b = true then 1 else 0 := by
        rcases HCC.out with ⟨h, _, _, _, _, h5⟩ | ⟨h, _⟩
        · rw [if_pos ⟨h, by omega⟩, if_pos h]
        · rw [if_neg (by simp [h]), if_neg (by simp [h])]
      rw [hm4]
      clear hm4
      obtain ⟨m, hm⟩ : ∃ m : Int, m = if b = true then 1 else 0 := ⟨_, rfl⟩
      rw [← hm]
      have HM := Lib.hid hm
      clear hm
      have hlk : (K.length : Int) ≤ 10 := by omega
      go_wp2_with fail
      go_loopw [10, 11] (fun f i wr => ∃ j : Nat, j ≤ K.length ∧ i = .int .i64 (j : Int) ∧ f = .bool ((K.take j).any fun y => decide (y.1 = o.id)) ∧ Own W wr [box b0 (.cells #[.int .i64 o.id, .string ⟨o.ref.toArray⟩, .string ⟨o.sku.toArray⟩, .int .i64 o.qty, .int .i64 o.amt, .int .i64 s.a, .int .i64 s.b, .int .i64 s.c, .int .i64 s.d, .int .i64 s.e, .int .i64 s.f, .bool s.x] 64)]) (fun _ i _ => K.length - (intOf i).toNat)
      case atStart => exact ⟨0, by omega, rfl, by simp, HO⟩
      case round =>
        clear HO
        obtain ⟨j, hj, rfl, rfl, HO⟩ := hrel
        by_cases hjk : j < K.length
        · have hjl : (j : Int) < (K.length : Int) := by omega
          have HT := Lib.hid (HKT.out j hjk)
          obtain ⟨a, cap, h, _, _, hR⟩ := HKL.out.at (by simp; omega)
          rw [List.length_map] at h
          cases h
          have HC0 := Lib.hid (hR.c0 j (by simpa using hjk) (.int .i64 K[j].1) (by simp [keyL]))
          have HCB := Lib.hid (show (a.add (j * 2)).block < W.heap.size from hR.lt' _)
          clear hR
          generalize K[j] = kk at *
          generalize ((K.take j).any fun y => decide (y.1 = o.id)) = f at *
          cases f
          all_goals
            go_wp2_with fail
            refine region_own HO (by kernel_rfl) (by kernel_rfl) ?_
            clear HO
            intro F HF
            repeat (first | (first | (first | go_big_quiet_skip | ((with_reducible apply wpQuiet_loadAll HF); exact rfl; exact rfl; (repeat (with_reducible (first | exact At.head _ | apply At.tail))); infer_instance; exact rfl; exact rfl; (simp only [Act.put, List.setIfInBounds_toArray, List.set_cons_succ, List.set_cons_zero])) | ((with_reducible apply wpQuiet_loadOne HF); exact rfl; exact rfl; (repeat (with_reducible (first | exact At.head _ | apply At.tail))); exact rfl; infer_instance; exact rfl; (simp only [Act.put, List.setIfInBounds_toArray, List.set_cons_succ, List.set_cons_zero])) | ((with_reducible apply wpQuiet_loadPart HF); exact rfl; exact rfl; (repeat (with_reducible (first | exact At.head _ | apply At.tail))); infer_instance; exact (Nat.le_of_ble_eq_true rfl); (simp only [List.drop_succ_cons, List.drop_zero, List.take_succ_cons, List.take_zero]; rfl); exact rfl; (simp only [Act.put, List.setIfInBounds_toArray, List.set_cons_succ, List.set_cons_zero]))) | ((with_reducible apply wpQuiet_loadOld1 HF); exact rfl; exact rfl; exact HCB.out; exact HC0.out; infer_instance; exact rfl; (simp only [Act.put, List.setIfInBounds_toArray, List.set_cons_succ, List.set_cons_zero]))) | go_big_quiet_step (fail))
            refine wpQuiet_nil ?_
            intro x
            have HO := HF.own x
            clear HF
            generalize F x = w at *
            clear x F
            go_wp2_with fail
            go_roundw
            case rel => exact ⟨j + 1, by omega, by go_num, by rw [HT.out]; first | rfl | simp, HO⟩
            case measure => simp [intOf] <;> omega
        · obtain rfl : j = K.length := by omega
          rw [List.take_length]
          have HKB := Lib.hid (fun w (hb : Below W.heap.size W w) => HKL.out.below hb HKL.out.lt)
          clear hjk
          generalize (K.any fun y => decide (y.1 = o.id)) = f at *
          rcases HCC.out with ⟨rfl, hst, _⟩ | ⟨rfl, hst⟩
          · obtain rfl : m = 1 := by simpa using HM.out
            have HSv := Lib.hid (show settledOf [(o, s)] K = [] by rw [HSS.out, if_pos (.inl (by omega))])
            rcases hst with rfl | rfl <;> cases f
            all_goals
              go_wp2_with (first | (first | go_big_skip | ((with_reducible apply wpList_loadAll HO); exact rfl; exact rfl; (repeat (with_reducible (first | exact At.head _ | apply At.tail))); infer_instance; exact rfl; exact rfl; (simp only [Act.put, List.setIfInBounds_toArray, List.set_cons_succ, List.set_cons_zero])) | ((with_reducible apply wpList_loadOne HO); exact rfl; exact rfl; (repeat (with_reducible (first | exact At.head _ | apply At.tail))); exact rfl; infer_instance; exact rfl; (simp only [Act.put, List.setIfInBounds_toArray, List.set_cons_succ, List.set_cons_zero]))) | (first | ((with_reducible apply wpList_lit1 HO); exact rfl; infer_instance; infer_instance; exact rfl; exact rfl; exact (by decide); exact rfl; clear HO; intro b1 w HO; (simp only [Act.put, List.setIfInBounds_toArray, List.set_cons_succ, List.set_cons_zero])) | ((with_reducible apply wpList_lit1c HO); exact rfl; infer_instance; infer_instance; (first | (simp [Act.eval]; rfl) | exact rfl); exact rfl; exact rfl; clear HO; intro b1 w HO; (simp only [Act.put, List.setIfInBounds_toArray, List.set_cons_succ, List.set_cons_zero]))) | (go_at_call 32; go_must ((with_reducible refine (S _).mono ?_); rintro e w ⟨rfl, hb⟩; replace HO := HO.call hb; clear hb)) | (go_at_call 24; go_must (refine (planned_any _ (HL.out.below HO.grown hpos)).mono ?_; rintro e w ⟨rfl, hb⟩; replace HO := HO.call hb; clear hb)) | (go_at_call 28; go_must (refine (HSl.out _ _ _ (isL_lit HO) (HKB.out _ HO.grown)).mono ?_; rintro e w ⟨v1, rfl, hI, hb, hf⟩; rw [HSv.out] at hI; replace HO := HO.got hb hI hf; clear hb hI hf; obtain ⟨q1, c1, h⟩ := (HO.islForm (.head _)).1; rw [List.length_map] at h; have h' : v1 = .slice q1 0 c1 := h; clear h; subst h')))
              go_ret
              exact ⟨rfl, HO.grown⟩
          · obtain rfl : m = 0 := by simpa using HM.out
            cases f
            · have HSv := Lib.hid (show settledOf [(o, s)] K = [o.id] by rw [HSS.out, if_neg (fun h => h.elim (fun h => by omega) (fun h => by cases h))])
              rcases hst with rfl | rfl | rfl
              all_goals
                go_wp2_with (first | (first | go_big_skip | ((with_reducible apply wpList_loadAll HO); exact rfl; exact rfl; (repeat (with_reducible (first | exact At.head _ | apply At.tail))); infer_instance; exact rfl; exact rfl; (simp only [Act.put, List.setIfInBounds_toArray, List.set_cons_succ, List.set_cons_zero])) | ((with_reducible apply wpList_loadOne HO); exact rfl; exact rfl; (repeat (with_reducible (first | exact At.head _ | apply At.tail))); exact rfl; infer_instance; exact rfl; (simp only [Act.put, List.setIfInBounds_toArray, List.set_cons_succ, List.set_cons_zero]))) | (first | ((with_reducible apply wpList_lit1 HO); exact rfl; infer_instance; infer_instance; exact rfl; exact rfl; exact (by decide); exact rfl; clear HO; intro b1 w HO; (simp only [Act.put, List.setIfInBounds_toArray, List.set_cons_succ, List.set_cons_zero])) | ((with_reducible apply wpList_lit1c HO); exact rfl; infer_instance; infer_instance; (first | (simp [Act.eval]; rfl) | exact rfl); exact rfl; exact rfl; clear HO; intro b1 w HO; (simp only [Act.put, List.setIfInBounds_toArray, List.set_cons_succ, List.set_cons_zero]))) | (go_at_call 32; go_must ((with_reducible refine (S _).mono ?_); rintro e w ⟨rfl, hb⟩; replace HO := HO.call hb; clear hb)) | (go_at_call 24; go_must (refine (planned_any _ (HL.out.below HO.grown hpos)).mono ?_; rintro e w ⟨rfl, hb⟩; replace HO := HO.call hb; clear hb)) | (go_at_call 28; go_must (refine (HSl.out _ _ _ (isL_lit HO) (HKB.out _ HO.grown)).mono ?_; rintro e w ⟨v1, rfl, hI, hb, hf⟩; rw [HSv.out] at hI; replace HO := HO.got hb hI hf; clear hb hI hf; obtain ⟨q1, c1, h⟩ := (HO.islForm (.head _)).1; rw [List.length_map] at h; have h' : v1 = .slice q1 1 c1 := h; clear h; subst h')))
                go_ret
                exact ⟨rfl, HO.grown⟩
            · have HSv := Lib.hid (show settledOf [(o, s)] K = [] by rw [HSS.out, if_pos (.inr rfl)])
              rcases hst with rfl | rfl | rfl
              all_goals
                go_wp2_with (first | (first | go_big_skip | ((with_reducible apply wpList_loadAll HO); exact rfl; exact rfl; (repeat (with_reducible (first | exact At.head _ | apply At.tail))); infer_instance; exact rfl; exact rfl; (simp only [Act.put, List.setIfInBounds_toArray, List.set_cons_succ, List.set_cons_zero])) | ((with_reducible apply wpList_loadOne HO); exact rfl; exact rfl; (repeat (with_reducible (first | exact At.head _ | apply At.tail))); exact rfl; infer_instance; exact rfl; (simp only [Act.put, List.setIfInBounds_toArray, List.set_cons_succ, List.set_cons_zero]))) | (first | ((with_reducible apply wpList_lit1 HO); exact rfl; infer_instance; infer_instance; exact rfl; exact rfl; exact (by decide); exact rfl; clear HO; intro b1 w HO; (simp only [Act.put, List.setIfInBounds_toArray, List.set_cons_succ, List.set_cons_zero])) | ((with_reducible apply wpList_lit1c HO); exact rfl; infer_instance; infer_instance; (first | (simp [Act.eval]; rfl) | exact rfl); exact rfl; exact rfl; clear HO; intro b1 w HO; (simp only [Act.put, List.setIfInBounds_toArray, List.set_cons_succ, List.set_cons_zero]))) | (go_at_call 32; go_must ((with_reducible refine (S _).mono ?_); rintro e w ⟨rfl, hb⟩; replace HO := HO.call hb; clear hb)) | (go_at_call 24; go_must (refine (planned_any _ (HL.out.below HO.grown hpos)).mono ?_; rintro e w ⟨rfl, hb⟩; replace HO := HO.call hb; clear hb)) | (go_at_call 28; go_must (refine (HSl.out _ _ _ (isL_lit HO) (HKB.out _ HO.grown)).mono ?_; rintro e w ⟨v1, rfl, hI, hb, hf⟩; rw [HSv.out] at hI; replace HO := HO.got hb hI hf; clear hb hI hf; obtain ⟨q1, c1, h⟩ := (HO.islForm (.head _)).1; rw [List.length_map] at h; have h' : v1 = .slice q1 0 c1 := h; clear h; subst h')))
                go_ret
                exact ⟨rfl, HO.grown⟩
end Go.Proofs.YtlfphfklcifgpaaDoor

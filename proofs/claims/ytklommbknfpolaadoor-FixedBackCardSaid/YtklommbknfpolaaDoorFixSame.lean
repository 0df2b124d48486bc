/-
  Whether two lists of texts are the same, by walking the law's text; conditions: they lie in memory.
-/
import Derived.Test.YtklommbknfpolaaDoorFixParseR
namespace Go.Proofs.YtklommbknfpolaaDoor
open Go.RowKit Go.Own

theorem str_beq (a b : ByteArray) : (a.toList == b.toList) = decide (tx a = tx b) := by
  rw [ByteArray.toList_eq, ByteArray.toList_eq, Bool.eq_iff_iff]
  simp
theorem take_eq {α : Type} {as' bs : List α} {k : Nat} (h1 : k < as'.length) (h2 : k < bs.length) : as'.take (k + 1) = bs.take (k + 1) ↔ as'.take k = bs.take k ∧ as'[k] = bs[k] := by
  rw [List.take_succ_eq_append_getElem h1, List.take_succ_eq_append_getElem h2]
  constructor
  · intro h
    have := List.append_inj h (by simp; omega)
    exact ⟨this.1, by simpa using this.2⟩
  · rintro ⟨e1, e2⟩
    rw [e1, e2]
set_option maxHeartbeats 8000000 in
set_option maxRecDepth 100000 in
theorem same04_any {W : World} {x y : Nat} {u v : Value} {xs ys : List ByteArray} (hx : W.cell? ⟨x, 0, none⟩ = some u) (hy : W.cell? ⟨y, 0, none⟩ = some v) (h1 : IsStrs W u xs) (h2 : IsStrs W v ys) :
    Calls Tryd.prog 24 #[.slice (some ⟨x, 0, none⟩) 1 1, .slice (some ⟨y, 0, none⟩) 1 1] W fun e w' => e = .returned (.bool (decide (xs = ys))) ∧ Below W.heap.size W w' := by
  obtain ⟨sp, sc, rfl, hmx⟩ := h1.slice
  obtain ⟨tp, tc, rfl, hmt⟩ := h2.slice
  rw [List.length_map] at hmx hmt
  rw [List.length_map] at h1 h2 hx hy
  have H1 := Lib.hid h1
  have H2 := Lib.hid h2
  have HX := Lib.hid hx
  have HY := Lib.hid hy
  have BX := Lib.hid (World.block_lt_of_cell? W _ hx)
  have BY := Lib.hid (World.block_lt_of_cell? W _ hy)
  have hst := Lib.hid (fun w' (hb : Below W.heap.size W w') => (hb.cell (p := ⟨x, 0, none⟩) BX.out).trans HX.out)
  have hmx' : (xs.length : Int) ≤ 9223372036854775807 := by unfold maxLen at hmx; omega
  clear h1 h2 hx hy
  have HO := Own.start W
  by_cases hlen : xs.length = ys.length
  rotate_left
  · have HQ := Lib.hid (show decide (xs = ys) = false by simp; rintro rfl; exact hlen rfl)
    have hn1 : ((xs.length : Int) == (ys.length : Int)) = false := by simp only [beq_eq_false_iff_ne, ne_eq]; omega
    generalize decide (xs = ys) = R at *
    go_enter Tryd.func24, Tryd.ntmps24
    go_wp2_with fail
    refine wp_loop_rounds 2 ?_
    rw [rounds_succ]
    go_upto_region 6 with fail
    refine region_own HO (by kernel_rfl) (by kernel_rfl) ?_
    clear HO
    intro F HF
    repeat (first | (first | ((with_reducible apply wpQuiet_loadOld1 HF); exact rfl; exact rfl; exact BX.out; exact HX.out; infer_instance; exact rfl; (simp only [Act.put, List.setIfInBounds_toArray, List.set_cons_succ, List.set_cons_zero])) | ((with_reducible apply wpQuiet_loadOld1 HF); exact rfl; exact rfl; exact BY.out; exact HY.out; infer_instance; exact rfl; (simp only [Act.put, List.setIfInBounds_toArray, List.set_cons_succ, List.set_cons_zero])) | (first | go_big_quiet_skip | ((with_reducible apply wpQuiet_loadAll HF); exact rfl; exact rfl; (repeat (with_reducible (first | exact At.head _ | apply At.tail))); infer_instance; exact rfl; exact rfl; (simp only [Act.put, List.setIfInBounds_toArray, List.set_cons_succ, List.set_cons_zero])) | ((with_reducible apply wpQuiet_loadOne HF); exact rfl; exact rfl; (repeat (with_reducible (first | exact At.head _ | apply At.tail))); exact rfl; infer_instance; exact rfl; (simp only [Act.put, List.setIfInBounds_toArray, List.set_cons_succ, List.set_cons_zero])) | ((with_reducible apply wpQuiet_loadPart HF); exact rfl; exact rfl; (repeat (with_reducible (first | exact At.head _ | apply At.tail))); infer_instance; exact (Nat.le_of_ble_eq_true rfl); (simp only [List.drop_succ_cons, List.drop_zero, List.take_succ_cons, List.take_zero]; rfl); exact rfl; (simp only [Act.put, List.setIfInBounds_toArray, List.set_cons_succ, List.set_cons_zero])))) | go_big_quiet_step (fail))
    refine wpQuiet_nil ?_
    intro x
    have HO := HF.own x
    clear HF
    generalize F x = w at *
    clear x F
    go_wp2_with fail
    go_ret
    exact ⟨by rw [HQ.out]; rfl, HO.grown⟩
  have hn1 : ((xs.length : Int) == (ys.length : Int)) = true := by simp only [beq_iff_eq]; omega
  have hle := Lib.hid hlen
  rw [← hlen] at H2 HY hmt
  clear hlen hn1
  generalize hR : decide (xs = ys) = R at *
  replace hR := Lib.hid hR
  go_enter Tryd.func24, Tryd.ntmps24
  go_wp2_with fail
  refine wp_loop_rounds 2 ?_
  rw [rounds_succ]
  go_upto_region 6 with fail
  refine region_own HO (by kernel_rfl) (by kernel_rfl) ?_
  clear HO
  intro F HF
  repeat (first | (first | ((with_reducible apply wpQuiet_loadOld1 HF); exact rfl; exact rfl; exact BX.out; exact HX.out; infer_instance; exact rfl; (simp only [Act.put, List.setIfInBounds_toArray, List.set_cons_succ, List.set_cons_zero])) | ((with_reducible apply wpQuiet_loadOld1 HF); exact rfl; exact rfl; exact BY.out; exact HY.out; infer_instance; exact rfl; (simp only [Act.put, List.setIfInBounds_toArray, List.set_cons_succ, List.set_cons_zero])) | (first | go_big_quiet_skip | ((with_reducible apply wpQuiet_loadAll HF); exact rfl; exact rfl; (repeat (with_reducible (first | exact At.head _ | apply At.tail))); infer_instance; exact rfl; exact rfl; (simp only [Act.put, List.setIfInBounds_toArray, List.set_cons_succ, List.set_cons_zero])) | ((with_reducible apply wpQuiet_loadOne HF); exact rfl; exact rfl; (repeat (with_reducible (first | exact At.head _ | apply At.tail))); exact rfl; infer_instance; exact rfl; (simp only [Act.put, List.setIfInBounds_toArray, List.set_cons_succ, List.set_cons_zero])) | ((with_reducible apply wpQuiet_loadPart HF); exact rfl; exact rfl; (repeat (with_reducible (first | exact At.head _ | apply At.tail))); infer_instance; exact (Nat.le_of_ble_eq_true rfl); (simp only [List.drop_succ_cons, List.drop_zero, List.take_succ_cons, List.take_zero]; rfl); exact rfl; (simp only [Act.put, List.setIfInBounds_toArray, List.set_cons_succ, List.set_cons_zero])))) | go_big_quiet_step (fail))
  refine wpQuiet_nil ?_
  intro x
  have HO := HF.own x
  clear HF
  generalize F x = w at *
  clear x F
  go_wp2_with fail
  go_loopw [6] (fun i wr => ∃ k : Nat, k ≤ xs.length ∧ i = .int .i64 (k : Int) ∧ xs.take k = ys.take k ∧ Own W wr []) (fun i _ => xs.length - (intOf i).toNat)
  case atStart => exact ⟨0, by omega, rfl, rfl, HO⟩
  case round =>
    clear HO
    obtain ⟨k, hk, rfl, hse, HO⟩ := hrel
    by_cases hkl : k < xs.length
    · have hky : k < ys.length := by rw [← hle.out]; exact hkl
      have hkI : (k : Int) < (xs.length : Int) := by omega
      obtain ⟨a, rfl, hc1⟩ := oldOne H1.out rfl hkl
      obtain ⟨b, rfl, hc2⟩ := oldOne H2.out rfl hky
      have C1 := Lib.hid (hc1 W (Below.refl _ _))
      have C2 := Lib.hid (hc2 W (Below.refl _ _))
      have B1 := Lib.hid (World.block_lt_of_cell? W _ C1.out)
      have B2 := Lib.hid (World.block_lt_of_cell? W _ C2.out)
      clear hc1 hc2
      have HT := Lib.hid (take_eq hkl hky)
      have HS := Lib.hid hse
      have HN := Lib.hid (fun (h : ¬ xs[k] = ys[k]) => (show decide (xs = ys) = false by simp; rintro rfl; exact h rfl))
      clear hse
      generalize xs[k] = s at *
      generalize ys[k] = t at *
      by_cases hst' : s = t
      · have h1 : (s.toList == t.toList) = true := by rw [hst']; simp
        have HE := Lib.hid hst'
        clear hst'
        go_upto_region 11 with (first | (first | go_big_skip | ((with_reducible apply wpList_loadAll HO); exact rfl; exact rfl; (repeat (with_reducible (first | exact At.head _ | apply At.tail))); infer_instance; exact rfl; exact rfl; (simp only [Act.put, List.setIfInBounds_toArray, List.set_cons_succ, List.set_cons_zero])) | ((with_reducible apply wpList_loadOne HO); exact rfl; exact rfl; (repeat (with_reducible (first | exact At.head _ | apply At.tail))); exact rfl; infer_instance; exact rfl; (simp only [Act.put, List.setIfInBounds_toArray, List.set_cons_succ, List.set_cons_zero]))) | ((with_reducible apply wpList_loadAt1 HO); exact rfl; exact rfl; exact (fun w' h1 => hst.out w' h1.grown); infer_instance; exact rfl; (simp only [Act.put, List.setIfInBounds_toArray, List.set_cons_succ, List.set_cons_zero])))
        refine region_own HO (by kernel_rfl) (by kernel_rfl) ?_
        clear HO
        intro F HF
        repeat (first | (first | ((with_reducible apply wpQuiet_loadOld1 HF); exact rfl; exact rfl; exact BX.out; exact HX.out; infer_instance; exact rfl; (simp only [Act.put, List.setIfInBounds_toArray, List.set_cons_succ, List.set_cons_zero])) | ((with_reducible apply wpQuiet_loadOld1 HF); exact rfl; exact rfl; exact BY.out; exact HY.out; infer_instance; exact rfl; (simp only [Act.put, List.setIfInBounds_toArray, List.set_cons_succ, List.set_cons_zero])) | ((with_reducible apply wpQuiet_loadOld1 HF); exact rfl; exact rfl; exact B1.out; exact C1.out; infer_instance; exact rfl; (simp only [Act.put, List.setIfInBounds_toArray, List.set_cons_succ, List.set_cons_zero])) | ((with_reducible apply wpQuiet_loadOld1 HF); exact rfl; exact rfl; exact B2.out; exact C2.out; infer_instance; exact rfl; (simp only [Act.put, List.setIfInBounds_toArray, List.set_cons_succ, List.set_cons_zero])) | (first | go_big_quiet_skip | ((with_reducible apply wpQuiet_loadAll HF); exact rfl; exact rfl; (repeat (with_reducible (first | exact At.head _ | apply At.tail))); infer_instance; exact rfl; exact rfl; (simp only [Act.put, List.setIfInBounds_toArray, List.set_cons_succ, List.set_cons_zero])) | ((with_reducible apply wpQuiet_loadOne HF); exact rfl; exact rfl; (repeat (with_reducible (first | exact At.head _ | apply At.tail))); exact rfl; infer_instance; exact rfl; (simp only [Act.put, List.setIfInBounds_toArray, List.set_cons_succ, List.set_cons_zero])) | ((with_reducible apply wpQuiet_loadPart HF); exact rfl; exact rfl; (repeat (with_reducible (first | exact At.head _ | apply At.tail))); infer_instance; exact (Nat.le_of_ble_eq_true rfl); (simp only [List.drop_succ_cons, List.drop_zero, List.take_succ_cons, List.take_zero]; rfl); exact rfl; (simp only [Act.put, List.setIfInBounds_toArray, List.set_cons_succ, List.set_cons_zero])))) | go_big_quiet_step (fail))
        refine wpQuiet_nil ?_
        intro x
        have HO := HF.own x
        clear HF
        generalize F x = w at *
        clear x F
        go_wp2_with fail
        go_roundw
        case rel => exact ⟨k + 1, by omega, by go_num, HT.out.2 ⟨HS.out, HE.out⟩, HO⟩
        case measure => simp [intOf] <;> omega
      · have h1 : (s.toList == t.toList) = false := by
          rw [str_beq]
          simpa using fun e => hst' (tx_inj e)
        have HQ := Lib.hid (show R = false by rw [← hR.out]; exact HN.out hst')
        clear hst'
        go_upto_region 11 with (first | (first | go_big_skip | ((with_reducible apply wpList_loadAll HO); exact rfl; exact rfl; (repeat (with_reducible (first | exact At.head _ | apply At.tail))); infer_instance; exact rfl; exact rfl; (simp only [Act.put, List.setIfInBounds_toArray, List.set_cons_succ, List.set_cons_zero])) | ((with_reducible apply wpList_loadOne HO); exact rfl; exact rfl; (repeat (with_reducible (first | exact At.head _ | apply At.tail))); exact rfl; infer_instance; exact rfl; (simp only [Act.put, List.setIfInBounds_toArray, List.set_cons_succ, List.set_cons_zero]))) | ((with_reducible apply wpList_loadAt1 HO); exact rfl; exact rfl; exact (fun w' h1 => hst.out w' h1.grown); infer_instance; exact rfl; (simp only [Act.put, List.setIfInBounds_toArray, List.set_cons_succ, List.set_cons_zero])))
        refine region_own HO (by kernel_rfl) (by kernel_rfl) ?_
        clear HO
        intro F HF
        repeat (first | (first | ((with_reducible apply wpQuiet_loadOld1 HF); exact rfl; exact rfl; exact BX.out; exact HX.out; infer_instance; exact rfl; (simp only [Act.put, List.setIfInBounds_toArray, List.set_cons_succ, List.set_cons_zero])) | ((with_reducible apply wpQuiet_loadOld1 HF); exact rfl; exact rfl; exact BY.out; exact HY.out; infer_instance; exact rfl; (simp only [Act.put, List.setIfInBounds_toArray, List.set_cons_succ, List.set_cons_zero])) | ((with_reducible apply wpQuiet_loadOld1 HF); exact rfl; exact rfl; exact B1.out; exact C1.out; infer_instance; exact rfl; (simp only [Act.put, List.setIfInBounds_toArray, List.set_cons_succ, List.set_cons_zero])) | ((with_reducible apply wpQuiet_loadOld1 HF); exact rfl; exact rfl; exact B2.out; exact C2.out; infer_instance; exact rfl; (simp only [Act.put, List.setIfInBounds_toArray, List.set_cons_succ, List.set_cons_zero])) | (first | go_big_quiet_skip | ((with_reducible apply wpQuiet_loadAll HF); exact rfl; exact rfl; (repeat (with_reducible (first | exact At.head _ | apply At.tail))); infer_instance; exact rfl; exact rfl; (simp only [Act.put, List.setIfInBounds_toArray, List.set_cons_succ, List.set_cons_zero])) | ((with_reducible apply wpQuiet_loadOne HF); exact rfl; exact rfl; (repeat (with_reducible (first | exact At.head _ | apply At.tail))); exact rfl; infer_instance; exact rfl; (simp only [Act.put, List.setIfInBounds_toArray, List.set_cons_succ, List.set_cons_zero])) | ((with_reducible apply wpQuiet_loadPart HF); exact rfl; exact rfl; (repeat (with_reducible (first | exact At.head _ | apply At.tail))); infer_instance; exact (Nat.le_of_ble_eq_true rfl); (simp only [List.drop_succ_cons, List.drop_zero, List.take_succ_cons, List.take_zero]; rfl); exact rfl; (simp only [Act.put, List.setIfInBounds_toArray, List.set_cons_succ, List.set_cons_zero])))) | go_big_quiet_step (fail))
        refine wpQuiet_nil ?_
        intro x
        have HO := HF.own x
        clear HF
        generalize F x = w at *
        clear x F
        go_wp2_with fail
        go_ret
        exact ⟨by rw [HQ.out]; rfl, HO.grown⟩
    obtain rfl : k = xs.length := by omega
    rw [List.take_length, show ys.take xs.length = ys by rw [hle.out]; exact List.take_length] at hse
    have HQ := Lib.hid (show R = true by rw [← hR.out]; simpa using hse)
    clear hse
    go_wp2_with (first | (first | go_big_skip | ((with_reducible apply wpList_loadAll HO); exact rfl; exact rfl; (repeat (with_reducible (first | exact At.head _ | apply At.tail))); infer_instance; exact rfl; exact rfl; (simp only [Act.put, List.setIfInBounds_toArray, List.set_cons_succ, List.set_cons_zero])) | ((with_reducible apply wpList_loadOne HO); exact rfl; exact rfl; (repeat (with_reducible (first | exact At.head _ | apply At.tail))); exact rfl; infer_instance; exact rfl; (simp only [Act.put, List.setIfInBounds_toArray, List.set_cons_succ, List.set_cons_zero]))) | ((with_reducible apply wpList_loadAt1 HO); exact rfl; exact rfl; exact (fun w' h1 => hst.out w' h1.grown); infer_instance; exact rfl; (simp only [Act.put, List.setIfInBounds_toArray, List.set_cons_succ, List.set_cons_zero])))
    rw [rounds_succ]
    go_wp2_with fail
    go_ret
    exact ⟨by rw [HQ.out]; rfl, HO.grown⟩
set_option maxHeartbeats 8000000 in
set_option maxRecDepth 100000 in
theorem same_any {W : World} {u v : Value} {xs ys : List ByteArray} (h1 : IsStrs W u xs) (h2 : IsStrs W v ys) :
    Calls Tryd.prog 12 #[u, v] W fun e w' => e = .returned (.bool (decide (xs = ys))) ∧ Below W.heap.size W w' := by
  obtain ⟨sp, sc, rfl, -⟩ := h1.slice
  obtain ⟨tp, tc, rfl, -⟩ := h2.slice
  rw [List.length_map] at h1 h2 ⊢
  rw [List.length_map]
  have SM := fun (w : World) (x y : Nat) (hO : Own W w [box y (.cells [.slice tp ys.length tc].toArray 23), box x (.cells [.slice sp xs.length sc].toArray 23)]) => same04_any (W := w) (x := x) (y := y) (u := .slice sp xs.length sc) (v := .slice tp ys.length tc) (xs := xs) (ys := ys) (by rw [Lib.cell_of_heap (hO.has _ (List.mem_cons_of_mem _ List.mem_cons_self)) 0]; rfl) (by rw [Lib.cell_of_heap (hO.has _ List.mem_cons_self) 0]; rfl) (h1.below hO.grown h1.lt) (h2.below hO.grown h2.lt)
  clear h1 h2
  generalize decide (xs = ys) = R at *
  have HO := Own.start W
  go_enter Tryd.func12, Tryd.ntmps12
  go_wp2_with (first | (first | go_big_skip | ((with_reducible apply wpList_loadAll HO); exact rfl; exact rfl; (repeat (with_reducible (first | exact At.head _ | apply At.tail))); infer_instance; exact rfl; exact rfl; (simp only [Act.put, List.setIfInBounds_toArray, List.set_cons_succ, List.set_cons_zero])) | ((with_reducible apply wpList_loadOne HO); exact rfl; exact rfl; (repeat (with_reducible (first | exact At.head _ | apply At.tail))); exact rfl; infer_instance; exact rfl; (simp only [Act.put, List.setIfInBounds_toArray, List.set_cons_succ, List.set_cons_zero]))) | ((have _h : Own W _ (box _ _ :: _) := HO); clear _h; (first | ((with_reducible apply wpList_lit1 HO); exact rfl; infer_instance; infer_instance; exact rfl; exact rfl; exact (by decide); exact rfl; clear HO; intro y w HO; (simp only [Act.put, List.setIfInBounds_toArray, List.set_cons_succ, List.set_cons_zero])) | ((with_reducible apply wpList_lit1c HO); exact rfl; infer_instance; infer_instance; (first | (simp [Act.eval]; rfl) | exact rfl); exact rfl; exact rfl; clear HO; intro y w HO; (simp only [Act.put, List.setIfInBounds_toArray, List.set_cons_succ, List.set_cons_zero])))) | (first | ((with_reducible apply wpList_lit1 HO); exact rfl; infer_instance; infer_instance; exact rfl; exact rfl; exact (by decide); exact rfl; clear HO; intro x w HO; (simp only [Act.put, List.setIfInBounds_toArray, List.set_cons_succ, List.set_cons_zero])) | ((with_reducible apply wpList_lit1c HO); exact rfl; infer_instance; infer_instance; (first | (simp [Act.eval]; rfl) | exact rfl); exact rfl; exact rfl; clear HO; intro x w HO; (simp only [Act.put, List.setIfInBounds_toArray, List.set_cons_succ, List.set_cons_zero]))) | (go_at_call 24; go_must ((with_reducible refine (SM _ _ _ HO).mono ?_); rintro e w ⟨rfl, hb⟩; replace HO := HO.call hb; clear hb)))
  go_ret
  exact ⟨rfl, HO.grown⟩
end Go.Proofs.YtklommbknfpolaaDoor

/-
  What the laws on books share: are postings many, the same, a small one, the chapter's books; by walking their text; conditions: int64 numbers.
-/
import Derived.Test.YthiokpjakiidjaaBkR
namespace Go.Proofs.Ythiokpjakiidjaa
open Go.RowKit Go.Own Go.Maps

def greatB (l : List Pst) (most : Int) : Bool := l.any (fun p => decide (100 < p.id.size)) || decide (most < (l.length : Int))

set_option maxHeartbeats 8000000 in
set_option maxRecDepth 100000 in
theorem great_any {W : World} {v : Value} {l : List Pst} (most : Int) (h : IsL W 5 v (l.map pstC)) : Calls Try.prog 8 #[v, .int .i64 most] W fun e w' => e = .returned (.bool (greatB l most)) ∧ Below W.heap.size W w' := by
  have HH := Lib.hid h
  obtain ⟨sp, sc, rfl, hmx⟩ := h.slice
  rw [List.length_map] at hmx HH ⊢
  have hmx' : (l.length : Int) ≤ 9223372036854775807 := by unfold maxLen at hmx; omega
  have HO := Own.start W
  generalize hg : greatB l most = g0
  replace hg := Lib.hid hg
  clear h
  go_enter Try.func8, Try.ntmps8
  go_wp2_with fail
  go_loopw [5] (fun i wr => ∃ j : Nat, j ≤ l.length ∧ i = .int .i64 (j : Int) ∧ (l.take j).any (fun p => decide (100 < p.id.size)) = false ∧ Own W wr []) (fun i _ => l.length - (intOf i).toNat)
  case atStart => exact ⟨0, by omega, rfl, rfl, HO⟩
  case round =>
    clear HO
    obtain ⟨j, hj, rfl, hnf, HO⟩ := hrel
    by_cases hjl : j < l.length
    · have hjI : (j : Int) < (l.length : Int) := by omega
      obtain ⟨a, rfl, hst⟩ := oldAt HH.out rfl hjl
      have h0 := fun w' (h1 : Own W w' []) => hst w' h1.grown 0 _ rfl
      have h00 := fun w' (h1 : Own W w' []) => (add0 (a.add (j * 5))) ▸ h0 w' h1
      replace hst := Lib.hid hst
      have HX := Lib.hid (show ¬ 100 < l[j].id.size → (l.take (j + 1)).any (fun p => decide (100 < p.id.size)) = false from fun hx => by
        rw [List.take_succ_eq_append_getElem hjl, List.any_append, hnf]
        simpa using hx)
      have HY := Lib.hid (show 100 < l[j].id.size → greatB l most = true from fun hx => by
        unfold greatB
        rw [List.any_eq_true.2 ⟨l[j], List.getElem_mem hjl, by simpa using hx⟩, Bool.true_or])
      clear hnf
      generalize l[j].id = s at *
      by_cases hz : 100 < s.size
      · have hzI : (100 : Int) < (s.size : Int) := by omega
        obtain rfl : g0 = true := hg.out.symm.trans (HY.out hz)
        clear HX HY hz
        go_wp2_with (first | (first | go_big_skip | ((with_reducible apply wpList_loadAll HO); exact rfl; exact rfl; (repeat (with_reducible (first | exact At.head _ | apply At.tail))); infer_instance; exact rfl; exact rfl; (simp only [Act.put, List.setIfInBounds_toArray, List.set_cons_succ, List.set_cons_zero])) | ((with_reducible apply wpList_loadOne HO); exact rfl; exact rfl; (repeat (with_reducible (first | exact At.head _ | apply At.tail))); exact rfl; infer_instance; exact rfl; (simp only [Act.put, List.setIfInBounds_toArray, List.set_cons_succ, List.set_cons_zero]))) | ((with_reducible apply wpList_loadAt1 HO); exact rfl; exact rfl; exact (h0); infer_instance; exact rfl; (simp only [Act.put, List.setIfInBounds_toArray, List.set_cons_succ, List.set_cons_zero])) | ((with_reducible apply wpList_loadAt1 HO); exact rfl; exact rfl; exact (h00); infer_instance; exact rfl; (simp only [Act.put, List.setIfInBounds_toArray, List.set_cons_succ, List.set_cons_zero])))
        go_ret
        exact ⟨rfl, HO.grown⟩
      · have hzI : ¬ (100 : Int) < (s.size : Int) := by omega
        have HZ := Lib.hid (HX.out hz)
        clear HX HY hz
        go_wp2_with (first | (first | go_big_skip | ((with_reducible apply wpList_loadAll HO); exact rfl; exact rfl; (repeat (with_reducible (first | exact At.head _ | apply At.tail))); infer_instance; exact rfl; exact rfl; (simp only [Act.put, List.setIfInBounds_toArray, List.set_cons_succ, List.set_cons_zero])) | ((with_reducible apply wpList_loadOne HO); exact rfl; exact rfl; (repeat (with_reducible (first | exact At.head _ | apply At.tail))); exact rfl; infer_instance; exact rfl; (simp only [Act.put, List.setIfInBounds_toArray, List.set_cons_succ, List.set_cons_zero]))) | ((with_reducible apply wpList_loadAt1 HO); exact rfl; exact rfl; exact (h0); infer_instance; exact rfl; (simp only [Act.put, List.setIfInBounds_toArray, List.set_cons_succ, List.set_cons_zero])) | ((with_reducible apply wpList_loadAt1 HO); exact rfl; exact rfl; exact (h00); infer_instance; exact rfl; (simp only [Act.put, List.setIfInBounds_toArray, List.set_cons_succ, List.set_cons_zero])))
        go_roundw
        case rel => exact ⟨j + 1, by omega, by go_num, HZ.out, HO⟩
        case measure => simp [intOf] <;> omega
    · obtain rfl : j = l.length := by omega
      rw [List.take_length] at hnf
      have HQ := Lib.hid (show greatB l most = decide (most < (l.length : Int)) by unfold greatB; rw [hnf, Bool.false_or])
      obtain rfl : g0 = decide (most < (l.length : Int)) := hg.out.symm.trans HQ.out
      clear hnf
      go_wp2_with fail
      go_ret
      exact ⟨rfl, HO.grown⟩

set_option maxHeartbeats 8000000 in
set_option maxRecDepth 100000 in
theorem same_any {W : World} {v u : Value} {l m : List Pst} (h : IsL W 5 v (l.map pstC)) (h' : IsL W 5 u (m.map pstC)) : Calls Try.prog 19 #[v, u] W fun e w' => e = .returned (.bool (decide (l = m))) ∧ Below W.heap.size W w' := by
  have HH := Lib.hid h
  have HH' := Lib.hid h'
  obtain ⟨sp, sc, rfl, hmx⟩ := h.slice
  obtain ⟨tp, tc, rfl, hmx2⟩ := h'.slice
  rw [List.length_map] at hmx hmx2 HH HH' ⊢
  rw [List.length_map]
  have hmx' : (l.length : Int) ≤ 9223372036854775807 := by unfold maxLen at hmx; omega
  have HO := Own.start W
  generalize hs : decide (l = m) = s0
  replace hs := Lib.hid hs
  clear h h'
  by_cases hlen : l.length = m.length
  · have hlenB : ((l.length : Int) != (m.length : Int)) = false := by rw [hlen]; simp
    go_enter Try.func19, Try.ntmps19
    go_wp2_with fail
    go_loopw [5] (fun i wr => ∃ j : Nat, j ≤ l.length ∧ i = .int .i64 (j : Int) ∧ l.take j = m.take j ∧ Own W wr []) (fun i _ => l.length - (intOf i).toNat)
    case atStart => exact ⟨0, by omega, rfl, rfl, HO⟩
    case round =>
      clear HO
      obtain ⟨j, hj, rfl, hnf, HO⟩ := hrel
      by_cases hjl : j < l.length
      · have hjm : j < m.length := by omega
        have hjI : (j : Int) < (l.length : Int) := by omega
        have hjM : (j : Int) < (m.length : Int) := by omega
        obtain ⟨a, rfl, hst⟩ := oldAt HH.out rfl hjl
        obtain ⟨a2, rfl, hst2⟩ := oldAt HH'.out rfl hjm
        replace hst := Lib.hid hst
        replace hst2 := Lib.hid hst2
        have HX := Lib.hid (show l[j] = m[j] → l.take (j + 1) = m.take (j + 1) from fun hx => by
          rw [List.take_succ_eq_append_getElem hjl, List.take_succ_eq_append_getElem hjm, hnf, hx])
        have HY := Lib.hid (show ¬ l[j] = m[j] → ¬ l = m from fun hx he => hx (by subst he; rfl))
        have hEq := fun w => run_pst_neq l[j] m[j] w
        clear hnf
        generalize hx : decide (l[j] = m[j]) = x at *
        replace hx := Lib.hid hx
        have HX' := Lib.hid (fun h => HX.out (of_decide_eq_true (hx.out.trans h)))
        have HY' := Lib.hid (fun h => HY.out (of_decide_eq_false (hx.out.trans h)))
        clear HX HY hx
        generalize l[j] = p at *
        generalize m[j] = q at *
        obtain ⟨pi, po, pd, pc, pa⟩ := p
        obtain ⟨qi, qo, qd, qc, qa⟩ := q
        simp only [pstC] at hst hst2 hEq
        cases x
        · obtain rfl : s0 = false := hs.out.symm.trans (decide_eq_false (HY'.out rfl))
          clear HX' HY'
          go_wp2_with (first | (first | go_big_skip | ((with_reducible apply wpList_loadAll HO); exact rfl; exact rfl; (repeat (with_reducible (first | exact At.head _ | apply At.tail))); infer_instance; exact rfl; exact rfl; (simp only [Act.put, List.setIfInBounds_toArray, List.set_cons_succ, List.set_cons_zero])) | ((with_reducible apply wpList_loadOne HO); exact rfl; exact rfl; (repeat (with_reducible (first | exact At.head _ | apply At.tail))); exact rfl; infer_instance; exact rfl; (simp only [Act.put, List.setIfInBounds_toArray, List.set_cons_succ, List.set_cons_zero]))))
          refine region_own HO (by kernel_rfl) (by kernel_rfl) ?_
          clear HO
          intro F HF
          repeat (first | (first | (first | go_big_quiet_skip | ((with_reducible apply wpQuiet_loadAll HF); exact rfl; exact rfl; (repeat (with_reducible (first | exact At.head _ | apply At.tail))); infer_instance; exact rfl; exact rfl; (simp only [Act.put, List.setIfInBounds_toArray, List.set_cons_succ, List.set_cons_zero])) | ((with_reducible apply wpQuiet_loadOne HF); exact rfl; exact rfl; (repeat (with_reducible (first | exact At.head _ | apply At.tail))); exact rfl; infer_instance; exact rfl; (simp only [Act.put, List.setIfInBounds_toArray, List.set_cons_succ, List.set_cons_zero])) | ((with_reducible apply wpQuiet_loadPart HF); exact rfl; exact rfl; (repeat (with_reducible (first | exact At.head _ | apply At.tail))); infer_instance; exact (Nat.le_of_ble_eq_true rfl); (simp only [List.drop_succ_cons, List.drop_zero, List.take_succ_cons, List.take_zero]; rfl); exact rfl; (simp only [Act.put, List.setIfInBounds_toArray, List.set_cons_succ, List.set_cons_zero]))) | ((with_reducible apply wpQuiet_loadAt HF); exact rfl; exact rfl; exact (fun w' h1 => hst.out w' h1.grown); infer_instance; exact rfl; exact rfl; (simp only [Act.put, List.setIfInBounds_toArray, List.set_cons_succ, List.set_cons_zero])) | ((with_reducible apply wpQuiet_loadAt HF); exact rfl; exact rfl; exact (fun w' h1 => hst2.out w' h1.grown); infer_instance; exact rfl; exact rfl; (simp only [Act.put, List.setIfInBounds_toArray, List.set_cons_succ, List.set_cons_zero]))) | go_big_quiet_step (fail))
          refine wpQuiet_nil ?_
          intro x
          have HO := HF.own x
          clear HF
          generalize F x = w at *
          clear x F
          go_wp2_with (first | (first | go_big_skip | ((with_reducible apply wpList_loadAll HO); exact rfl; exact rfl; (repeat (with_reducible (first | exact At.head _ | apply At.tail))); infer_instance; exact rfl; exact rfl; (simp only [Act.put, List.setIfInBounds_toArray, List.set_cons_succ, List.set_cons_zero])) | ((with_reducible apply wpList_loadOne HO); exact rfl; exact rfl; (repeat (with_reducible (first | exact At.head _ | apply At.tail))); exact rfl; infer_instance; exact rfl; (simp only [Act.put, List.setIfInBounds_toArray, List.set_cons_succ, List.set_cons_zero]))))
          go_ret
          exact ⟨rfl, HO.grown⟩
        · have HZ := Lib.hid (HX'.out rfl)
          clear HX' HY'
          go_wp2_with (first | (first | go_big_skip | ((with_reducible apply wpList_loadAll HO); exact rfl; exact rfl; (repeat (with_reducible (first | exact At.head _ | apply At.tail))); infer_instance; exact rfl; exact rfl; (simp only [Act.put, List.setIfInBounds_toArray, List.set_cons_succ, List.set_cons_zero])) | ((with_reducible apply wpList_loadOne HO); exact rfl; exact rfl; (repeat (with_reducible (first | exact At.head _ | apply At.tail))); exact rfl; infer_instance; exact rfl; (simp only [Act.put, List.setIfInBounds_toArray, List.set_cons_succ, List.set_cons_zero]))))
          refine region_own HO (by kernel_rfl) (by kernel_rfl) ?_
          clear HO
          intro F HF
          repeat (first | (first | (first | go_big_quiet_skip | ((with_reducible apply wpQuiet_loadAll HF); exact rfl; exact rfl; (repeat (with_reducible (first | exact At.head _ | apply At.tail))); infer_instance; exact rfl; exact rfl; (simp only [Act.put, List.setIfInBounds_toArray, List.set_cons_succ, List.set_cons_zero])) | ((with_reducible apply wpQuiet_loadOne HF); exact rfl; exact rfl; (repeat (with_reducible (first | exact At.head _ | apply At.tail))); exact rfl; infer_instance; exact rfl; (simp only [Act.put, List.setIfInBounds_toArray, List.set_cons_succ, List.set_cons_zero])) | ((with_reducible apply wpQuiet_loadPart HF); exact rfl; exact rfl; (repeat (with_reducible (first | exact At.head _ | apply At.tail))); infer_instance; exact (Nat.le_of_ble_eq_true rfl); (simp only [List.drop_succ_cons, List.drop_zero, List.take_succ_cons, List.take_zero]; rfl); exact rfl; (simp only [Act.put, List.setIfInBounds_toArray, List.set_cons_succ, List.set_cons_zero]))) | ((with_reducible apply wpQuiet_loadAt HF); exact rfl; exact rfl; exact (fun w' h1 => hst.out w' h1.grown); infer_instance; exact rfl; exact rfl; (simp only [Act.put, List.setIfInBounds_toArray, List.set_cons_succ, List.set_cons_zero])) | ((with_reducible apply wpQuiet_loadAt HF); exact rfl; exact rfl; exact (fun w' h1 => hst2.out w' h1.grown); infer_instance; exact rfl; exact rfl; (simp only [Act.put, List.setIfInBounds_toArray, List.set_cons_succ, List.set_cons_zero]))) | go_big_quiet_step (fail))
          refine wpQuiet_nil ?_
          intro x
          have HO := HF.own x
          clear HF
          generalize F x = w at *
          clear x F
          go_wp2_with (first | (first | go_big_skip | ((with_reducible apply wpList_loadAll HO); exact rfl; exact rfl; (repeat (with_reducible (first | exact At.head _ | apply At.tail))); infer_instance; exact rfl; exact rfl; (simp only [Act.put, List.setIfInBounds_toArray, List.set_cons_succ, List.set_cons_zero])) | ((with_reducible apply wpList_loadOne HO); exact rfl; exact rfl; (repeat (with_reducible (first | exact At.head _ | apply At.tail))); exact rfl; infer_instance; exact rfl; (simp only [Act.put, List.setIfInBounds_toArray, List.set_cons_succ, List.set_cons_zero]))))
          go_roundw
          case rel => exact ⟨j + 1, by omega, by go_num, HZ.out, HO⟩
          case measure => simp [intOf] <;> omega
      · obtain rfl : j = l.length := by omega
        rw [List.take_length, hlen, List.take_length] at hnf
        obtain rfl : s0 = true := hs.out.symm.trans (decide_eq_true hnf)
        clear hnf
        go_wp2_with fail
        go_ret
        exact ⟨rfl, HO.grown⟩
  · have hlenB : ((l.length : Int) != (m.length : Int)) = true := by rw [bne_iff_ne]; omega
    obtain rfl : s0 = false := hs.out.symm.trans (decide_eq_false (fun he => hlen (by rw [he])))
    go_enter Try.func19, Try.ntmps19
    go_wp2_with fail
    go_ret
    exact ⟨rfl, HO.grown⟩
end Go.Proofs.Ythiokpjakiidjaa
